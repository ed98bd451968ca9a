/- Functions in the small language, printed by program. -/
import Derived.Test.YtojdedadgddhgaaAl0
namespace Go.Proofs.Ytojdedadgddhgaa.AL
open Go

def F70 : Fnc := ⟨(.seq (.rg [p 2 (.box (.t 0)),
 p 3 (.box (.t 1)),
 p 4 (.mv (.k (.bool false)))])
 (.seq (.rg [p 5 (.fa 0 (.t 2)),
 p 6 (.ld (.t 5)),
 p 7 (.fa 0 (.t 3)),
 p 8 (.ld (.t 7)),
 p 9 (.call 263 [(.t 6), (.t 8), (.k (.func (.func 71) #[] #[]))]),
 p 10 (.mv (.t 9)),
 ⟨(some 11), .fa 1 (.t 2), (some (10, true)), false⟩,
 ⟨(some 12), .ld (.t 11), (some (10, true)), false⟩,
 ⟨(some 13), .fa 1 (.t 3), (some (10, true)), false⟩,
 ⟨(some 14), .ld (.t 13), (some (10, true)), false⟩,
 ⟨(some 15), .bin .eql (.t 12) (.t 14), (some (10, true)), false⟩,
 p 16 (.pick (.t 10) (.t 15) (.k (.bool false))),
 p 17 (.mv (.t 16)),
 ⟨(some 18), .fa 2 (.t 2), (some (17, true)), false⟩,
 ⟨(some 19), .ld (.t 18), (some (17, true)), false⟩,
 ⟨(some 20), .fa 2 (.t 3), (some (17, true)), false⟩,
 ⟨(some 21), .ld (.t 20), (some (17, true)), false⟩,
 ⟨(some 22), .bin .eql (.t 19) (.t 21), (some (17, true)), false⟩,
 p 23 (.pick (.t 17) (.t 22) (.k (.bool false))),
 p 24 (.mv (.t 23)),
 ⟨(some 25), .fa 3 (.t 2), (some (24, true)), false⟩,
 ⟨(some 26), .ld (.t 25), (some (24, true)), false⟩,
 ⟨(some 27), .fa 3 (.t 3), (some (24, true)), false⟩,
 ⟨(some 28), .ld (.t 27), (some (24, true)), false⟩,
 ⟨(some 29), .bin .eql (.t 26) (.t 28), (some (24, true)), false⟩,
 p 30 (.pick (.t 24) (.t 29) (.k (.bool false))),
 p 31 (.mv (.t 30)),
 ⟨(some 32), .fa 4 (.t 2), (some (31, true)), false⟩,
 ⟨(some 33), .ld (.t 32), (some (31, true)), false⟩,
 ⟨(some 34), .fa 4 (.t 3), (some (31, true)), false⟩,
 ⟨(some 35), .ld (.t 34), (some (31, true)), false⟩,
 ⟨(some 36), .eqb false (.t 33) (.t 35), (some (31, true)), false⟩,
 p 37 (.pick (.t 31) (.t 36) (.k (.bool false))),
 p 38 (.mv (.t 37)),
 ⟨(some 39), .fa 5 (.t 2), (some (38, true)), false⟩,
 ⟨(some 40), .ld (.t 39), (some (38, true)), false⟩,
 ⟨(some 41), .fa 5 (.t 3), (some (38, true)), false⟩,
 ⟨(some 42), .ld (.t 41), (some (38, true)), false⟩,
 ⟨(some 43), .eqb false (.t 40) (.t 42), (some (38, true)), false⟩,
 p 44 (.pick (.t 38) (.t 43) (.k (.bool false))),
 p 4 (.mv (.t 44))])
 .ret)),
 [.tmp 4]⟩

def F71 : Fnc := ⟨(.seq (.rg [p 2 (.box (.t 0)),
 p 3 (.box (.t 1)),
 p 4 (.mv (.k (.bool false)))])
 (.seq (.rg [p 5 (.fa 0 (.t 2)),
 p 6 (.ld (.t 5)),
 p 7 (.fa 0 (.t 3)),
 p 8 (.ld (.t 7)),
 p 9 (.eqb false (.t 6) (.t 8)),
 p 10 (.mv (.t 9)),
 ⟨(some 11), .fa 1 (.t 2), (some (10, true)), false⟩,
 ⟨(some 12), .ld (.t 11), (some (10, true)), false⟩,
 ⟨(some 13), .fa 1 (.t 3), (some (10, true)), false⟩,
 ⟨(some 14), .ld (.t 13), (some (10, true)), false⟩,
 ⟨(some 15), .bin .eql (.t 12) (.t 14), (some (10, true)), false⟩,
 p 16 (.pick (.t 10) (.t 15) (.k (.bool false))),
 p 17 (.mv (.t 16)),
 ⟨(some 18), .fa 2 (.t 2), (some (17, true)), false⟩,
 ⟨(some 19), .ld (.t 18), (some (17, true)), false⟩,
 ⟨(some 20), .fa 2 (.t 3), (some (17, true)), false⟩,
 ⟨(some 21), .ld (.t 20), (some (17, true)), false⟩,
 ⟨(some 22), .bin .eql (.t 19) (.t 21), (some (17, true)), false⟩,
 p 23 (.pick (.t 17) (.t 22) (.k (.bool false))),
 p 24 (.mv (.t 23)),
 ⟨(some 25), .fa 3 (.t 2), (some (24, true)), false⟩,
 ⟨(some 26), .ld (.t 25), (some (24, true)), false⟩,
 ⟨(some 27), .fa 3 (.t 3), (some (24, true)), false⟩,
 ⟨(some 28), .ld (.t 27), (some (24, true)), false⟩,
 ⟨(some 29), .bin .eql (.t 26) (.t 28), (some (24, true)), false⟩,
 p 30 (.pick (.t 24) (.t 29) (.k (.bool false))),
 p 31 (.mv (.t 30)),
 ⟨(some 32), .fa 4 (.t 2), (some (31, true)), false⟩,
 ⟨(some 33), .ld (.t 32), (some (31, true)), false⟩,
 ⟨(some 34), .fa 4 (.t 3), (some (31, true)), false⟩,
 ⟨(some 35), .ld (.t 34), (some (31, true)), false⟩,
 ⟨(some 36), .eqb false (.t 33) (.t 35), (some (31, true)), false⟩,
 p 37 (.pick (.t 31) (.t 36) (.k (.bool false))),
 p 38 (.mv (.t 37)),
 ⟨(some 39), .fa 5 (.t 2), (some (38, true)), false⟩,
 ⟨(some 40), .ld (.t 39), (some (38, true)), false⟩,
 ⟨(some 41), .fa 5 (.t 3), (some (38, true)), false⟩,
 ⟨(some 42), .ld (.t 41), (some (38, true)), false⟩,
 ⟨(some 43), .call 264 [(.t 40), (.t 42)], (some (38, true)), false⟩,
 p 44 (.pick (.t 38) (.t 43) (.k (.bool false))),
 p 4 (.mv (.t 44))])
 .ret)),
 [.tmp 4]⟩

def F116 : Fnc := ⟨(.seq (.rg [p 2 (.box (.t 0)),
 p 3 (.box (.t 1)),
 p 4 (.mv (.k (.bool false)))])
 (.seq (.rg [p 5 (.mv (.k (.int .i64 1048576)))])
 (.seq (.rg [p 10 (.ldn 6 (.t 2)),
 p 11 (.mv (.t 5)),
 p 12 (.call 151 [(.t 10), (.t 11)]),
 p 5 (.mv (.t 12))])
 (.seq (.seq (.rg [p 13 (.mv (.t 5)),
 p 14 (.bin .lss (.t 13) (.k (.int .i64 0)))])
 (.cond (.t 14) (.seq (.rg [p 4 (.mv (.k (.bool true)))])
 .ret)
 .skip))
 (.seq (.rg [p 15 (.ldn 6 (.t 3)),
 p 16 (.mv (.t 5)),
 p 17 (.call 151 [(.t 15), (.t 16)]),
 p 5 (.mv (.t 17))])
 (.seq (.seq (.rg [p 18 (.mv (.t 5)),
 p 19 (.bin .lss (.t 18) (.k (.int .i64 0)))])
 (.cond (.t 19) (.seq (.rg [p 4 (.mv (.k (.bool true)))])
 .ret)
 .skip))
 (.seq (.rg [⟨(some 20), .ldn 6 (.t 2), none, true⟩,
 ⟨(some 21), .call 167 [(.t 20)], none, true⟩,
 ⟨(some 22), .ldn 6 (.t 3), none, true⟩,
 p 23 (.call 167 [(.t 22)]),
 p 24 (.call 210 [(.t 21), (.t 23)]),
 p 6 (.mv (.t 24))])
 (.seq (.rg [p 25 (.ldn 6 (.t 2)),
 p 26 (.call 167 [(.t 25)]),
 p 7 (.new [.slice none 0 0, .int .i64 0, .int .i64 0, .int .i64 0, .bool false, .bool false]),
 ⟨none, .stn 6 (.t 7) (.t 26), none, false⟩])
 (.seq (.rg [p 27 (.ldn 6 (.t 3)),
 p 28 (.call 167 [(.t 27)]),
 p 8 (.new [.slice none 0 0, .int .i64 0, .int .i64 0, .int .i64 0, .bool false, .bool false]),
 ⟨none, .stn 6 (.t 8) (.t 28), none, false⟩])
 (.seq (.rg [p 29 (.ldn 6 (.t 7)),
 p 30 (.ldn 6 (.t 8)),
 p 31 (.call 70 [(.t 29), (.t 30)]),
 p 9 (.mv (.t 31))])
 (.seq (.seq (.rg [p 32 (.mv (.t 9)),
 p 33 (.mv (.t 6)),
 p 34 (.eqb true (.t 32) (.t 33))])
 (.cond (.t 34) (.seq (.rg [p 4 (.mv (.k (.bool false)))])
 .ret)
 .skip))
 (.seq (.seq (.rg [⟨(some 35), .ldn 6 (.t 7), none, true⟩,
 ⟨(some 36), .ldn 6 (.t 2), none, true⟩,
 ⟨(some 37), .call 167 [(.t 36)], none, true⟩,
 p 38 (.call 136 [(.t 35), (.t 37)]),
 p 39 (.not (.t 38))])
 (.cond (.t 39) (.seq (.rg [p 4 (.mv (.k (.bool false)))])
 .ret)
 .skip))
 (.seq (.seq (.rg [⟨(some 40), .ldn 6 (.t 8), none, true⟩,
 ⟨(some 41), .ldn 6 (.t 3), none, true⟩,
 ⟨(some 42), .call 167 [(.t 41)], none, true⟩,
 p 43 (.call 136 [(.t 40), (.t 42)]),
 p 44 (.not (.t 43))])
 (.cond (.t 44) (.seq (.rg [p 4 (.mv (.k (.bool false)))])
 .ret)
 .skip))
 (.seq (.rg [p 4 (.mv (.k (.bool true)))])
 .ret)))))))))))))),
 [.tmp 4]⟩

def F132 : Fnc := ⟨(.seq (.rg [p 4 (.mv (.k (.bool false)))])
 (.seq (.seq (.rg [p 6 (.mv (.t 0)),
 p 7 (.len (.t 6)),
 p 8 (.mv (.t 1)),
 p 9 (.len (.t 8)),
 p 10 (.bin .neq (.t 7) (.t 9))])
 (.cond (.t 10) (.seq (.rg [p 4 (.mv (.k (.bool false)))])
 .ret)
 .skip))
 (.seq (.seq (.rg [p 5 (.mv (.k (.int .i64 0)))])
 (.block 0 (.loop (.seq (.seq (.rg [p 11 (.mv (.t 5)),
 p 12 (.mv (.t 0)),
 p 13 (.len (.t 12)),
 p 14 (.bin .lss (.t 11) (.t 13))])
 (.cond (.t 14) .skip
 (.exit 0)))
 (.seq (.block 1 (.seq (.rg [⟨(some 17), .mv (.t 0), none, true⟩,
 ⟨(some 18), .mv (.t 5), none, true⟩,
 ⟨(some 19), .ia 1 (.t 17) (.t 18), none, true⟩,
 ⟨(some 20), .ld (.t 19), none, true⟩,
 ⟨(some 21), .mv (.t 1), none, true⟩,
 ⟨(some 22), .mv (.t 5), none, true⟩,
 ⟨(some 23), .ia 1 (.t 21) (.t 22), none, true⟩,
 ⟨(some 24), .ld (.t 23), none, true⟩,
 p 25 (.bin .neq (.t 20) (.t 24))])
 (.cond (.t 25) (.seq (.rg [p 4 (.mv (.k (.bool false)))])
 .ret)
 .skip)))
 (.rg [p 15 (.mv (.t 5)),
 p 16 (.bin .add (.t 15) (.k (.int .i64 1))),
 p 5 (.mv (.t 16))]))))))
 (.seq (.rg [p 4 (.mv (.k (.bool true)))])
 .ret)))),
 [.tmp 4]⟩

def F136 : Fnc := ⟨(.seq (.rg [p 2 (.box (.t 0)),
 p 3 (.box (.t 1)),
 p 4 (.mv (.k (.bool false)))])
 (.seq (.seq (.rg [p 5 (.fa 0 (.t 2)),
 p 6 (.ld (.t 5)),
 p 7 (.fa 0 (.t 3)),
 p 8 (.ld (.t 7)),
 p 9 (.call 139 [(.t 6), (.t 8)]),
 p 10 (.not (.t 9))])
 (.cond (.t 10) (.seq (.rg [p 4 (.mv (.k (.bool false)))])
 .ret)
 .skip))
 (.seq (.seq (.rg [p 11 (.fa 1 (.t 2)),
 p 12 (.ld (.t 11)),
 p 13 (.fa 1 (.t 3)),
 p 14 (.ld (.t 13)),
 p 15 (.bin .neq (.t 12) (.t 14))])
 (.cond (.t 15) (.seq (.rg [p 4 (.mv (.k (.bool false)))])
 .ret)
 .skip))
 (.seq (.seq (.rg [p 16 (.fa 2 (.t 2)),
 p 17 (.ld (.t 16)),
 p 18 (.fa 2 (.t 3)),
 p 19 (.ld (.t 18)),
 p 20 (.bin .neq (.t 17) (.t 19))])
 (.cond (.t 20) (.seq (.rg [p 4 (.mv (.k (.bool false)))])
 .ret)
 .skip))
 (.seq (.seq (.rg [p 21 (.fa 3 (.t 2)),
 p 22 (.ld (.t 21)),
 p 23 (.fa 3 (.t 3)),
 p 24 (.ld (.t 23)),
 p 25 (.bin .neq (.t 22) (.t 24))])
 (.cond (.t 25) (.seq (.rg [p 4 (.mv (.k (.bool false)))])
 .ret)
 .skip))
 (.seq (.seq (.rg [p 26 (.fa 4 (.t 2)),
 p 27 (.ld (.t 26)),
 p 28 (.fa 4 (.t 3)),
 p 29 (.ld (.t 28)),
 p 30 (.eqb true (.t 27) (.t 29))])
 (.cond (.t 30) (.seq (.rg [p 4 (.mv (.k (.bool false)))])
 .ret)
 .skip))
 (.seq (.seq (.rg [p 31 (.fa 5 (.t 2)),
 p 32 (.ld (.t 31)),
 p 33 (.fa 5 (.t 3)),
 p 34 (.ld (.t 33)),
 p 35 (.eqb true (.t 32) (.t 34))])
 (.cond (.t 35) (.seq (.rg [p 4 (.mv (.k (.bool false)))])
 .ret)
 .skip))
 (.seq (.rg [p 4 (.mv (.k (.bool true)))])
 .ret)))))))),
 [.tmp 4]⟩

def F138 : Fnc := ⟨(.seq (.rg [p 2 (.box (.t 0)),
 p 3 (.box (.t 1)),
 p 4 (.mv (.k (.bool false)))])
 (.seq (.seq (.rg [p 5 (.fa 0 (.t 2)),
 p 6 (.ld (.t 5)),
 p 7 (.fa 0 (.t 3)),
 p 8 (.ld (.t 7)),
 p 9 (.eqb true (.t 6) (.t 8))])
 (.cond (.t 9) (.seq (.rg [p 4 (.mv (.k (.bool false)))])
 .ret)
 .skip))
 (.seq (.seq (.rg [p 10 (.fa 1 (.t 2)),
 p 11 (.ld (.t 10)),
 p 12 (.fa 1 (.t 3)),
 p 13 (.ld (.t 12)),
 p 14 (.bin .neq (.t 11) (.t 13))])
 (.cond (.t 14) (.seq (.rg [p 4 (.mv (.k (.bool false)))])
 .ret)
 .skip))
 (.seq (.seq (.rg [p 15 (.fa 2 (.t 2)),
 p 16 (.ld (.t 15)),
 p 17 (.fa 2 (.t 3)),
 p 18 (.ld (.t 17)),
 p 19 (.bin .neq (.t 16) (.t 18))])
 (.cond (.t 19) (.seq (.rg [p 4 (.mv (.k (.bool false)))])
 .ret)
 .skip))
 (.seq (.seq (.rg [p 20 (.fa 3 (.t 2)),
 p 21 (.ld (.t 20)),
 p 22 (.fa 3 (.t 3)),
 p 23 (.ld (.t 22)),
 p 24 (.bin .neq (.t 21) (.t 23))])
 (.cond (.t 24) (.seq (.rg [p 4 (.mv (.k (.bool false)))])
 .ret)
 .skip))
 (.seq (.seq (.rg [p 25 (.fa 4 (.t 2)),
 p 26 (.ld (.t 25)),
 p 27 (.fa 4 (.t 3)),
 p 28 (.ld (.t 27)),
 p 29 (.eqb true (.t 26) (.t 28))])
 (.cond (.t 29) (.seq (.rg [p 4 (.mv (.k (.bool false)))])
 .ret)
 .skip))
 (.seq (.seq (.rg [p 30 (.fa 5 (.t 2)),
 p 31 (.ld (.t 30)),
 p 32 (.fa 5 (.t 3)),
 p 33 (.ld (.t 32)),
 p 34 (.call 132 [(.t 31), (.t 33)]),
 p 35 (.not (.t 34))])
 (.cond (.t 35) (.seq (.rg [p 4 (.mv (.k (.bool false)))])
 .ret)
 .skip))
 (.seq (.rg [p 4 (.mv (.k (.bool true)))])
 .ret)))))))),
 [.tmp 4]⟩

def F139 : Fnc := ⟨(.seq (.rg [p 4 (.mv (.k (.bool false)))])
 (.seq (.seq (.rg [p 6 (.mv (.t 0)),
 p 7 (.len (.t 6)),
 p 8 (.mv (.t 1)),
 p 9 (.len (.t 8)),
 p 10 (.bin .neq (.t 7) (.t 9))])
 (.cond (.t 10) (.seq (.rg [p 4 (.mv (.k (.bool false)))])
 .ret)
 .skip))
 (.seq (.seq (.rg [p 5 (.mv (.k (.int .i64 0)))])
 (.block 0 (.loop (.seq (.seq (.rg [p 11 (.mv (.t 5)),
 p 12 (.mv (.t 0)),
 p 13 (.len (.t 12)),
 p 14 (.bin .lss (.t 11) (.t 13))])
 (.cond (.t 14) .skip
 (.exit 0)))
 (.seq (.block 1 (.seq (.rg [⟨(some 17), .mv (.t 0), none, true⟩,
 ⟨(some 18), .mv (.t 5), none, true⟩,
 ⟨(some 19), .ia 6 (.t 17) (.t 18), none, true⟩,
 ⟨(some 20), .ldn 6 (.t 19), none, true⟩,
 ⟨(some 21), .mv (.t 1), none, true⟩,
 ⟨(some 22), .mv (.t 5), none, true⟩,
 ⟨(some 23), .ia 6 (.t 21) (.t 22), none, true⟩,
 ⟨(some 24), .ldn 6 (.t 23), none, true⟩,
 p 25 (.call 138 [(.t 20), (.t 24)]),
 p 26 (.not (.t 25))])
 (.cond (.t 26) (.seq (.rg [p 4 (.mv (.k (.bool false)))])
 .ret)
 .skip)))
 (.rg [p 15 (.mv (.t 5)),
 p 16 (.bin .add (.t 15) (.k (.int .i64 1))),
 p 5 (.mv (.t 16))]))))))
 (.seq (.rg [p 4 (.mv (.k (.bool true)))])
 .ret)))),
 [.tmp 4]⟩

def F148 : Fnc := ⟨(.seq (.rg [p 4 (.mv (.k (.int .i64 0)))])
 (.seq (.rg [p 5 (.mv (.t 1)),
 p 6 (.mv (.t 0)),
 p 7 (.len (.t 6)),
 p 8 (.bin .sub (.t 5) (.t 7)),
 p 1 (.mv (.t 8))])
 (.seq (.seq (.rg [p 9 (.mv (.t 1)),
 p 10 (.bin .lss (.t 9) (.k (.int .i64 0)))])
 (.cond (.t 10) (.seq (.rg [p 4 (.mv (.k (.int .i64 (-1))))])
 .ret)
 .skip))
 (.seq (.rg [p 11 (.mv (.t 1)),
 p 4 (.mv (.t 11))])
 .ret)))),
 [.tmp 4]⟩

def F151 : Fnc := ⟨(.seq (.rg [p 2 (.box (.t 0)),
 p 4 (.mv (.k (.int .i64 0)))])
 (.seq (.rg [p 5 (.fa 0 (.t 2)),
 p 6 (.ld (.t 5)),
 p 7 (.mv (.t 1)),
 p 8 (.call 154 [(.t 6), (.t 7)]),
 p 1 (.mv (.t 8))])
 (.seq (.seq (.rg [p 9 (.mv (.t 1)),
 p 10 (.bin .lss (.t 9) (.k (.int .i64 0)))])
 (.cond (.t 10) (.seq (.rg [p 4 (.mv (.k (.int .i64 (-1))))])
 .ret)
 .skip))
 (.seq (.rg [p 11 (.mv (.t 1)),
 p 4 (.mv (.t 11))])
 .ret)))),
 [.tmp 4]⟩

def F153 : Fnc := ⟨(.seq (.rg [p 2 (.box (.t 0)),
 p 4 (.mv (.k (.int .i64 0)))])
 (.seq (.rg [p 5 (.fa 5 (.t 2)),
 p 6 (.ld (.t 5)),
 p 7 (.mv (.t 1)),
 p 8 (.call 148 [(.t 6), (.t 7)]),
 p 1 (.mv (.t 8))])
 (.seq (.seq (.rg [p 9 (.mv (.t 1)),
 p 10 (.bin .lss (.t 9) (.k (.int .i64 0)))])
 (.cond (.t 10) (.seq (.rg [p 4 (.mv (.k (.int .i64 (-1))))])
 .ret)
 .skip))
 (.seq (.rg [p 11 (.mv (.t 1)),
 p 4 (.mv (.t 11))])
 .ret)))),
 [.tmp 4]⟩

def F154 : Fnc := ⟨(.seq (.rg [p 4 (.mv (.k (.int .i64 0)))])
 (.seq (.rg [p 6 (.mv (.t 1)),
 p 7 (.mv (.t 0)),
 p 8 (.len (.t 7)),
 p 9 (.bin .sub (.t 6) (.t 8)),
 p 1 (.mv (.t 9))])
 (.seq (.seq (.rg [p 10 (.mv (.t 1)),
 p 11 (.bin .lss (.t 10) (.k (.int .i64 0)))])
 (.cond (.t 11) (.seq (.rg [p 4 (.mv (.k (.int .i64 (-1))))])
 .ret)
 .skip))
 (.seq (.seq (.rg [p 5 (.mv (.k (.int .i64 0)))])
 (.block 0 (.loop (.seq (.seq (.rg [p 12 (.mv (.t 5)),
 p 13 (.mv (.t 0)),
 p 14 (.len (.t 13)),
 p 15 (.bin .lss (.t 12) (.t 14))])
 (.cond (.t 15) .skip
 (.exit 0)))
 (.seq (.block 1 (.seq (.rg [p 18 (.mv (.t 0)),
 p 19 (.mv (.t 5)),
 p 20 (.ia 6 (.t 18) (.t 19)),
 p 21 (.ldn 6 (.t 20)),
 p 22 (.mv (.t 1)),
 p 23 (.call 153 [(.t 21), (.t 22)]),
 p 1 (.mv (.t 23))])
 (.seq (.rg [p 24 (.mv (.t 1)),
 p 25 (.bin .lss (.t 24) (.k (.int .i64 0)))])
 (.cond (.t 25) (.seq (.rg [p 4 (.mv (.k (.int .i64 (-1))))])
 .ret)
 .skip))))
 (.rg [p 16 (.mv (.t 5)),
 p 17 (.bin .add (.t 16) (.k (.int .i64 1))),
 p 5 (.mv (.t 17))]))))))
 (.seq (.rg [p 26 (.mv (.t 1)),
 p 4 (.mv (.t 26))])
 .ret))))),
 [.tmp 4]⟩

def F163 : Fnc := ⟨(.seq (.rg [p 2 (.mv (.k (.slice none 0 0)))])
 (.seq (.rg [p 5 (.mv (.t 0)),
 p 6 (.len (.t 5)),
 p 7 (.mk 1 8 [.int .i64 0] (.t 6) (.t 6)),
 p 3 (.mv (.t 7))])
 (.seq (.seq (.rg [p 4 (.mv (.k (.int .i64 0)))])
 (.block 0 (.loop (.seq (.seq (.rg [p 8 (.mv (.t 4)),
 p 9 (.mv (.t 0)),
 p 10 (.len (.t 9)),
 p 11 (.bin .lss (.t 8) (.t 10))])
 (.cond (.t 11) .skip
 (.exit 0)))
 (.seq (.block 1 (.rg [p 14 (.mv (.t 3)),
 p 15 (.mv (.t 4)),
 p 16 (.mv (.t 0)),
 p 17 (.mv (.t 4)),
 p 18 (.ia 1 (.t 16) (.t 17)),
 p 19 (.ld (.t 18)),
 p 20 (.ia 1 (.t 14) (.t 15)),
 ⟨none, .st (.t 20) (.t 19), none, false⟩]))
 (.rg [p 12 (.mv (.t 4)),
 p 13 (.bin .add (.t 12) (.k (.int .i64 1))),
 p 4 (.mv (.t 13))]))))))
 (.seq (.rg [p 21 (.mv (.t 3)),
 p 2 (.mv (.t 21))])
 .ret)))),
 [.tmp 2]⟩

def F167 : Fnc := ⟨(.seq (.rg [p 1 (.box (.t 0)),
 p 2 (.new [.slice none 0 0, .int .i64 0, .int .i64 0, .int .i64 0, .bool false, .bool false])])
 (.seq (.rg [p 3 (.new [.slice none 0 0, .int .i64 0, .int .i64 0, .int .i64 0, .bool false, .bool false])])
 (.seq (.rg [p 4 (.fa 0 (.t 1)),
 p 5 (.ld (.t 4)),
 p 6 (.call 170 [(.t 5)]),
 p 7 (.fa 0 (.t 3)),
 ⟨none, .st (.t 7) (.t 6), none, false⟩])
 (.seq (.rg [p 8 (.fa 1 (.t 1)),
 p 9 (.ld (.t 8)),
 p 10 (.fa 1 (.t 3)),
 ⟨none, .st (.t 10) (.t 9), none, false⟩])
 (.seq (.rg [p 11 (.fa 2 (.t 1)),
 p 12 (.ld (.t 11)),
 p 13 (.fa 2 (.t 3)),
 ⟨none, .st (.t 13) (.t 12), none, false⟩])
 (.seq (.rg [p 14 (.fa 3 (.t 1)),
 p 15 (.ld (.t 14)),
 p 16 (.fa 3 (.t 3)),
 ⟨none, .st (.t 16) (.t 15), none, false⟩])
 (.seq (.rg [p 17 (.fa 4 (.t 1)),
 p 18 (.ld (.t 17)),
 p 19 (.fa 4 (.t 3)),
 ⟨none, .st (.t 19) (.t 18), none, false⟩])
 (.seq (.rg [p 20 (.fa 5 (.t 1)),
 p 21 (.ld (.t 20)),
 p 22 (.fa 5 (.t 3)),
 ⟨none, .st (.t 22) (.t 21), none, false⟩])
 (.seq (.rg [p 23 (.ldn 6 (.t 3)),
 ⟨none, .stn 6 (.t 2) (.t 23), none, false⟩])
 .ret))))))))),
 [.celln 2 6]⟩

def F169 : Fnc := ⟨(.seq (.rg [p 1 (.box (.t 0)),
 p 2 (.new [.bool false, .int .i64 0, .int .i64 0, .int .i64 0, .bool false, .slice none 0 0])])
 (.seq (.rg [p 3 (.new [.bool false, .int .i64 0, .int .i64 0, .int .i64 0, .bool false, .slice none 0 0])])
 (.seq (.rg [p 4 (.fa 0 (.t 1)),
 p 5 (.ld (.t 4)),
 p 6 (.fa 0 (.t 3)),
 ⟨none, .st (.t 6) (.t 5), none, false⟩])
 (.seq (.rg [p 7 (.fa 1 (.t 1)),
 p 8 (.ld (.t 7)),
 p 9 (.fa 1 (.t 3)),
 ⟨none, .st (.t 9) (.t 8), none, false⟩])
 (.seq (.rg [p 10 (.fa 2 (.t 1)),
 p 11 (.ld (.t 10)),
 p 12 (.fa 2 (.t 3)),
 ⟨none, .st (.t 12) (.t 11), none, false⟩])
 (.seq (.rg [p 13 (.fa 3 (.t 1)),
 p 14 (.ld (.t 13)),
 p 15 (.fa 3 (.t 3)),
 ⟨none, .st (.t 15) (.t 14), none, false⟩])
 (.seq (.rg [p 16 (.fa 4 (.t 1)),
 p 17 (.ld (.t 16)),
 p 18 (.fa 4 (.t 3)),
 ⟨none, .st (.t 18) (.t 17), none, false⟩])
 (.seq (.rg [p 19 (.fa 5 (.t 1)),
 p 20 (.ld (.t 19)),
 p 21 (.call 163 [(.t 20)]),
 p 22 (.fa 5 (.t 3)),
 ⟨none, .st (.t 22) (.t 21), none, false⟩])
 (.seq (.rg [p 23 (.ldn 6 (.t 3)),
 ⟨none, .stn 6 (.t 2) (.t 23), none, false⟩])
 .ret))))))))),
 [.celln 2 6]⟩

def F170 : Fnc := ⟨(.seq (.rg [p 2 (.mv (.k (.slice none 0 0)))])
 (.seq (.rg [p 5 (.mv (.t 0)),
 p 6 (.len (.t 5)),
 p 7 (.mk 6 64 [.bool false, .int .i64 0, .int .i64 0, .int .i64 0, .bool false, .slice none 0 0] (.t 6) (.t 6)),
 p 3 (.mv (.t 7))])
 (.seq (.seq (.rg [p 4 (.mv (.k (.int .i64 0)))])
 (.block 0 (.loop (.seq (.seq (.rg [p 8 (.mv (.t 4)),
 p 9 (.mv (.t 0)),
 p 10 (.len (.t 9)),
 p 11 (.bin .lss (.t 8) (.t 10))])
 (.cond (.t 11) .skip
 (.exit 0)))
 (.seq (.block 1 (.rg [p 14 (.mv (.t 3)),
 p 15 (.mv (.t 4)),
 p 16 (.mv (.t 0)),
 p 17 (.mv (.t 4)),
 p 18 (.ia 6 (.t 16) (.t 17)),
 p 19 (.ldn 6 (.t 18)),
 p 20 (.call 169 [(.t 19)]),
 p 21 (.ia 6 (.t 14) (.t 15)),
 ⟨none, .stn 6 (.t 21) (.t 20), none, false⟩]))
 (.rg [p 12 (.mv (.t 4)),
 p 13 (.bin .add (.t 12) (.k (.int .i64 1))),
 p 4 (.mv (.t 13))]))))))
 (.seq (.rg [p 22 (.mv (.t 3)),
 p 2 (.mv (.t 22))])
 .ret)))),
 [.tmp 2]⟩

def F210 : Fnc := ⟨(.seq (.rg [p 2 (.box (.t 0)),
 p 3 (.box (.t 1)),
 p 4 (.mv (.k (.bool false)))])
 (.seq (.seq (.rg [p 6 (.fa 0 (.t 2)),
 p 7 (.ld (.t 6)),
 p 8 (.len (.t 7)),
 p 9 (.fa 0 (.t 3)),
 p 10 (.ld (.t 9)),
 p 11 (.len (.t 10)),
 p 12 (.bin .neq (.t 8) (.t 11))])
 (.cond (.t 12) (.seq (.rg [p 4 (.mv (.k (.bool false)))])
 .ret)
 .skip))
 (.seq (.seq (.rg [p 5 (.mv (.k (.int .i64 0)))])
 (.block 0 (.loop (.seq (.seq (.rg [p 13 (.mv (.t 5)),
 p 14 (.fa 0 (.t 2)),
 p 15 (.ld (.t 14)),
 p 16 (.len (.t 15)),
 p 17 (.bin .lss (.t 13) (.t 16))])
 (.cond (.t 17) .skip
 (.exit 0)))
 (.seq (.block 1 (.seq (.rg [⟨(some 20), .fa 0 (.t 2), none, true⟩,
 ⟨(some 21), .ld (.t 20), none, true⟩,
 ⟨(some 22), .mv (.t 5), none, true⟩,
 ⟨(some 23), .ia 6 (.t 21) (.t 22), none, true⟩,
 ⟨(some 24), .ldn 6 (.t 23), none, true⟩,
 ⟨(some 25), .fa 0 (.t 3), none, true⟩,
 ⟨(some 26), .ld (.t 25), none, true⟩,
 ⟨(some 27), .mv (.t 5), none, true⟩,
 ⟨(some 28), .ia 6 (.t 26) (.t 27), none, true⟩,
 ⟨(some 29), .ldn 6 (.t 28), none, true⟩,
 p 30 (.call 211 [(.t 24), (.t 29)]),
 p 31 (.not (.t 30))])
 (.cond (.t 31) (.seq (.rg [p 4 (.mv (.k (.bool false)))])
 .ret)
 .skip)))
 (.rg [p 18 (.mv (.t 5)),
 p 19 (.bin .add (.t 18) (.k (.int .i64 1))),
 p 5 (.mv (.t 19))]))))))
 (.seq (.rg [p 32 (.fa 1 (.t 2)),
 p 33 (.ld (.t 32)),
 p 34 (.fa 1 (.t 3)),
 p 35 (.ld (.t 34)),
 p 36 (.bin .eql (.t 33) (.t 35)),
 p 37 (.mv (.t 36)),
 ⟨(some 38), .fa 2 (.t 2), (some (37, true)), false⟩,
 ⟨(some 39), .ld (.t 38), (some (37, true)), false⟩,
 ⟨(some 40), .fa 2 (.t 3), (some (37, true)), false⟩,
 ⟨(some 41), .ld (.t 40), (some (37, true)), false⟩,
 ⟨(some 42), .bin .eql (.t 39) (.t 41), (some (37, true)), false⟩,
 p 43 (.pick (.t 37) (.t 42) (.k (.bool false))),
 p 44 (.mv (.t 43)),
 ⟨(some 45), .fa 3 (.t 2), (some (44, true)), false⟩,
 ⟨(some 46), .ld (.t 45), (some (44, true)), false⟩,
 ⟨(some 47), .fa 3 (.t 3), (some (44, true)), false⟩,
 ⟨(some 48), .ld (.t 47), (some (44, true)), false⟩,
 ⟨(some 49), .bin .eql (.t 46) (.t 48), (some (44, true)), false⟩,
 p 50 (.pick (.t 44) (.t 49) (.k (.bool false))),
 p 51 (.mv (.t 50)),
 ⟨(some 52), .fa 4 (.t 2), (some (51, true)), false⟩,
 ⟨(some 53), .ld (.t 52), (some (51, true)), false⟩,
 ⟨(some 54), .fa 4 (.t 3), (some (51, true)), false⟩,
 ⟨(some 55), .ld (.t 54), (some (51, true)), false⟩,
 ⟨(some 56), .eqb false (.t 53) (.t 55), (some (51, true)), false⟩,
 p 57 (.pick (.t 51) (.t 56) (.k (.bool false))),
 p 58 (.mv (.t 57)),
 ⟨(some 59), .fa 5 (.t 2), (some (58, true)), false⟩,
 ⟨(some 60), .ld (.t 59), (some (58, true)), false⟩,
 ⟨(some 61), .fa 5 (.t 3), (some (58, true)), false⟩,
 ⟨(some 62), .ld (.t 61), (some (58, true)), false⟩,
 ⟨(some 63), .eqb false (.t 60) (.t 62), (some (58, true)), false⟩,
 p 64 (.pick (.t 58) (.t 63) (.k (.bool false))),
 p 4 (.mv (.t 64))])
 .ret)))),
 [.tmp 4]⟩

def F211 : Fnc := ⟨(.seq (.rg [p 2 (.box (.t 0)),
 p 3 (.box (.t 1)),
 p 4 (.mv (.k (.bool false)))])
 (.seq (.rg [p 5 (.fa 0 (.t 2)),
 p 6 (.ld (.t 5)),
 p 7 (.fa 0 (.t 3)),
 p 8 (.ld (.t 7)),
 p 9 (.eqb false (.t 6) (.t 8)),
 p 10 (.mv (.t 9)),
 ⟨(some 11), .fa 1 (.t 2), (some (10, true)), false⟩,
 ⟨(some 12), .ld (.t 11), (some (10, true)), false⟩,
 ⟨(some 13), .fa 1 (.t 3), (some (10, true)), false⟩,
 ⟨(some 14), .ld (.t 13), (some (10, true)), false⟩,
 ⟨(some 15), .bin .eql (.t 12) (.t 14), (some (10, true)), false⟩,
 p 16 (.pick (.t 10) (.t 15) (.k (.bool false))),
 p 17 (.mv (.t 16)),
 ⟨(some 18), .fa 2 (.t 2), (some (17, true)), false⟩,
 ⟨(some 19), .ld (.t 18), (some (17, true)), false⟩,
 ⟨(some 20), .fa 2 (.t 3), (some (17, true)), false⟩,
 ⟨(some 21), .ld (.t 20), (some (17, true)), false⟩,
 ⟨(some 22), .bin .eql (.t 19) (.t 21), (some (17, true)), false⟩,
 p 23 (.pick (.t 17) (.t 22) (.k (.bool false))),
 p 24 (.mv (.t 23)),
 ⟨(some 25), .fa 3 (.t 2), (some (24, true)), false⟩,
 ⟨(some 26), .ld (.t 25), (some (24, true)), false⟩,
 ⟨(some 27), .fa 3 (.t 3), (some (24, true)), false⟩,
 ⟨(some 28), .ld (.t 27), (some (24, true)), false⟩,
 ⟨(some 29), .bin .eql (.t 26) (.t 28), (some (24, true)), false⟩,
 p 30 (.pick (.t 24) (.t 29) (.k (.bool false))),
 p 31 (.mv (.t 30)),
 ⟨(some 32), .fa 4 (.t 2), (some (31, true)), false⟩,
 ⟨(some 33), .ld (.t 32), (some (31, true)), false⟩,
 ⟨(some 34), .fa 4 (.t 3), (some (31, true)), false⟩,
 ⟨(some 35), .ld (.t 34), (some (31, true)), false⟩,
 ⟨(some 36), .eqb false (.t 33) (.t 35), (some (31, true)), false⟩,
 p 37 (.pick (.t 31) (.t 36) (.k (.bool false))),
 p 38 (.mv (.t 37)),
 ⟨(some 39), .fa 5 (.t 2), (some (38, true)), false⟩,
 ⟨(some 40), .ld (.t 39), (some (38, true)), false⟩,
 ⟨(some 41), .fa 5 (.t 3), (some (38, true)), false⟩,
 ⟨(some 42), .ld (.t 41), (some (38, true)), false⟩,
 ⟨(some 43), .call 240 [(.t 40), (.t 42)], (some (38, true)), false⟩,
 p 44 (.pick (.t 38) (.t 43) (.k (.bool false))),
 p 4 (.mv (.t 44))])
 .ret)),
 [.tmp 4]⟩

def F240 : Fnc := ⟨(.seq (.rg [p 4 (.mv (.k (.bool false)))])
 (.seq (.seq (.rg [p 6 (.mv (.t 0)),
 p 7 (.len (.t 6)),
 p 8 (.mv (.t 1)),
 p 9 (.len (.t 8)),
 p 10 (.bin .neq (.t 7) (.t 9))])
 (.cond (.t 10) (.seq (.rg [p 4 (.mv (.k (.bool false)))])
 .ret)
 .skip))
 (.seq (.seq (.rg [p 5 (.mv (.k (.int .i64 0)))])
 (.block 0 (.loop (.seq (.seq (.rg [p 11 (.mv (.t 5)),
 p 12 (.mv (.t 0)),
 p 13 (.len (.t 12)),
 p 14 (.bin .lss (.t 11) (.t 13))])
 (.cond (.t 14) .skip
 (.exit 0)))
 (.seq (.block 1 (.seq (.rg [⟨(some 17), .mv (.t 0), none, true⟩,
 ⟨(some 18), .mv (.t 5), none, true⟩,
 ⟨(some 19), .ia 1 (.t 17) (.t 18), none, true⟩,
 ⟨(some 20), .ld (.t 19), none, true⟩,
 ⟨(some 21), .mv (.t 1), none, true⟩,
 ⟨(some 22), .mv (.t 5), none, true⟩,
 ⟨(some 23), .ia 1 (.t 21) (.t 22), none, true⟩,
 ⟨(some 24), .ld (.t 23), none, true⟩,
 p 25 (.bin .neq (.t 20) (.t 24))])
 (.cond (.t 25) (.seq (.rg [p 4 (.mv (.k (.bool false)))])
 .ret)
 .skip)))
 (.rg [p 15 (.mv (.t 5)),
 p 16 (.bin .add (.t 15) (.k (.int .i64 1))),
 p 5 (.mv (.t 16))]))))))
 (.seq (.rg [p 4 (.mv (.k (.bool true)))])
 .ret)))),
 [.tmp 4]⟩

def F263 : Fnc := ⟨(.seq (.rg [p 6 (.mv (.k (.bool false)))])
 (.seq (.seq (.rg [p 10 (.mv (.t 0)),
 p 11 (.len (.t 10)),
 p 12 (.mv (.t 1)),
 p 13 (.len (.t 12)),
 p 14 (.bin .neq (.t 11) (.t 13))])
 (.cond (.t 14) (.seq (.rg [p 6 (.mv (.k (.bool false)))])
 .ret)
 .skip))
 (.seq (.seq (.rg [p 15 (.mv (.t 0)),
 p 16 (.len (.t 15)),
 p 17 (.mv (.k (.int .i64 0)))])
 (.block 0 (.loop (.seq (.rg [p 18 (.bin .lss (.t 17) (.t 16))])
 (.seq (.cond (.t 18) .skip
 (.exit 0))
 (.seq (.block 1 (.seq (.rg [p 19 (.mv (.t 17)),
 p 20 (.ia 6 (.t 15) (.t 17)),
 p 21 (.ldn 6 (.t 20)),
 p 8 (.new [.bool false, .int .i64 0, .int .i64 0, .int .i64 0, .bool false, .slice none 0 0]),
 p 7 (.mv (.t 19)),
 ⟨none, .stn 6 (.t 8) (.t 21), none, false⟩])
 (.seq (.rg [p 22 (.mv (.t 1)),
 p 23 (.mv (.t 7)),
 p 24 (.ia 6 (.t 22) (.t 23)),
 p 25 (.ldn 6 (.t 24)),
 p 9 (.new [.bool false, .int .i64 0, .int .i64 0, .int .i64 0, .bool false, .slice none 0 0]),
 ⟨none, .stn 6 (.t 9) (.t 25), none, false⟩])
 (.seq (.rg [p 26 (.mv (.t 2)),
 p 27 (.ldn 6 (.t 8)),
 p 28 (.ldn 6 (.t 9)),
 p 29 (.calli (.t 26) [(.t 27), (.t 28)]),
 p 30 (.not (.t 29))])
 (.cond (.t 30) (.seq (.rg [p 6 (.mv (.k (.bool false)))])
 .ret)
 .skip)))))
 (.rg [p 31 (.bin .add (.t 17) (.k (.int .i64 1))),
 p 17 (.mv (.t 31))])))))))
 (.seq (.rg [p 6 (.mv (.k (.bool true)))])
 .ret)))),
 [.tmp 6]⟩

def F264 : Fnc := ⟨(.seq (.rg [p 4 (.mv (.k (.bool false)))])
 (.seq (.seq (.rg [p 6 (.mv (.t 0)),
 p 7 (.len (.t 6)),
 p 8 (.mv (.t 1)),
 p 9 (.len (.t 8)),
 p 10 (.bin .neq (.t 7) (.t 9))])
 (.cond (.t 10) (.seq (.rg [p 4 (.mv (.k (.bool false)))])
 .ret)
 .skip))
 (.seq (.seq (.rg [p 11 (.mv (.t 0)),
 p 12 (.len (.t 11)),
 p 13 (.mv (.k (.int .i64 0)))])
 (.block 0 (.loop (.seq (.rg [p 14 (.bin .lss (.t 13) (.t 12))])
 (.seq (.cond (.t 14) .skip
 (.exit 0))
 (.seq (.block 1 (.seq (.rg [p 15 (.mv (.t 13)),
 p 5 (.mv (.t 15))])
 (.seq (.rg [⟨(some 16), .mv (.t 0), none, true⟩,
 ⟨(some 17), .mv (.t 5), none, true⟩,
 ⟨(some 18), .ia 1 (.t 16) (.t 17), none, true⟩,
 ⟨(some 19), .ld (.t 18), none, true⟩,
 ⟨(some 20), .mv (.t 1), none, true⟩,
 ⟨(some 21), .mv (.t 5), none, true⟩,
 ⟨(some 22), .ia 1 (.t 20) (.t 21), none, true⟩,
 ⟨(some 23), .ld (.t 22), none, true⟩,
 p 24 (.bin .neq (.t 19) (.t 23))])
 (.cond (.t 24) (.seq (.rg [p 4 (.mv (.k (.bool false)))])
 .ret)
 .skip))))
 (.rg [p 25 (.bin .add (.t 13) (.k (.int .i64 1))),
 p 13 (.mv (.t 25))])))))))
 (.seq (.rg [p 4 (.mv (.k (.bool true)))])
 .ret)))),
 [.tmp 4]⟩

end Go.Proofs.Ytojdedadgddhgaa.AL
