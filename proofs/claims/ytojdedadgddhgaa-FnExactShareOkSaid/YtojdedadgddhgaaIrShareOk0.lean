/- Functions in the small language, printed by program. -/
import Derived.Test.YtojdedadgddhgaaAl0
namespace Go.Proofs.Ytojdedadgddhgaa.AL
open Go

def F37 : Fnc := ⟨(.seq (.rg [p 1 (.box (.t 0)),
 p 2 (.mv (.k (.int .i64 0)))])
 (.seq (.seq (.rg [p 3 (.fa 3 (.t 1)),
 p 4 (.ld (.t 3)),
 p 5 (.call 103 [(.t 4), (.k (.int .i64 0)), (.k (.int .i64 3))]),
 p 6 (.not (.t 5)),
 p 7 (.mv (.t 6)),
 ⟨(some 8), .fa 2 (.t 1), (some (7, false)), false⟩,
 ⟨(some 9), .ld (.t 8), (some (7, false)), false⟩,
 ⟨(some 10), .call 103 [(.t 9), (.k (.int .i64 0)), (.k (.int .i64 3))], (some (7, false)), false⟩,
 ⟨(some 11), .not (.t 10), (some (7, false)), false⟩,
 p 12 (.pick (.t 7) (.k (.bool true)) (.t 11))])
 (.cond (.t 12) (.seq (.rg [p 2 (.mv (.k (.int .i64 0)))])
 .ret)
 .skip))
 (.seq (.rg [p 13 (.fa 3 (.t 1)),
 p 14 (.ld (.t 13)),
 p 15 (.bin .add (.t 14) (.k (.int .i64 2))),
 p 16 (.fa 2 (.t 1)),
 p 17 (.ld (.t 16)),
 p 18 (.bin .add (.t 17) (.k (.int .i64 6))),
 p 19 (.bin .mul (.t 15) (.t 18)),
 p 2 (.mv (.t 19))])
 .ret))),
 [.tmp 2]⟩

def F50 : Fnc := ⟨(.seq (.rg [p 1 (.box (.t 0)),
 p 2 (.mv (.k (.int .i64 0)))])
 (.seq (.rg [⟨(some 3), .ldn 6 (.t 1), none, true⟩,
 ⟨(some 4), .call 74 [(.t 3)], none, true⟩,
 ⟨(some 5), .bin .mul (.k (.int .i64 2)) (.t 4), none, true⟩,
 ⟨(some 6), .ldn 6 (.t 1), none, true⟩,
 ⟨(some 7), .call 101 [(.t 6)], none, true⟩,
 p 8 (.bin .mul (.t 5) (.t 7)),
 p 2 (.mv (.t 8))])
 .ret)),
 [.tmp 2]⟩

def F72 : Fnc := ⟨(.seq (.rg [p 1 (.box (.t 0)),
 p 2 (.mv (.k (.bool false)))])
 (.seq (.seq (.rg [p 5 (.fa 0 (.t 1)),
 p 6 (.ld (.t 5)),
 p 7 (.len (.t 6)),
 p 8 (.mv (.k (.int .i64 0)))])
 (.block 0 (.loop (.seq (.rg [p 9 (.bin .lss (.t 8) (.t 7))])
 (.seq (.cond (.t 9) .skip
 (.exit 0))
 (.seq (.block 1 (.seq (.rg [p 10 (.ia 4 (.t 6) (.t 8)),
 p 11 (.ldn 4 (.t 10)),
 p 4 (.new [.int .i64 0, .bool false, .int .i64 0, .int .i64 0]),
 ⟨none, .stn 4 (.t 4) (.t 11), none, false⟩])
 (.seq (.rg [p 12 (.fa 1 (.t 4)),
 p 13 (.ld (.t 12)),
 p 14 (.mv (.t 13)),
 ⟨(some 15), .fa 2 (.t 4), (some (14, true)), true⟩,
 ⟨(some 16), .ld (.t 15), (some (14, true)), true⟩,
 ⟨(some 17), .ldn 6 (.t 1), (some (14, true)), true⟩,
 ⟨(some 18), .call 50 [(.t 17)], (some (14, true)), true⟩,
 ⟨(some 19), .bin .lss (.t 16) (.t 18), (some (14, true)), false⟩,
 p 20 (.pick (.t 14) (.t 19) (.k (.bool false)))])
 (.cond (.t 20) (.seq (.rg [p 2 (.mv (.k (.bool false)))])
 .ret)
 .skip))))
 (.rg [p 21 (.bin .add (.t 8) (.k (.int .i64 1))),
 p 8 (.mv (.t 21))])))))))
 (.seq (.rg [p 2 (.mv (.k (.bool true)))])
 .ret))),
 [.tmp 2]⟩

def F74 : Fnc := ⟨(.seq (.rg [p 1 (.box (.t 0)),
 p 2 (.mv (.k (.int .i64 0)))])
 (.seq (.seq (.rg [p 3 (.ldn 6 (.t 1)),
 p 4 (.call 37 [(.t 3)]),
 p 5 (.bin .eql (.t 4) (.k (.int .i64 0))),
 p 6 (.mv (.t 5)),
 ⟨(some 7), .fa 5 (.t 1), (some (6, false)), false⟩,
 ⟨(some 8), .ld (.t 7), (some (6, false)), false⟩,
 ⟨(some 9), .call 103 [(.t 8), (.k (.int .i64 1)), (.k (.int .i64 40))], (some (6, false)), false⟩,
 ⟨(some 10), .not (.t 9), (some (6, false)), false⟩,
 p 11 (.pick (.t 6) (.k (.bool true)) (.t 10))])
 (.cond (.t 11) (.seq (.rg [p 2 (.mv (.k (.int .i64 0)))])
 .ret)
 .skip))
 (.seq (.rg [⟨(some 12), .ldn 6 (.t 1), none, true⟩,
 ⟨(some 13), .call 37 [(.t 12)], none, true⟩,
 ⟨(some 14), .bin .mul (.k (.int .i64 2)) (.t 13), none, true⟩,
 ⟨(some 15), .fa 5 (.t 1), none, true⟩,
 ⟨(some 16), .ld (.t 15), none, true⟩,
 p 17 (.bin .add (.t 14) (.t 16)),
 p 2 (.mv (.t 17))])
 .ret))),
 [.tmp 2]⟩

def F101 : Fnc := ⟨(.seq (.rg [p 1 (.box (.t 0)),
 p 2 (.mv (.k (.int .i64 0)))])
 (.seq (.rg [p 3 (.mv (.k (.int .i64 0)))])
 (.seq (.seq (.rg [p 6 (.fa 0 (.t 1)),
 p 7 (.ld (.t 6)),
 p 8 (.len (.t 7)),
 p 9 (.mv (.k (.int .i64 0)))])
 (.block 0 (.loop (.seq (.rg [p 10 (.bin .lss (.t 9) (.t 8))])
 (.seq (.cond (.t 10) .skip
 (.exit 0))
 (.seq (.block 1 (.seq (.rg [p 11 (.ia 4 (.t 7) (.t 9)),
 p 12 (.ldn 4 (.t 11)),
 p 5 (.new [.int .i64 0, .bool false, .int .i64 0, .int .i64 0]),
 ⟨none, .stn 4 (.t 5) (.t 12), none, false⟩])
 (.seq (.rg [p 13 (.fa 1 (.t 5)),
 p 14 (.ld (.t 13))])
 (.cond (.t 14) (.rg [p 15 (.mv (.t 3)),
 p 16 (.bin .add (.t 15) (.k (.int .i64 1))),
 p 3 (.mv (.t 16))])
 .skip))))
 (.rg [p 17 (.bin .add (.t 9) (.k (.int .i64 1))),
 p 9 (.mv (.t 17))])))))))
 (.seq (.rg [p 18 (.mv (.t 3)),
 p 2 (.mv (.t 18))])
 .ret)))),
 [.tmp 2]⟩

def F103 : Fnc := ⟨(.seq (.rg [p 6 (.mv (.k (.bool false)))])
 (.seq (.rg [p 7 (.mv (.t 1)),
 p 8 (.mv (.t 0)),
 p 9 (.bin .leq (.t 7) (.t 8)),
 p 10 (.mv (.t 9)),
 ⟨(some 11), .mv (.t 0), (some (10, true)), false⟩,
 ⟨(some 12), .mv (.t 2), (some (10, true)), false⟩,
 ⟨(some 13), .bin .leq (.t 11) (.t 12), (some (10, true)), false⟩,
 p 14 (.pick (.t 10) (.t 13) (.k (.bool false))),
 p 6 (.mv (.t 14))])
 .ret)),
 [.tmp 6]⟩

def F117 : Fnc := ⟨(.seq (.rg [p 1 (.box (.t 0)),
 p 2 (.mv (.k (.bool false)))])
 (.seq (.rg [p 3 (.mv (.k (.int .i64 1048576)))])
 (.seq (.rg [p 7 (.ldn 6 (.t 1)),
 p 8 (.mv (.t 3)),
 p 9 (.call 145 [(.t 7), (.t 8)]),
 p 3 (.mv (.t 9))])
 (.seq (.seq (.rg [p 10 (.mv (.t 3)),
 p 11 (.bin .lss (.t 10) (.k (.int .i64 0)))])
 (.cond (.t 11) (.seq (.rg [p 2 (.mv (.k (.bool true)))])
 .ret)
 .skip))
 (.seq (.rg [p 12 (.ldn 6 (.t 1)),
 p 13 (.call 159 [(.t 12)]),
 p 14 (.call 213 [(.t 13)]),
 p 4 (.mv (.t 14))])
 (.seq (.rg [p 15 (.ldn 6 (.t 1)),
 p 16 (.call 159 [(.t 15)]),
 p 5 (.new [.slice none 0 0, .int .i64 0, .int .i64 0, .int .i64 0, .int .i64 0, .int .i64 0]),
 ⟨none, .stn 6 (.t 5) (.t 16), none, false⟩])
 (.seq (.rg [p 17 (.ldn 6 (.t 5)),
 p 18 (.call 72 [(.t 17)]),
 p 6 (.mv (.t 18))])
 (.seq (.seq (.rg [p 19 (.mv (.t 6)),
 p 20 (.mv (.t 4)),
 p 21 (.eqb true (.t 19) (.t 20))])
 (.cond (.t 21) (.seq (.rg [p 2 (.mv (.k (.bool false)))])
 .ret)
 .skip))
 (.seq (.seq (.rg [⟨(some 22), .ldn 6 (.t 5), none, true⟩,
 ⟨(some 23), .ldn 6 (.t 1), none, true⟩,
 ⟨(some 24), .call 159 [(.t 23)], none, true⟩,
 p 25 (.call 128 [(.t 22), (.t 24)]),
 p 26 (.not (.t 25))])
 (.cond (.t 26) (.seq (.rg [p 2 (.mv (.k (.bool false)))])
 .ret)
 .skip))
 (.seq (.rg [p 2 (.mv (.k (.bool true)))])
 .ret)))))))))),
 [.tmp 2]⟩

def F128 : Fnc := ⟨(.seq (.rg [p 2 (.box (.t 0)),
 p 3 (.box (.t 1)),
 p 4 (.mv (.k (.bool false)))])
 (.seq (.seq (.rg [p 5 (.fa 0 (.t 2)),
 p 6 (.ld (.t 5)),
 p 7 (.fa 0 (.t 3)),
 p 8 (.ld (.t 7)),
 p 9 (.call 134 [(.t 6), (.t 8)]),
 p 10 (.not (.t 9))])
 (.cond (.t 10) (.seq (.rg [p 4 (.mv (.k (.bool false)))])
 .ret)
 .skip))
 (.seq (.seq (.rg [p 11 (.fa 1 (.t 2)),
 p 12 (.ld (.t 11)),
 p 13 (.fa 1 (.t 3)),
 p 14 (.ld (.t 13)),
 p 15 (.bin .neq (.t 12) (.t 14))])
 (.cond (.t 15) (.seq (.rg [p 4 (.mv (.k (.bool false)))])
 .ret)
 .skip))
 (.seq (.seq (.rg [p 16 (.fa 2 (.t 2)),
 p 17 (.ld (.t 16)),
 p 18 (.fa 2 (.t 3)),
 p 19 (.ld (.t 18)),
 p 20 (.bin .neq (.t 17) (.t 19))])
 (.cond (.t 20) (.seq (.rg [p 4 (.mv (.k (.bool false)))])
 .ret)
 .skip))
 (.seq (.seq (.rg [p 21 (.fa 3 (.t 2)),
 p 22 (.ld (.t 21)),
 p 23 (.fa 3 (.t 3)),
 p 24 (.ld (.t 23)),
 p 25 (.bin .neq (.t 22) (.t 24))])
 (.cond (.t 25) (.seq (.rg [p 4 (.mv (.k (.bool false)))])
 .ret)
 .skip))
 (.seq (.seq (.rg [p 26 (.fa 4 (.t 2)),
 p 27 (.ld (.t 26)),
 p 28 (.fa 4 (.t 3)),
 p 29 (.ld (.t 28)),
 p 30 (.bin .neq (.t 27) (.t 29))])
 (.cond (.t 30) (.seq (.rg [p 4 (.mv (.k (.bool false)))])
 .ret)
 .skip))
 (.seq (.seq (.rg [p 31 (.fa 5 (.t 2)),
 p 32 (.ld (.t 31)),
 p 33 (.fa 5 (.t 3)),
 p 34 (.ld (.t 33)),
 p 35 (.bin .neq (.t 32) (.t 34))])
 (.cond (.t 35) (.seq (.rg [p 4 (.mv (.k (.bool false)))])
 .ret)
 .skip))
 (.seq (.rg [p 4 (.mv (.k (.bool true)))])
 .ret)))))))),
 [.tmp 4]⟩

def F133 : Fnc := ⟨(.seq (.rg [p 2 (.box (.t 0)),
 p 3 (.box (.t 1)),
 p 4 (.mv (.k (.bool false)))])
 (.seq (.seq (.rg [p 5 (.fa 0 (.t 2)),
 p 6 (.ld (.t 5)),
 p 7 (.fa 0 (.t 3)),
 p 8 (.ld (.t 7)),
 p 9 (.bin .neq (.t 6) (.t 8))])
 (.cond (.t 9) (.seq (.rg [p 4 (.mv (.k (.bool false)))])
 .ret)
 .skip))
 (.seq (.seq (.rg [p 10 (.fa 1 (.t 2)),
 p 11 (.ld (.t 10)),
 p 12 (.fa 1 (.t 3)),
 p 13 (.ld (.t 12)),
 p 14 (.eqb true (.t 11) (.t 13))])
 (.cond (.t 14) (.seq (.rg [p 4 (.mv (.k (.bool false)))])
 .ret)
 .skip))
 (.seq (.seq (.rg [p 15 (.fa 2 (.t 2)),
 p 16 (.ld (.t 15)),
 p 17 (.fa 2 (.t 3)),
 p 18 (.ld (.t 17)),
 p 19 (.bin .neq (.t 16) (.t 18))])
 (.cond (.t 19) (.seq (.rg [p 4 (.mv (.k (.bool false)))])
 .ret)
 .skip))
 (.seq (.seq (.rg [p 20 (.fa 3 (.t 2)),
 p 21 (.ld (.t 20)),
 p 22 (.fa 3 (.t 3)),
 p 23 (.ld (.t 22)),
 p 24 (.bin .neq (.t 21) (.t 23))])
 (.cond (.t 24) (.seq (.rg [p 4 (.mv (.k (.bool false)))])
 .ret)
 .skip))
 (.seq (.rg [p 4 (.mv (.k (.bool true)))])
 .ret)))))),
 [.tmp 4]⟩

def F134 : Fnc := ⟨(.seq (.rg [p 4 (.mv (.k (.bool false)))])
 (.seq (.seq (.rg [p 6 (.mv (.t 0)),
 p 7 (.len (.t 6)),
 p 8 (.mv (.t 1)),
 p 9 (.len (.t 8)),
 p 10 (.bin .neq (.t 7) (.t 9))])
 (.cond (.t 10) (.seq (.rg [p 4 (.mv (.k (.bool false)))])
 .ret)
 .skip))
 (.seq (.seq (.rg [p 5 (.mv (.k (.int .i64 0)))])
 (.block 0 (.loop (.seq (.seq (.rg [p 11 (.mv (.t 5)),
 p 12 (.mv (.t 0)),
 p 13 (.len (.t 12)),
 p 14 (.bin .lss (.t 11) (.t 13))])
 (.cond (.t 14) .skip
 (.exit 0)))
 (.seq (.block 1 (.seq (.rg [⟨(some 17), .mv (.t 0), none, true⟩,
 ⟨(some 18), .mv (.t 5), none, true⟩,
 ⟨(some 19), .ia 4 (.t 17) (.t 18), none, true⟩,
 ⟨(some 20), .ldn 4 (.t 19), none, true⟩,
 ⟨(some 21), .mv (.t 1), none, true⟩,
 ⟨(some 22), .mv (.t 5), none, true⟩,
 ⟨(some 23), .ia 4 (.t 21) (.t 22), none, true⟩,
 ⟨(some 24), .ldn 4 (.t 23), none, true⟩,
 p 25 (.call 133 [(.t 20), (.t 24)]),
 p 26 (.not (.t 25))])
 (.cond (.t 26) (.seq (.rg [p 4 (.mv (.k (.bool false)))])
 .ret)
 .skip)))
 (.rg [p 15 (.mv (.t 5)),
 p 16 (.bin .add (.t 15) (.k (.int .i64 1))),
 p 5 (.mv (.t 16))]))))))
 (.seq (.rg [p 4 (.mv (.k (.bool true)))])
 .ret)))),
 [.tmp 4]⟩

def F145 : Fnc := ⟨(.seq (.rg [p 2 (.box (.t 0)),
 p 4 (.mv (.k (.int .i64 0)))])
 (.seq (.rg [p 5 (.fa 0 (.t 2)),
 p 6 (.ld (.t 5)),
 p 7 (.mv (.t 1)),
 p 8 (.call 149 [(.t 6), (.t 7)]),
 p 1 (.mv (.t 8))])
 (.seq (.seq (.rg [p 9 (.mv (.t 1)),
 p 10 (.bin .lss (.t 9) (.k (.int .i64 0)))])
 (.cond (.t 10) (.seq (.rg [p 4 (.mv (.k (.int .i64 (-1))))])
 .ret)
 .skip))
 (.seq (.rg [p 11 (.mv (.t 1)),
 p 4 (.mv (.t 11))])
 .ret)))),
 [.tmp 4]⟩

def F149 : Fnc := ⟨(.seq (.rg [p 4 (.mv (.k (.int .i64 0)))])
 (.seq (.rg [p 5 (.mv (.t 1)),
 p 6 (.mv (.t 0)),
 p 7 (.len (.t 6)),
 p 8 (.bin .sub (.t 5) (.t 7)),
 p 1 (.mv (.t 8))])
 (.seq (.seq (.rg [p 9 (.mv (.t 1)),
 p 10 (.bin .lss (.t 9) (.k (.int .i64 0)))])
 (.cond (.t 10) (.seq (.rg [p 4 (.mv (.k (.int .i64 (-1))))])
 .ret)
 .skip))
 (.seq (.rg [p 11 (.mv (.t 1)),
 p 4 (.mv (.t 11))])
 .ret)))),
 [.tmp 4]⟩

def F159 : Fnc := ⟨(.seq (.rg [p 1 (.box (.t 0)),
 p 2 (.new [.slice none 0 0, .int .i64 0, .int .i64 0, .int .i64 0, .int .i64 0, .int .i64 0])])
 (.seq (.rg [p 3 (.new [.slice none 0 0, .int .i64 0, .int .i64 0, .int .i64 0, .int .i64 0, .int .i64 0])])
 (.seq (.rg [p 4 (.fa 0 (.t 1)),
 p 5 (.ld (.t 4)),
 p 6 (.call 165 [(.t 5)]),
 p 7 (.fa 0 (.t 3)),
 ⟨none, .st (.t 7) (.t 6), none, false⟩])
 (.seq (.rg [p 8 (.fa 1 (.t 1)),
 p 9 (.ld (.t 8)),
 p 10 (.fa 1 (.t 3)),
 ⟨none, .st (.t 10) (.t 9), none, false⟩])
 (.seq (.rg [p 11 (.fa 2 (.t 1)),
 p 12 (.ld (.t 11)),
 p 13 (.fa 2 (.t 3)),
 ⟨none, .st (.t 13) (.t 12), none, false⟩])
 (.seq (.rg [p 14 (.fa 3 (.t 1)),
 p 15 (.ld (.t 14)),
 p 16 (.fa 3 (.t 3)),
 ⟨none, .st (.t 16) (.t 15), none, false⟩])
 (.seq (.rg [p 17 (.fa 4 (.t 1)),
 p 18 (.ld (.t 17)),
 p 19 (.fa 4 (.t 3)),
 ⟨none, .st (.t 19) (.t 18), none, false⟩])
 (.seq (.rg [p 20 (.fa 5 (.t 1)),
 p 21 (.ld (.t 20)),
 p 22 (.fa 5 (.t 3)),
 ⟨none, .st (.t 22) (.t 21), none, false⟩])
 (.seq (.rg [p 23 (.ldn 6 (.t 3)),
 ⟨none, .stn 6 (.t 2) (.t 23), none, false⟩])
 .ret))))))))),
 [.celln 2 6]⟩

def F164 : Fnc := ⟨(.seq (.rg [p 1 (.box (.t 0)),
 p 2 (.new [.int .i64 0, .bool false, .int .i64 0, .int .i64 0])])
 (.seq (.rg [p 3 (.new [.int .i64 0, .bool false, .int .i64 0, .int .i64 0])])
 (.seq (.rg [p 4 (.fa 0 (.t 1)),
 p 5 (.ld (.t 4)),
 p 6 (.fa 0 (.t 3)),
 ⟨none, .st (.t 6) (.t 5), none, false⟩])
 (.seq (.rg [p 7 (.fa 1 (.t 1)),
 p 8 (.ld (.t 7)),
 p 9 (.fa 1 (.t 3)),
 ⟨none, .st (.t 9) (.t 8), none, false⟩])
 (.seq (.rg [p 10 (.fa 2 (.t 1)),
 p 11 (.ld (.t 10)),
 p 12 (.fa 2 (.t 3)),
 ⟨none, .st (.t 12) (.t 11), none, false⟩])
 (.seq (.rg [p 13 (.fa 3 (.t 1)),
 p 14 (.ld (.t 13)),
 p 15 (.fa 3 (.t 3)),
 ⟨none, .st (.t 15) (.t 14), none, false⟩])
 (.seq (.rg [p 16 (.ldn 4 (.t 3)),
 ⟨none, .stn 4 (.t 2) (.t 16), none, false⟩])
 .ret))))))),
 [.celln 2 4]⟩

def F165 : Fnc := ⟨(.seq (.rg [p 2 (.mv (.k (.slice none 0 0)))])
 (.seq (.rg [p 5 (.mv (.t 0)),
 p 6 (.len (.t 5)),
 p 7 (.mk 4 32 [.int .i64 0, .bool false, .int .i64 0, .int .i64 0] (.t 6) (.t 6)),
 p 3 (.mv (.t 7))])
 (.seq (.seq (.rg [p 4 (.mv (.k (.int .i64 0)))])
 (.block 0 (.loop (.seq (.seq (.rg [p 8 (.mv (.t 4)),
 p 9 (.mv (.t 0)),
 p 10 (.len (.t 9)),
 p 11 (.bin .lss (.t 8) (.t 10))])
 (.cond (.t 11) .skip
 (.exit 0)))
 (.seq (.block 1 (.rg [p 14 (.mv (.t 3)),
 p 15 (.mv (.t 4)),
 p 16 (.mv (.t 0)),
 p 17 (.mv (.t 4)),
 p 18 (.ia 4 (.t 16) (.t 17)),
 p 19 (.ldn 4 (.t 18)),
 p 20 (.call 164 [(.t 19)]),
 p 21 (.ia 4 (.t 14) (.t 15)),
 ⟨none, .stn 4 (.t 21) (.t 20), none, false⟩]))
 (.rg [p 12 (.mv (.t 4)),
 p 13 (.bin .add (.t 12) (.k (.int .i64 1))),
 p 4 (.mv (.t 13))]))))))
 (.seq (.rg [p 22 (.mv (.t 3)),
 p 2 (.mv (.t 22))])
 .ret)))),
 [.tmp 2]⟩

def F186 : Fnc := ⟨(.seq (.rg [p 1 (.box (.t 0)),
 p 2 (.mv (.k (.int .i64 0)))])
 (.seq (.seq (.rg [p 3 (.fa 3 (.t 1)),
 p 4 (.ld (.t 3)),
 p 5 (.call 230 [(.t 4), (.k (.int .i64 0)), (.k (.int .i64 3))]),
 p 6 (.not (.t 5)),
 p 7 (.mv (.t 6)),
 ⟨(some 8), .fa 2 (.t 1), (some (7, false)), false⟩,
 ⟨(some 9), .ld (.t 8), (some (7, false)), false⟩,
 ⟨(some 10), .call 230 [(.t 9), (.k (.int .i64 0)), (.k (.int .i64 3))], (some (7, false)), false⟩,
 ⟨(some 11), .not (.t 10), (some (7, false)), false⟩,
 p 12 (.pick (.t 7) (.k (.bool true)) (.t 11))])
 (.cond (.t 12) (.seq (.rg [p 2 (.mv (.k (.int .i64 0)))])
 .ret)
 .skip))
 (.seq (.rg [p 13 (.fa 3 (.t 1)),
 p 14 (.ld (.t 13)),
 p 15 (.bin .add (.t 14) (.k (.int .i64 2))),
 p 16 (.fa 2 (.t 1)),
 p 17 (.ld (.t 16)),
 p 18 (.bin .add (.t 17) (.k (.int .i64 6))),
 p 19 (.bin .mul (.t 15) (.t 18)),
 p 2 (.mv (.t 19))])
 .ret))),
 [.tmp 2]⟩

def F200 : Fnc := ⟨(.seq (.rg [p 1 (.box (.t 0)),
 p 2 (.mv (.k (.int .i64 0)))])
 (.seq (.rg [p 3 (.mv (.k (.int .i64 0)))])
 (.seq (.seq (.rg [p 4 (.mv (.k (.int .i64 0)))])
 (.block 0 (.loop (.seq (.seq (.rg [p 5 (.mv (.t 4)),
 p 6 (.fa 0 (.t 1)),
 p 7 (.ld (.t 6)),
 p 8 (.len (.t 7)),
 p 9 (.bin .lss (.t 5) (.t 8))])
 (.cond (.t 9) .skip
 (.exit 0)))
 (.seq (.block 1 (.seq (.rg [p 12 (.fa 0 (.t 1)),
 p 13 (.ld (.t 12)),
 p 14 (.mv (.t 4)),
 p 15 (.ia 4 (.t 13) (.t 14)),
 p 16 (.fa 1 (.t 15)),
 p 17 (.ld (.t 16))])
 (.cond (.t 17) (.rg [p 18 (.mv (.t 3)),
 p 19 (.bin .add (.t 18) (.k (.int .i64 1))),
 p 3 (.mv (.t 19))])
 .skip)))
 (.rg [p 10 (.mv (.t 4)),
 p 11 (.bin .add (.t 10) (.k (.int .i64 1))),
 p 4 (.mv (.t 11))]))))))
 (.seq (.rg [p 20 (.mv (.t 3)),
 p 21 (.bin .mul (.k (.int .i64 2)) (.t 20)),
 p 22 (.ldn 6 (.t 1)),
 p 23 (.call 214 [(.t 22)]),
 p 24 (.bin .mul (.t 21) (.t 23)),
 p 2 (.mv (.t 24))])
 .ret)))),
 [.tmp 2]⟩

def F213 : Fnc := ⟨(.seq (.rg [p 1 (.box (.t 0)),
 p 2 (.mv (.k (.bool false)))])
 (.seq (.seq (.rg [p 3 (.mv (.k (.int .i64 0)))])
 (.block 0 (.loop (.seq (.seq (.rg [p 4 (.mv (.t 3)),
 p 5 (.fa 0 (.t 1)),
 p 6 (.ld (.t 5)),
 p 7 (.len (.t 6)),
 p 8 (.bin .lss (.t 4) (.t 7))])
 (.cond (.t 8) .skip
 (.exit 0)))
 (.seq (.block 1 (.seq (.rg [⟨(some 11), .fa 0 (.t 1), none, true⟩,
 ⟨(some 12), .ld (.t 11), none, true⟩,
 ⟨(some 13), .mv (.t 3), none, true⟩,
 p 14 (.ia 4 (.t 12) (.t 13)),
 p 15 (.fa 1 (.t 14)),
 p 16 (.ld (.t 15)),
 p 17 (.mv (.t 16)),
 ⟨(some 18), .fa 0 (.t 1), (some (17, true)), true⟩,
 ⟨(some 19), .ld (.t 18), (some (17, true)), true⟩,
 ⟨(some 20), .mv (.t 3), (some (17, true)), true⟩,
 ⟨(some 21), .ia 4 (.t 19) (.t 20), (some (17, true)), true⟩,
 ⟨(some 22), .fa 2 (.t 21), (some (17, true)), true⟩,
 ⟨(some 23), .ld (.t 22), (some (17, true)), true⟩,
 ⟨(some 24), .ldn 6 (.t 1), (some (17, true)), true⟩,
 ⟨(some 25), .call 200 [(.t 24)], (some (17, true)), true⟩,
 ⟨(some 26), .bin .lss (.t 23) (.t 25), (some (17, true)), false⟩,
 p 27 (.pick (.t 17) (.t 26) (.k (.bool false)))])
 (.cond (.t 27) (.seq (.rg [p 2 (.mv (.k (.bool false)))])
 .ret)
 .skip)))
 (.rg [p 9 (.mv (.t 3)),
 p 10 (.bin .add (.t 9) (.k (.int .i64 1))),
 p 3 (.mv (.t 10))]))))))
 (.seq (.rg [p 2 (.mv (.k (.bool true)))])
 .ret))),
 [.tmp 2]⟩

def F214 : Fnc := ⟨(.seq (.rg [p 1 (.box (.t 0)),
 p 2 (.mv (.k (.int .i64 0)))])
 (.seq (.seq (.rg [p 3 (.ldn 6 (.t 1)),
 p 4 (.call 186 [(.t 3)]),
 p 5 (.bin .eql (.t 4) (.k (.int .i64 0))),
 p 6 (.mv (.t 5)),
 ⟨(some 7), .fa 5 (.t 1), (some (6, false)), false⟩,
 ⟨(some 8), .ld (.t 7), (some (6, false)), false⟩,
 ⟨(some 9), .call 230 [(.t 8), (.k (.int .i64 1)), (.k (.int .i64 40))], (some (6, false)), false⟩,
 ⟨(some 10), .not (.t 9), (some (6, false)), false⟩,
 p 11 (.pick (.t 6) (.k (.bool true)) (.t 10))])
 (.cond (.t 11) (.seq (.rg [p 2 (.mv (.k (.int .i64 0)))])
 .ret)
 .skip))
 (.seq (.rg [⟨(some 12), .ldn 6 (.t 1), none, true⟩,
 ⟨(some 13), .call 186 [(.t 12)], none, true⟩,
 ⟨(some 14), .bin .mul (.k (.int .i64 2)) (.t 13), none, true⟩,
 ⟨(some 15), .fa 5 (.t 1), none, true⟩,
 ⟨(some 16), .ld (.t 15), none, true⟩,
 p 17 (.bin .add (.t 14) (.t 16)),
 p 2 (.mv (.t 17))])
 .ret))),
 [.tmp 2]⟩

def F230 : Fnc := ⟨(.seq (.rg [p 6 (.mv (.k (.bool false)))])
 (.seq (.rg [p 7 (.mv (.t 0)),
 p 8 (.mv (.t 1)),
 p 9 (.bin .geq (.t 7) (.t 8)),
 p 10 (.mv (.t 9)),
 ⟨(some 11), .mv (.t 0), (some (10, true)), false⟩,
 ⟨(some 12), .mv (.t 2), (some (10, true)), false⟩,
 ⟨(some 13), .bin .leq (.t 11) (.t 12), (some (10, true)), false⟩,
 p 14 (.pick (.t 10) (.t 13) (.k (.bool false))),
 p 6 (.mv (.t 14))])
 .ret)),
 [.tmp 6]⟩

end Go.Proofs.Ytojdedadgddhgaa.AL
