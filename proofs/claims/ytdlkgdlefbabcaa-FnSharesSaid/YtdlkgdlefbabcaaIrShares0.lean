/- Functions in the small language, printed by program. -/
import Derived.Test.YtdlkgdlefbabcaaAl0
namespace Go.Proofs.Ytdlkgdlefbabcaa.AL
open Go

def F34 : Fnc := ⟨(.seq (.rg [p 1 (.box (.t 0)),
 p 2 (.mv (.k (.bool false)))])
 (.seq (.seq (.rg [p 3 (.fa 0 (.t 1)),
 p 4 (.ld (.t 3)),
 p 5 (.len (.t 4)),
 p 6 (.call 103 [(.t 5), (.k (.int .i64 1)), (.k (.int .i64 4))]),
 p 7 (.not (.t 6)),
 p 8 (.mv (.t 7)),
 ⟨(some 9), .fa 1 (.t 1), (some (8, false)), false⟩,
 ⟨(some 10), .ld (.t 9), (some (8, false)), false⟩,
 ⟨(some 11), .call 103 [(.t 10), (.k (.int .i64 1)), (.k (.int .i64 4))], (some (8, false)), false⟩,
 ⟨(some 12), .not (.t 11), (some (8, false)), false⟩,
 p 13 (.pick (.t 8) (.k (.bool true)) (.t 12)),
 p 14 (.mv (.t 13)),
 ⟨(some 15), .fa 4 (.t 1), (some (14, false)), false⟩,
 ⟨(some 16), .ld (.t 15), (some (14, false)), false⟩,
 ⟨(some 17), .call 103 [(.t 16), (.k (.int .i64 1)), (.k (.int .i64 12))], (some (14, false)), false⟩,
 ⟨(some 18), .not (.t 17), (some (14, false)), false⟩,
 p 19 (.pick (.t 14) (.k (.bool true)) (.t 18)),
 p 20 (.mv (.t 19)),
 ⟨(some 21), .ldn 6 (.t 1), (some (20, false)), false⟩,
 ⟨(some 22), .call 74 [(.t 21)], (some (20, false)), false⟩,
 ⟨(some 23), .bin .eql (.t 22) (.k (.int .i64 0)), (some (20, false)), false⟩,
 p 24 (.pick (.t 20) (.k (.bool true)) (.t 23))])
 (.cond (.t 24) (.seq (.rg [p 2 (.mv (.k (.bool false)))])
 .ret)
 .skip))
 (.seq (.rg [p 25 (.fa 0 (.t 1)),
 p 26 (.ld (.t 25)),
 p 27 (.fn 35 [(.t 1)]),
 p 28 (.call 258 [(.t 26), (.t 27)]),
 p 29 (.not (.t 28)),
 p 2 (.mv (.t 29))])
 .ret))),
 [.tmp 2]⟩

def F35 : Fnc := ⟨(.seq (.rg [p 2 (.box (.t 0)),
 p 3 (.mv (.k (.bool false)))])
 (.seq (.block 0 (.seq (.rg [p 5 (.fa 0 (.t 2)),
 p 6 (.ld (.t 5)),
 p 7 (.call 103 [(.t 6), (.k (.int .i64 1)), (.k (.int .i64 4))]),
 p 8 (.not (.t 7)),
 p 4 (.mv (.t 8))])
 (.cond (.t 4) (.seq (.rg [p 3 (.mv (.k (.bool true)))])
 .ret)
 (.seq (.rg [p 10 (.fa 1 (.t 2)),
 p 11 (.ld (.t 10)),
 p 9 (.mv (.t 11))])
 (.cond (.t 9) (.seq (.rg [⟨(some 12), .fa 2 (.t 2), none, true⟩,
 ⟨(some 13), .ld (.t 12), none, true⟩,
 ⟨(some 14), .ldn 6 (.t 1), none, true⟩,
 ⟨(some 15), .call 50 [(.t 14)], none, true⟩,
 p 16 (.call 103 [(.t 13), (.t 15), (.k (.int .i64 1000))]),
 p 17 (.not (.t 16)),
 p 18 (.mv (.t 17)),
 ⟨(some 19), .fa 3 (.t 2), (some (18, false)), false⟩,
 ⟨(some 20), .ld (.t 19), (some (18, false)), false⟩,
 ⟨(some 21), .call 103 [(.t 20), (.k (.int .i64 1)), (.k (.int .i64 8))], (some (18, false)), false⟩,
 ⟨(some 22), .not (.t 21), (some (18, false)), false⟩,
 p 23 (.pick (.t 18) (.k (.bool true)) (.t 22)),
 p 3 (.mv (.t 23))])
 .ret)
 .skip)))))
 (.seq (.rg [p 24 (.fa 2 (.t 2)),
 p 25 (.ld (.t 24)),
 p 26 (.bin .neq (.t 25) (.k (.int .i64 0))),
 p 27 (.mv (.t 26)),
 ⟨(some 28), .fa 3 (.t 2), (some (27, false)), false⟩,
 ⟨(some 29), .ld (.t 28), (some (27, false)), false⟩,
 ⟨(some 30), .bin .neq (.t 29) (.k (.int .i64 0)), (some (27, false)), false⟩,
 p 31 (.pick (.t 27) (.k (.bool true)) (.t 30)),
 p 3 (.mv (.t 31))])
 .ret))),
 [.tmp 3]⟩

def F37 : Fnc := ⟨(.seq (.rg [p 1 (.box (.t 0)),
 p 2 (.mv (.k (.int .i64 0)))])
 (.seq (.seq (.rg [p 3 (.fa 3 (.t 1)),
 p 4 (.ld (.t 3)),
 p 5 (.call 103 [(.t 4), (.k (.int .i64 0)), (.k (.int .i64 3))]),
 p 6 (.not (.t 5)),
 p 7 (.mv (.t 6)),
 ⟨(some 8), .fa 2 (.t 1), (some (7, false)), false⟩,
 ⟨(some 9), .ld (.t 8), (some (7, false)), false⟩,
 ⟨(some 10), .call 103 [(.t 9), (.k (.int .i64 0)), (.k (.int .i64 3))], (some (7, false)), false⟩,
 ⟨(some 11), .not (.t 10), (some (7, false)), false⟩,
 p 12 (.pick (.t 7) (.k (.bool true)) (.t 11))])
 (.cond (.t 12) (.seq (.rg [p 2 (.mv (.k (.int .i64 0)))])
 .ret)
 .skip))
 (.seq (.rg [p 13 (.fa 3 (.t 1)),
 p 14 (.ld (.t 13)),
 p 15 (.bin .add (.t 14) (.k (.int .i64 2))),
 p 16 (.fa 2 (.t 1)),
 p 17 (.ld (.t 16)),
 p 18 (.bin .add (.t 17) (.k (.int .i64 6))),
 p 19 (.bin .mul (.t 15) (.t 18)),
 p 2 (.mv (.t 19))])
 .ret))),
 [.tmp 2]⟩

def F44 : Fnc := ⟨(.seq (.rg [p 1 (.box (.t 0)),
 p 2 (.mv (.k (.int .i64 0)))])
 (.seq (.seq (.rg [p 3 (.ldn 6 (.t 1)),
 p 4 (.call 34 [(.t 3)]),
 p 5 (.not (.t 4))])
 (.cond (.t 5) (.seq (.rg [p 2 (.mv (.k (.int .i64 0)))])
 .ret)
 .skip))
 (.seq (.rg [⟨(some 6), .ldn 6 (.t 1), none, true⟩,
 ⟨(some 7), .call 102 [(.t 6)], none, true⟩,
 ⟨(some 8), .ldn 6 (.t 1), none, true⟩,
 p 9 (.call 74 [(.t 8)]),
 p 10 (.bin .add (.t 7) (.t 9)),
 p 11 (.bin .mul (.k (.int .i64 2)) (.t 10)),
 p 12 (.bin .add (.t 11) (.k (.int .i64 10))),
 p 2 (.mv (.t 12))])
 .ret))),
 [.tmp 2]⟩

def F50 : Fnc := ⟨(.seq (.rg [p 1 (.box (.t 0)),
 p 2 (.mv (.k (.int .i64 0)))])
 (.seq (.rg [⟨(some 3), .ldn 6 (.t 1), none, true⟩,
 ⟨(some 4), .call 74 [(.t 3)], none, true⟩,
 ⟨(some 5), .bin .mul (.k (.int .i64 2)) (.t 4), none, true⟩,
 ⟨(some 6), .ldn 6 (.t 1), none, true⟩,
 ⟨(some 7), .call 101 [(.t 6)], none, true⟩,
 p 8 (.bin .mul (.t 5) (.t 7)),
 p 2 (.mv (.t 8))])
 .ret)),
 [.tmp 2]⟩

def F72 : Fnc := ⟨(.seq (.rg [p 1 (.box (.t 0)),
 p 2 (.mv (.k (.bool false)))])
 (.seq (.seq (.rg [p 5 (.fa 0 (.t 1)),
 p 6 (.ld (.t 5)),
 p 7 (.len (.t 6)),
 p 8 (.mv (.k (.int .i64 0)))])
 (.block 0 (.loop (.seq (.rg [p 9 (.bin .lss (.t 8) (.t 7))])
 (.seq (.cond (.t 9) .skip
 (.exit 0))
 (.seq (.block 1 (.seq (.rg [p 10 (.ia 4 (.t 6) (.t 8)),
 p 11 (.ldn 4 (.t 10)),
 p 4 (.new [.int .i64 0, .bool false, .int .i64 0, .int .i64 0]),
 ⟨none, .stn 4 (.t 4) (.t 11), none, false⟩])
 (.seq (.rg [p 12 (.fa 1 (.t 4)),
 p 13 (.ld (.t 12)),
 p 14 (.mv (.t 13)),
 ⟨(some 15), .fa 2 (.t 4), (some (14, true)), true⟩,
 ⟨(some 16), .ld (.t 15), (some (14, true)), true⟩,
 ⟨(some 17), .ldn 6 (.t 1), (some (14, true)), true⟩,
 ⟨(some 18), .call 50 [(.t 17)], (some (14, true)), true⟩,
 ⟨(some 19), .bin .lss (.t 16) (.t 18), (some (14, true)), false⟩,
 p 20 (.pick (.t 14) (.t 19) (.k (.bool false)))])
 (.cond (.t 20) (.seq (.rg [p 2 (.mv (.k (.bool false)))])
 .ret)
 .skip))))
 (.rg [p 21 (.bin .add (.t 8) (.k (.int .i64 1))),
 p 8 (.mv (.t 21))])))))))
 (.seq (.rg [p 2 (.mv (.k (.bool true)))])
 .ret))),
 [.tmp 2]⟩

def F74 : Fnc := ⟨(.seq (.rg [p 1 (.box (.t 0)),
 p 2 (.mv (.k (.int .i64 0)))])
 (.seq (.seq (.rg [p 3 (.ldn 6 (.t 1)),
 p 4 (.call 37 [(.t 3)]),
 p 5 (.bin .eql (.t 4) (.k (.int .i64 0))),
 p 6 (.mv (.t 5)),
 ⟨(some 7), .fa 5 (.t 1), (some (6, false)), false⟩,
 ⟨(some 8), .ld (.t 7), (some (6, false)), false⟩,
 ⟨(some 9), .call 103 [(.t 8), (.k (.int .i64 1)), (.k (.int .i64 40))], (some (6, false)), false⟩,
 ⟨(some 10), .not (.t 9), (some (6, false)), false⟩,
 p 11 (.pick (.t 6) (.k (.bool true)) (.t 10))])
 (.cond (.t 11) (.seq (.rg [p 2 (.mv (.k (.int .i64 0)))])
 .ret)
 .skip))
 (.seq (.rg [⟨(some 12), .ldn 6 (.t 1), none, true⟩,
 ⟨(some 13), .call 37 [(.t 12)], none, true⟩,
 ⟨(some 14), .bin .mul (.k (.int .i64 2)) (.t 13), none, true⟩,
 ⟨(some 15), .fa 5 (.t 1), none, true⟩,
 ⟨(some 16), .ld (.t 15), none, true⟩,
 p 17 (.bin .add (.t 14) (.t 16)),
 p 2 (.mv (.t 17))])
 .ret))),
 [.tmp 2]⟩

def F77 : Fnc := ⟨(.seq (.rg [p 2 (.box (.t 0)),
 p 4 (.mv (.k (.int .i64 0)))])
 (.seq (.seq (.rg [p 5 (.ldn 6 (.t 2)),
 p 6 (.call 34 [(.t 5)]),
 p 7 (.not (.t 6)),
 p 8 (.mv (.t 7)),
 ⟨(some 9), .ldn 6 (.t 2), (some (8, false)), false⟩,
 ⟨(some 10), .mv (.t 1), (some (8, false)), false⟩,
 ⟨(some 11), .call 91 [(.t 9), (.t 10)], (some (8, false)), false⟩,
 ⟨(some 12), .not (.t 11), (some (8, false)), false⟩,
 p 13 (.pick (.t 8) (.k (.bool true)) (.t 12))])
 (.cond (.t 13) (.seq (.rg [p 4 (.mv (.k (.int .i64 0)))])
 .ret)
 .skip))
 (.seq (.rg [⟨(some 14), .fa 0 (.t 2), none, true⟩,
 ⟨(some 15), .ld (.t 14), none, true⟩,
 ⟨(some 16), .mv (.t 1), none, true⟩,
 ⟨(some 17), .ia 4 (.t 15) (.t 16), none, true⟩,
 ⟨(some 18), .fa 0 (.t 17), none, true⟩,
 ⟨(some 19), .ld (.t 18), none, true⟩,
 ⟨(some 20), .fa 1 (.t 2), none, true⟩,
 ⟨(some 21), .ld (.t 20), none, true⟩,
 p 22 (.bin .mul (.t 19) (.t 21)),
 p 4 (.mv (.t 22))])
 .ret))),
 [.tmp 4]⟩

def F91 : Fnc := ⟨(.seq (.rg [p 2 (.box (.t 0)),
 p 4 (.mv (.k (.bool false)))])
 (.seq (.rg [p 5 (.mv (.t 1)),
 p 6 (.fa 0 (.t 2)),
 p 7 (.ld (.t 6)),
 p 8 (.len (.t 7)),
 p 9 (.bin .sub (.t 8) (.k (.int .i64 1))),
 p 10 (.call 103 [(.t 5), (.k (.int .i64 0)), (.t 9)]),
 p 4 (.mv (.t 10))])
 .ret)),
 [.tmp 4]⟩

def F101 : Fnc := ⟨(.seq (.rg [p 1 (.box (.t 0)),
 p 2 (.mv (.k (.int .i64 0)))])
 (.seq (.rg [p 3 (.mv (.k (.int .i64 0)))])
 (.seq (.seq (.rg [p 6 (.fa 0 (.t 1)),
 p 7 (.ld (.t 6)),
 p 8 (.len (.t 7)),
 p 9 (.mv (.k (.int .i64 0)))])
 (.block 0 (.loop (.seq (.rg [p 10 (.bin .lss (.t 9) (.t 8))])
 (.seq (.cond (.t 10) .skip
 (.exit 0))
 (.seq (.block 1 (.seq (.rg [p 11 (.ia 4 (.t 7) (.t 9)),
 p 12 (.ldn 4 (.t 11)),
 p 5 (.new [.int .i64 0, .bool false, .int .i64 0, .int .i64 0]),
 ⟨none, .stn 4 (.t 5) (.t 12), none, false⟩])
 (.seq (.rg [p 13 (.fa 1 (.t 5)),
 p 14 (.ld (.t 13))])
 (.cond (.t 14) (.rg [p 15 (.mv (.t 3)),
 p 16 (.bin .add (.t 15) (.k (.int .i64 1))),
 p 3 (.mv (.t 16))])
 .skip))))
 (.rg [p 17 (.bin .add (.t 9) (.k (.int .i64 1))),
 p 9 (.mv (.t 17))])))))))
 (.seq (.rg [p 18 (.mv (.t 3)),
 p 2 (.mv (.t 18))])
 .ret)))),
 [.tmp 2]⟩

def F102 : Fnc := ⟨(.seq (.rg [p 1 (.box (.t 0)),
 p 2 (.mv (.k (.int .i64 0)))])
 (.seq (.rg [p 3 (.mv (.k (.int .i64 0)))])
 (.seq (.seq (.rg [p 6 (.fa 0 (.t 1)),
 p 7 (.ld (.t 6)),
 p 8 (.len (.t 7)),
 p 9 (.mv (.k (.int .i64 0)))])
 (.block 0 (.loop (.seq (.rg [p 10 (.bin .lss (.t 9) (.t 8))])
 (.seq (.cond (.t 10) .skip
 (.exit 0))
 (.seq (.block 1 (.seq (.rg [p 11 (.ia 4 (.t 7) (.t 9)),
 p 12 (.ldn 4 (.t 11)),
 p 5 (.new [.int .i64 0, .bool false, .int .i64 0, .int .i64 0]),
 ⟨none, .stn 4 (.t 5) (.t 12), none, false⟩])
 (.seq (.rg [p 13 (.fa 1 (.t 5)),
 p 14 (.ld (.t 13))])
 (.cond (.t 14) (.rg [⟨(some 15), .mv (.t 3), none, true⟩,
 ⟨(some 16), .fa 3 (.t 5), none, true⟩,
 ⟨(some 17), .ld (.t 16), none, true⟩,
 ⟨(some 18), .bin .add (.t 17) (.k (.int .i64 1)), none, true⟩,
 ⟨(some 19), .ldn 6 (.t 1), none, true⟩,
 ⟨(some 20), .call 74 [(.t 19)], none, true⟩,
 ⟨(some 21), .bin .mul (.t 18) (.t 20), none, true⟩,
 p 22 (.bin .add (.t 15) (.t 21)),
 p 3 (.mv (.t 22))])
 .skip))))
 (.rg [p 23 (.bin .add (.t 9) (.k (.int .i64 1))),
 p 9 (.mv (.t 23))])))))))
 (.seq (.rg [p 24 (.mv (.t 3)),
 p 2 (.mv (.t 24))])
 .ret)))),
 [.tmp 2]⟩

def F103 : Fnc := ⟨(.seq (.rg [p 6 (.mv (.k (.bool false)))])
 (.seq (.rg [p 7 (.mv (.t 1)),
 p 8 (.mv (.t 0)),
 p 9 (.bin .leq (.t 7) (.t 8)),
 p 10 (.mv (.t 9)),
 ⟨(some 11), .mv (.t 0), (some (10, true)), false⟩,
 ⟨(some 12), .mv (.t 2), (some (10, true)), false⟩,
 ⟨(some 13), .bin .leq (.t 11) (.t 12), (some (10, true)), false⟩,
 p 14 (.pick (.t 10) (.t 13) (.k (.bool false))),
 p 6 (.mv (.t 14))])
 .ret)),
 [.tmp 6]⟩

def F123 : Fnc := ⟨(.seq (.rg [p 2 (.mv (.k (.bool false)))])
 (.seq (.rg [p 3 (.mv (.t 0)),
 p 4 (.len (.t 3)),
 p 5 (.bin .gtr (.t 4) (.k (.int .i64 1048576))),
 p 2 (.mv (.t 5))])
 .ret)),
 [.tmp 2]⟩

def F184 : Fnc := ⟨(.seq (.rg [p 1 (.box (.t 0)),
 p 2 (.mv (.k (.bool false)))])
 (.seq (.rg [p 3 (.mv (.k (.int .i64 0)))])
 (.seq (.seq (.rg [p 4 (.mv (.k (.int .i64 0)))])
 (.block 0 (.loop (.seq (.seq (.rg [p 7 (.mv (.t 4)),
 p 8 (.fa 0 (.t 1)),
 p 9 (.ld (.t 8)),
 p 10 (.len (.t 9)),
 p 11 (.bin .lss (.t 7) (.t 10))])
 (.cond (.t 11) .skip
 (.exit 0)))
 (.seq (.block 1 (.seq (.rg [p 14 (.fa 0 (.t 1)),
 p 15 (.ld (.t 14)),
 p 16 (.mv (.t 4)),
 p 17 (.ia 4 (.t 15) (.t 16)),
 p 18 (.fa 1 (.t 17)),
 p 19 (.ld (.t 18))])
 (.cond (.t 19) (.rg [p 20 (.mv (.t 3)),
 p 21 (.bin .add (.t 20) (.k (.int .i64 1))),
 p 3 (.mv (.t 21))])
 .skip)))
 (.rg [p 12 (.mv (.t 4)),
 p 13 (.bin .add (.t 12) (.k (.int .i64 1))),
 p 4 (.mv (.t 13))]))))))
 (.seq (.seq (.rg [p 5 (.mv (.k (.int .i64 0)))])
 (.block 2 (.loop (.seq (.seq (.rg [p 22 (.mv (.t 5)),
 p 23 (.fa 0 (.t 1)),
 p 24 (.ld (.t 23)),
 p 25 (.len (.t 24)),
 p 26 (.bin .lss (.t 22) (.t 25))])
 (.cond (.t 26) .skip
 (.exit 2)))
 (.seq (.block 3 (.seq (.rg [p 29 (.fa 0 (.t 1)),
 p 30 (.ld (.t 29)),
 p 31 (.mv (.t 5)),
 p 32 (.ia 4 (.t 30) (.t 31)),
 p 33 (.ldn 4 (.t 32)),
 p 6 (.new [.int .i64 0, .bool false, .int .i64 0, .int .i64 0]),
 ⟨none, .stn 4 (.t 6) (.t 33), none, false⟩])
 (.seq (.rg [p 34 (.fa 0 (.t 6)),
 p 35 (.ld (.t 34)),
 p 36 (.call 230 [(.t 35), (.k (.int .i64 1)), (.k (.int .i64 4))]),
 p 37 (.not (.t 36)),
 p 38 (.mv (.t 37)),
 ⟨(some 39), .fa 1 (.t 6), (some (38, false)), false⟩,
 ⟨(some 40), .ld (.t 39), (some (38, false)), false⟩,
 ⟨(some 41), .not (.t 40), (some (38, false)), false⟩,
 ⟨(some 42), .mv (.t 41), (some (38, false)), false⟩,
 ⟨(some 43), .fa 2 (.t 6), (some (42, true)), false⟩,
 ⟨(some 44), .ld (.t 43), (some (42, true)), false⟩,
 ⟨(some 45), .bin .neq (.t 44) (.k (.int .i64 0)), (some (42, true)), false⟩,
 ⟨(some 46), .mv (.t 45), (some (42, true)), false⟩,
 ⟨(some 47), .fa 3 (.t 6), (some (46, false)), false⟩,
 ⟨(some 48), .ld (.t 47), (some (46, false)), false⟩,
 ⟨(some 49), .bin .neq (.t 48) (.k (.int .i64 0)), (some (46, false)), false⟩,
 ⟨(some 50), .pick (.t 46) (.k (.bool true)) (.t 49), (some (42, true)), false⟩,
 ⟨(some 51), .pick (.t 42) (.t 50) (.k (.bool false)), (some (38, false)), false⟩,
 p 52 (.pick (.t 38) (.k (.bool true)) (.t 51)),
 p 53 (.mv (.t 52)),
 ⟨(some 54), .fa 1 (.t 6), (some (53, false)), false⟩,
 ⟨(some 55), .ld (.t 54), (some (53, false)), false⟩,
 ⟨(some 56), .mv (.t 55), (some (53, false)), false⟩,
 ⟨(some 57), .fa 2 (.t 6), (some (56, true)), true⟩,
 ⟨(some 58), .ld (.t 57), (some (56, true)), true⟩,
 ⟨(some 59), .mv (.t 3), (some (56, true)), true⟩,
 ⟨(some 60), .bin .mul (.k (.int .i64 2)) (.t 59), (some (56, true)), true⟩,
 ⟨(some 61), .ldn 6 (.t 1), (some (56, true)), true⟩,
 ⟨(some 62), .call 214 [(.t 61)], (some (56, true)), true⟩,
 ⟨(some 63), .bin .mul (.t 60) (.t 62), (some (56, true)), true⟩,
 ⟨(some 64), .call 230 [(.t 58), (.t 63), (.k (.int .i64 1000))], (some (56, true)), false⟩,
 ⟨(some 65), .not (.t 64), (some (56, true)), false⟩,
 ⟨(some 66), .mv (.t 65), (some (56, true)), false⟩,
 ⟨(some 67), .fa 3 (.t 6), (some (66, false)), false⟩,
 ⟨(some 68), .ld (.t 67), (some (66, false)), false⟩,
 ⟨(some 69), .call 230 [(.t 68), (.k (.int .i64 1)), (.k (.int .i64 8))], (some (66, false)), false⟩,
 ⟨(some 70), .not (.t 69), (some (66, false)), false⟩,
 ⟨(some 71), .pick (.t 66) (.k (.bool true)) (.t 70), (some (56, true)), false⟩,
 ⟨(some 72), .pick (.t 56) (.t 71) (.k (.bool false)), (some (53, false)), false⟩,
 p 73 (.pick (.t 53) (.k (.bool true)) (.t 72))])
 (.cond (.t 73) (.seq (.rg [p 2 (.mv (.k (.bool false)))])
 .ret)
 .skip))))
 (.rg [p 27 (.mv (.t 5)),
 p 28 (.bin .add (.t 27) (.k (.int .i64 1))),
 p 5 (.mv (.t 28))]))))))
 (.seq (.rg [p 74 (.fa 0 (.t 1)),
 p 75 (.ld (.t 74)),
 p 76 (.len (.t 75)),
 p 77 (.call 230 [(.t 76), (.k (.int .i64 1)), (.k (.int .i64 4))]),
 p 78 (.mv (.t 77)),
 ⟨(some 79), .ldn 6 (.t 1), (some (78, true)), false⟩,
 ⟨(some 80), .call 245 [(.t 79)], (some (78, true)), false⟩,
 p 81 (.pick (.t 78) (.t 80) (.k (.bool false))),
 p 2 (.mv (.t 81))])
 .ret))))),
 [.tmp 2]⟩

def F186 : Fnc := ⟨(.seq (.rg [p 1 (.box (.t 0)),
 p 2 (.mv (.k (.int .i64 0)))])
 (.seq (.seq (.rg [p 3 (.fa 3 (.t 1)),
 p 4 (.ld (.t 3)),
 p 5 (.call 230 [(.t 4), (.k (.int .i64 0)), (.k (.int .i64 3))]),
 p 6 (.not (.t 5)),
 p 7 (.mv (.t 6)),
 ⟨(some 8), .fa 2 (.t 1), (some (7, false)), false⟩,
 ⟨(some 9), .ld (.t 8), (some (7, false)), false⟩,
 ⟨(some 10), .call 230 [(.t 9), (.k (.int .i64 0)), (.k (.int .i64 3))], (some (7, false)), false⟩,
 ⟨(some 11), .not (.t 10), (some (7, false)), false⟩,
 p 12 (.pick (.t 7) (.k (.bool true)) (.t 11))])
 (.cond (.t 12) (.seq (.rg [p 2 (.mv (.k (.int .i64 0)))])
 .ret)
 .skip))
 (.seq (.rg [p 13 (.fa 3 (.t 1)),
 p 14 (.ld (.t 13)),
 p 15 (.bin .add (.t 14) (.k (.int .i64 2))),
 p 16 (.fa 2 (.t 1)),
 p 17 (.ld (.t 16)),
 p 18 (.bin .add (.t 17) (.k (.int .i64 6))),
 p 19 (.bin .mul (.t 15) (.t 18)),
 p 2 (.mv (.t 19))])
 .ret))),
 [.tmp 2]⟩

def F197 : Fnc := ⟨(.seq (.rg [p 1 (.box (.t 0)),
 p 2 (.mv (.k (.int .i64 0)))])
 (.seq (.seq (.rg [p 3 (.ldn 6 (.t 1)),
 p 4 (.call 184 [(.t 3)]),
 p 5 (.not (.t 4))])
 (.cond (.t 5) (.seq (.rg [p 2 (.mv (.k (.int .i64 0)))])
 .ret)
 .skip))
 (.seq (.rg [⟨(some 6), .ldn 6 (.t 1), none, true⟩,
 ⟨(some 7), .call 227 [(.t 6)], none, true⟩,
 ⟨(some 8), .ldn 6 (.t 1), none, true⟩,
 p 9 (.call 214 [(.t 8)]),
 p 10 (.bin .add (.t 7) (.t 9)),
 p 11 (.bin .mul (.k (.int .i64 2)) (.t 10)),
 p 12 (.bin .add (.t 11) (.k (.int .i64 10))),
 p 2 (.mv (.t 12))])
 .ret))),
 [.tmp 2]⟩

def F200 : Fnc := ⟨(.seq (.rg [p 1 (.box (.t 0)),
 p 2 (.mv (.k (.int .i64 0)))])
 (.seq (.rg [p 3 (.mv (.k (.int .i64 0)))])
 (.seq (.seq (.rg [p 4 (.mv (.k (.int .i64 0)))])
 (.block 0 (.loop (.seq (.seq (.rg [p 5 (.mv (.t 4)),
 p 6 (.fa 0 (.t 1)),
 p 7 (.ld (.t 6)),
 p 8 (.len (.t 7)),
 p 9 (.bin .lss (.t 5) (.t 8))])
 (.cond (.t 9) .skip
 (.exit 0)))
 (.seq (.block 1 (.seq (.rg [p 12 (.fa 0 (.t 1)),
 p 13 (.ld (.t 12)),
 p 14 (.mv (.t 4)),
 p 15 (.ia 4 (.t 13) (.t 14)),
 p 16 (.fa 1 (.t 15)),
 p 17 (.ld (.t 16))])
 (.cond (.t 17) (.rg [p 18 (.mv (.t 3)),
 p 19 (.bin .add (.t 18) (.k (.int .i64 1))),
 p 3 (.mv (.t 19))])
 .skip)))
 (.rg [p 10 (.mv (.t 4)),
 p 11 (.bin .add (.t 10) (.k (.int .i64 1))),
 p 4 (.mv (.t 11))]))))))
 (.seq (.rg [p 20 (.mv (.t 3)),
 p 21 (.bin .mul (.k (.int .i64 2)) (.t 20)),
 p 22 (.ldn 6 (.t 1)),
 p 23 (.call 214 [(.t 22)]),
 p 24 (.bin .mul (.t 21) (.t 23)),
 p 2 (.mv (.t 24))])
 .ret)))),
 [.tmp 2]⟩

def F213 : Fnc := ⟨(.seq (.rg [p 1 (.box (.t 0)),
 p 2 (.mv (.k (.bool false)))])
 (.seq (.seq (.rg [p 3 (.mv (.k (.int .i64 0)))])
 (.block 0 (.loop (.seq (.seq (.rg [p 4 (.mv (.t 3)),
 p 5 (.fa 0 (.t 1)),
 p 6 (.ld (.t 5)),
 p 7 (.len (.t 6)),
 p 8 (.bin .lss (.t 4) (.t 7))])
 (.cond (.t 8) .skip
 (.exit 0)))
 (.seq (.block 1 (.seq (.rg [⟨(some 11), .fa 0 (.t 1), none, true⟩,
 ⟨(some 12), .ld (.t 11), none, true⟩,
 ⟨(some 13), .mv (.t 3), none, true⟩,
 p 14 (.ia 4 (.t 12) (.t 13)),
 p 15 (.fa 1 (.t 14)),
 p 16 (.ld (.t 15)),
 p 17 (.mv (.t 16)),
 ⟨(some 18), .fa 0 (.t 1), (some (17, true)), true⟩,
 ⟨(some 19), .ld (.t 18), (some (17, true)), true⟩,
 ⟨(some 20), .mv (.t 3), (some (17, true)), true⟩,
 ⟨(some 21), .ia 4 (.t 19) (.t 20), (some (17, true)), true⟩,
 ⟨(some 22), .fa 2 (.t 21), (some (17, true)), true⟩,
 ⟨(some 23), .ld (.t 22), (some (17, true)), true⟩,
 ⟨(some 24), .ldn 6 (.t 1), (some (17, true)), true⟩,
 ⟨(some 25), .call 200 [(.t 24)], (some (17, true)), true⟩,
 ⟨(some 26), .bin .lss (.t 23) (.t 25), (some (17, true)), false⟩,
 p 27 (.pick (.t 17) (.t 26) (.k (.bool false)))])
 (.cond (.t 27) (.seq (.rg [p 2 (.mv (.k (.bool false)))])
 .ret)
 .skip)))
 (.rg [p 9 (.mv (.t 3)),
 p 10 (.bin .add (.t 9) (.k (.int .i64 1))),
 p 3 (.mv (.t 10))]))))))
 (.seq (.rg [p 2 (.mv (.k (.bool true)))])
 .ret))),
 [.tmp 2]⟩

def F214 : Fnc := ⟨(.seq (.rg [p 1 (.box (.t 0)),
 p 2 (.mv (.k (.int .i64 0)))])
 (.seq (.seq (.rg [p 3 (.ldn 6 (.t 1)),
 p 4 (.call 186 [(.t 3)]),
 p 5 (.bin .eql (.t 4) (.k (.int .i64 0))),
 p 6 (.mv (.t 5)),
 ⟨(some 7), .fa 5 (.t 1), (some (6, false)), false⟩,
 ⟨(some 8), .ld (.t 7), (some (6, false)), false⟩,
 ⟨(some 9), .call 230 [(.t 8), (.k (.int .i64 1)), (.k (.int .i64 40))], (some (6, false)), false⟩,
 ⟨(some 10), .not (.t 9), (some (6, false)), false⟩,
 p 11 (.pick (.t 6) (.k (.bool true)) (.t 10))])
 (.cond (.t 11) (.seq (.rg [p 2 (.mv (.k (.int .i64 0)))])
 .ret)
 .skip))
 (.seq (.rg [⟨(some 12), .ldn 6 (.t 1), none, true⟩,
 ⟨(some 13), .call 186 [(.t 12)], none, true⟩,
 ⟨(some 14), .bin .mul (.k (.int .i64 2)) (.t 13), none, true⟩,
 ⟨(some 15), .fa 5 (.t 1), none, true⟩,
 ⟨(some 16), .ld (.t 15), none, true⟩,
 p 17 (.bin .add (.t 14) (.t 16)),
 p 2 (.mv (.t 17))])
 .ret))),
 [.tmp 2]⟩

def F215 : Fnc := ⟨(.seq (.rg [p 2 (.box (.t 0)),
 p 4 (.mv (.k (.int .i64 0)))])
 (.seq (.seq (.rg [p 5 (.ldn 6 (.t 2)),
 p 6 (.call 184 [(.t 5)]),
 p 7 (.not (.t 6)),
 p 8 (.mv (.t 7)),
 ⟨(some 9), .mv (.t 1), (some (8, false)), false⟩,
 ⟨(some 10), .fa 0 (.t 2), (some (8, false)), false⟩,
 ⟨(some 11), .ld (.t 10), (some (8, false)), false⟩,
 ⟨(some 12), .len (.t 11), (some (8, false)), false⟩,
 ⟨(some 13), .bin .sub (.t 12) (.k (.int .i64 1)), (some (8, false)), false⟩,
 ⟨(some 14), .call 230 [(.t 9), (.k (.int .i64 0)), (.t 13)], (some (8, false)), false⟩,
 ⟨(some 15), .not (.t 14), (some (8, false)), false⟩,
 p 16 (.pick (.t 8) (.k (.bool true)) (.t 15))])
 (.cond (.t 16) (.seq (.rg [p 4 (.mv (.k (.int .i64 0)))])
 .ret)
 .skip))
 (.seq (.rg [⟨(some 17), .fa 0 (.t 2), none, true⟩,
 ⟨(some 18), .ld (.t 17), none, true⟩,
 ⟨(some 19), .mv (.t 1), none, true⟩,
 ⟨(some 20), .ia 4 (.t 18) (.t 19), none, true⟩,
 ⟨(some 21), .fa 0 (.t 20), none, true⟩,
 ⟨(some 22), .ld (.t 21), none, true⟩,
 ⟨(some 23), .fa 1 (.t 2), none, true⟩,
 ⟨(some 24), .ld (.t 23), none, true⟩,
 p 25 (.bin .mul (.t 22) (.t 24)),
 p 4 (.mv (.t 25))])
 .ret))),
 [.tmp 4]⟩

def F227 : Fnc := ⟨(.seq (.rg [p 1 (.box (.t 0)),
 p 2 (.mv (.k (.int .i64 0)))])
 (.seq (.rg [p 3 (.mv (.k (.int .i64 0)))])
 (.seq (.seq (.rg [p 4 (.mv (.k (.int .i64 0)))])
 (.block 0 (.loop (.seq (.seq (.rg [p 5 (.mv (.t 4)),
 p 6 (.fa 0 (.t 1)),
 p 7 (.ld (.t 6)),
 p 8 (.len (.t 7)),
 p 9 (.bin .lss (.t 5) (.t 8))])
 (.cond (.t 9) .skip
 (.exit 0)))
 (.seq (.block 1 (.seq (.rg [p 12 (.fa 0 (.t 1)),
 p 13 (.ld (.t 12)),
 p 14 (.mv (.t 4)),
 p 15 (.ia 4 (.t 13) (.t 14)),
 p 16 (.fa 1 (.t 15)),
 p 17 (.ld (.t 16))])
 (.cond (.t 17) (.rg [⟨(some 18), .mv (.t 3), none, true⟩,
 ⟨(some 19), .fa 0 (.t 1), none, true⟩,
 ⟨(some 20), .ld (.t 19), none, true⟩,
 ⟨(some 21), .mv (.t 4), none, true⟩,
 ⟨(some 22), .ia 4 (.t 20) (.t 21), none, true⟩,
 ⟨(some 23), .fa 3 (.t 22), none, true⟩,
 ⟨(some 24), .ld (.t 23), none, true⟩,
 ⟨(some 25), .bin .add (.t 24) (.k (.int .i64 1)), none, true⟩,
 ⟨(some 26), .ldn 6 (.t 1), none, true⟩,
 ⟨(some 27), .call 214 [(.t 26)], none, true⟩,
 ⟨(some 28), .bin .mul (.t 25) (.t 27), none, true⟩,
 p 29 (.bin .add (.t 18) (.t 28)),
 p 3 (.mv (.t 29))])
 .skip)))
 (.rg [p 10 (.mv (.t 4)),
 p 11 (.bin .add (.t 10) (.k (.int .i64 1))),
 p 4 (.mv (.t 11))]))))))
 (.seq (.rg [p 30 (.mv (.t 3)),
 p 2 (.mv (.t 30))])
 .ret)))),
 [.tmp 2]⟩

def F228 : Fnc := ⟨(.seq (.rg [p 4 (.mv (.k (.int .i64 0)))])
 (.seq (.seq (.rg [p 9 (.mv (.t 1)),
 p 10 (.bin .leq (.t 9) (.k (.int .i64 0)))])
 (.cond (.t 10) (.seq (.rg [p 4 (.mv (.k (.int .i64 0)))])
 .ret)
 .skip))
 (.seq (.seq (.rg [p 11 (.mv (.t 1)),
 p 12 (.bin .leq (.t 11) (.k (.int .i64 256)))])
 (.cond (.t 12) (.seq (.rg [p 13 (.mv (.t 0)),
 p 14 (.call 229 [(.t 13)]),
 p 15 (.mv (.t 1)),
 p 16 (.bin .rem (.t 14) (.t 15)),
 p 4 (.mv (.t 16))])
 .ret)
 .skip))
 (.seq (.rg [p 17 (.mv (.t 0)),
 p 18 (.call 229 [(.t 17)]),
 p 5 (.mv (.t 18))])
 (.seq (.rg [p 19 (.mv (.t 0)),
 p 20 (.call 229 [(.t 19)]),
 p 6 (.mv (.t 20))])
 (.seq (.rg [p 21 (.mv (.t 0)),
 p 22 (.call 229 [(.t 21)]),
 p 7 (.mv (.t 22))])
 (.seq (.rg [p 23 (.mv (.t 0)),
 p 24 (.call 229 [(.t 23)]),
 p 8 (.mv (.t 24))])
 (.seq (.rg [p 25 (.mv (.t 5)),
 p 26 (.bin .mul (.t 25) (.k (.int .i64 16777216))),
 p 27 (.mv (.t 6)),
 p 28 (.bin .mul (.t 27) (.k (.int .i64 65536))),
 p 29 (.bin .add (.t 26) (.t 28)),
 p 30 (.mv (.t 7)),
 p 31 (.bin .mul (.t 30) (.k (.int .i64 256))),
 p 32 (.bin .add (.t 29) (.t 31)),
 p 33 (.mv (.t 8)),
 p 34 (.bin .add (.t 32) (.t 33)),
 p 35 (.mv (.t 1)),
 p 36 (.bin .rem (.t 34) (.t 35)),
 p 4 (.mv (.t 36))])
 .ret)))))))),
 [.tmp 4]⟩

def F229 : Fnc := ⟨(.seq (.rg [p 2 (.mv (.k (.int .i64 0)))])
 (.seq (.rg [p 4 (.mv (.t 0)),
 p 5 (.mv (.t 0)),
 p 6 (.nilc (.t 5)),
 p 7 (.fa 2 (.t 6)),
 p 8 (.ld (.t 7)),
 p 9 (.bin .mul (.t 8) (.k (.int .i64 6364136223846793005))),
 p 10 (.bin .add (.t 9) (.k (.int .i64 1442695040888963407))),
 p 11 (.nilc (.t 4)),
 p 12 (.fa 2 (.t 11)),
 ⟨none, .st (.t 12) (.t 10), none, false⟩])
 (.seq (.rg [⟨(some 13), .mv (.t 0), none, true⟩,
 ⟨(some 14), .nilc (.t 13), none, true⟩,
 ⟨(some 15), .fa 2 (.t 14), none, true⟩,
 ⟨(some 16), .ld (.t 15), none, true⟩,
 ⟨(some 17), .bin .shr (.t 16) (.k (.int .u64 33)), none, true⟩,
 ⟨(some 18), .mv (.t 0), none, true⟩,
 ⟨(some 19), .nilc (.t 18), none, true⟩,
 ⟨(some 20), .fa 2 (.t 19), none, true⟩,
 ⟨(some 21), .ld (.t 20), none, true⟩,
 ⟨(some 22), .bin .shr (.t 21) (.k (.int .u64 45)), none, true⟩,
 p 23 (.bin .xor (.t 17) (.t 22)),
 p 24 (.bin .and (.t 23) (.k (.int .i64 255))),
 p 3 (.mv (.t 24))])
 (.seq (.seq (.rg [⟨(some 25), .mv (.t 0), none, true⟩,
 ⟨(some 26), .nilc (.t 25), none, true⟩,
 ⟨(some 27), .fa 1 (.t 26), none, true⟩,
 ⟨(some 28), .ld (.t 27), none, true⟩,
 ⟨(some 29), .mv (.t 0), none, true⟩,
 ⟨(some 30), .nilc (.t 29), none, true⟩,
 ⟨(some 31), .fa 0 (.t 30), none, true⟩,
 ⟨(some 32), .ld (.t 31), none, true⟩,
 ⟨(some 33), .len (.t 32), none, true⟩,
 p 34 (.bin .lss (.t 28) (.t 33))])
 (.cond (.t 34) (.seq (.rg [⟨(some 35), .mv (.t 3), none, true⟩,
 ⟨(some 36), .mv (.t 0), none, true⟩,
 ⟨(some 37), .nilc (.t 36), none, true⟩,
 ⟨(some 38), .fa 0 (.t 37), none, true⟩,
 ⟨(some 39), .ld (.t 38), none, true⟩,
 ⟨(some 40), .mv (.t 0), none, true⟩,
 ⟨(some 41), .nilc (.t 40), none, true⟩,
 ⟨(some 42), .fa 1 (.t 41), none, true⟩,
 ⟨(some 43), .ld (.t 42), none, true⟩,
 ⟨(some 44), .ia 1 (.t 39) (.t 43), none, true⟩,
 ⟨(some 45), .ld (.t 44), none, true⟩,
 ⟨(some 46), .cvi .i64 (.t 45), none, true⟩,
 p 47 (.bin .add (.t 35) (.t 46)),
 p 48 (.bin .and (.t 47) (.k (.int .i64 255))),
 p 3 (.mv (.t 48))])
 (.rg [p 49 (.mv (.t 0)),
 p 50 (.mv (.t 0)),
 p 51 (.nilc (.t 50)),
 p 52 (.fa 1 (.t 51)),
 p 53 (.ld (.t 52)),
 p 54 (.bin .add (.t 53) (.k (.int .i64 1))),
 p 55 (.nilc (.t 49)),
 p 56 (.fa 1 (.t 55)),
 ⟨none, .st (.t 56) (.t 54), none, false⟩]))
 .skip))
 (.seq (.rg [p 57 (.mv (.t 3)),
 p 2 (.mv (.t 57))])
 .ret))))),
 [.tmp 2]⟩

def F230 : Fnc := ⟨(.seq (.rg [p 6 (.mv (.k (.bool false)))])
 (.seq (.rg [p 7 (.mv (.t 0)),
 p 8 (.mv (.t 1)),
 p 9 (.bin .geq (.t 7) (.t 8)),
 p 10 (.mv (.t 9)),
 ⟨(some 11), .mv (.t 0), (some (10, true)), false⟩,
 ⟨(some 12), .mv (.t 2), (some (10, true)), false⟩,
 ⟨(some 13), .bin .leq (.t 11) (.t 12), (some (10, true)), false⟩,
 p 14 (.pick (.t 10) (.t 13) (.k (.bool false))),
 p 6 (.mv (.t 14))])
 .ret)),
 [.tmp 6]⟩

def F231 : Fnc := ⟨(.seq (.rg [p 2 (.mv (.k (.pointer none)))])
 (.seq (.rg [p 5 (.mv (.t 0)),
 p 6 (.len (.t 5)),
 p 7 (.bin .add (.k (.int .i64 10101)) (.t 6)),
 p 3 (.mv (.t 7))])
 (.seq (.seq (.rg [p 4 (.mv (.k (.int .i64 0)))])
 (.block 0 (.loop (.seq (.seq (.rg [p 8 (.mv (.t 4)),
 p 9 (.mv (.t 0)),
 p 10 (.len (.t 9)),
 p 11 (.bin .lss (.t 8) (.t 10)),
 p 12 (.mv (.t 11)),
 ⟨(some 13), .mv (.t 4), (some (12, true)), false⟩,
 ⟨(some 14), .bin .lss (.t 13) (.k (.int .i64 4000)), (some (12, true)), false⟩,
 p 15 (.pick (.t 12) (.t 14) (.k (.bool false)))])
 (.cond (.t 15) .skip
 (.exit 0)))
 (.seq (.block 1 (.rg [p 18 (.mv (.t 3)),
 p 19 (.bin .mul (.t 18) (.k (.int .i64 131))),
 p 20 (.mv (.t 0)),
 p 21 (.mv (.t 4)),
 p 22 (.ia 1 (.t 20) (.t 21)),
 p 23 (.ld (.t 22)),
 p 24 (.cvi .i64 (.t 23)),
 p 25 (.bin .add (.t 19) (.t 24)),
 p 26 (.bin .add (.t 25) (.k (.int .i64 7))),
 p 27 (.bin .and (.t 26) (.k (.int .i64 1073741823))),
 p 3 (.mv (.t 27))]))
 (.rg [p 16 (.mv (.t 4)),
 p 17 (.bin .add (.t 16) (.k (.int .i64 1))),
 p 4 (.mv (.t 17))]))))))
 (.seq (.rg [p 28 (.mv (.t 0)),
 p 29 (.mv (.t 3)),
 p 30 (.bd [.slice none 0 0, .int .i64 0, .int .i64 0] [(0, 1, (.t 28)), (2, 1, (.t 29))]),
 p 31 (.box (.t 30)),
 p 2 (.mv (.t 31))])
 .ret)))),
 [.tmp 2]⟩

def F233 : Fnc := ⟨(.seq (.rg [p 4 (.mv (.k (.bool false)))])
 (.seq (.rg [p 5 (.mv (.t 0)),
 p 6 (.mv (.t 1)),
 p 7 (.call 228 [(.t 5), (.t 6)]),
 p 8 (.bin .eql (.t 7) (.k (.int .i64 0))),
 p 4 (.mv (.t 8))])
 .ret)),
 [.tmp 4]⟩

def F234 : Fnc := ⟨(.seq (.rg [p 4 (.mv (.k (.int .i64 0)))])
 (.seq (.rg [p 5 (.mv (.t 1)),
 p 6 (.mv (.t 0)),
 p 7 (.mv (.t 1)),
 p 8 (.len (.t 7)),
 p 9 (.call 228 [(.t 6), (.t 8)]),
 p 10 (.ia 1 (.t 5) (.t 9)),
 p 11 (.ld (.t 10)),
 p 4 (.mv (.t 11))])
 .ret)),
 [.tmp 4]⟩

def F242 : Fnc := ⟨(.seq (.rg [p 2 (.new [.slice none 0 0, .int .i64 0, .int .i64 0, .int .i64 0, .int .i64 0, .int .i64 0])])
 (.seq (.rg [p 4 (.mv (.t 0)),
 p 5 (.call 243 [(.t 4)]),
 p 3 (.new [.slice none 0 0, .int .i64 0, .int .i64 0, .int .i64 0, .int .i64 0, .int .i64 0]),
 ⟨none, .stn 6 (.t 3) (.t 5), none, false⟩])
 (.seq (.seq (.rg [p 6 (.mv (.t 0)),
 p 7 (.call 228 [(.t 6), (.k (.int .i64 14))])])
 (.block 0 (.seq (.rg [p 9 (.bin .eql (.t 7) (.k (.int .i64 0))),
 p 8 (.mv (.t 9))])
 (.cond (.t 8) (.rg [⟨(some 10), .fa 0 (.t 3), none, true⟩,
 ⟨(some 11), .ld (.t 10), none, true⟩,
 ⟨(some 12), .mv (.t 0), none, true⟩,
 ⟨(some 13), .bs 1 2 [.int .i64 0] [(0, (.k (.int .i64 0))), (1, (.k (.int .i64 5)))], none, true⟩,
 ⟨(some 14), .call 234 [(.t 12), (.t 13)], none, true⟩,
 p 15 (.ia 4 (.t 11) (.k (.int .i64 0))),
 p 16 (.fa 0 (.t 15)),
 ⟨none, .st (.t 16) (.t 14), none, false⟩])
 (.seq (.rg [p 18 (.bin .eql (.t 7) (.k (.int .i64 1))),
 p 17 (.mv (.t 18))])
 (.cond (.t 17) (.rg [⟨(some 19), .fa 0 (.t 3), none, true⟩,
 ⟨(some 20), .ld (.t 19), none, true⟩,
 ⟨(some 21), .fa 0 (.t 3), none, true⟩,
 ⟨(some 22), .ld (.t 21), none, true⟩,
 ⟨(some 23), .ia 4 (.t 22) (.k (.int .i64 0)), none, true⟩,
 ⟨(some 24), .fa 1 (.t 23), none, true⟩,
 ⟨(some 25), .ld (.t 24), none, true⟩,
 ⟨(some 26), .not (.t 25), none, true⟩,
 p 27 (.ia 4 (.t 20) (.k (.int .i64 0))),
 p 28 (.fa 1 (.t 27)),
 ⟨none, .st (.t 28) (.t 26), none, false⟩])
 (.seq (.rg [p 30 (.bin .eql (.t 7) (.k (.int .i64 2))),
 p 29 (.mv (.t 30))])
 (.cond (.t 29) (.rg [p 31 (.mv (.t 0)),
 p 32 (.bs 1 3 [.int .i64 0] [(0, (.k (.int .i64 0))), (1, (.k (.int .i64 5))), (2, (.k (.int .i64 4)))]),
 p 33 (.call 234 [(.t 31), (.t 32)]),
 p 34 (.fa 1 (.t 3)),
 ⟨none, .st (.t 34) (.t 33), none, false⟩])
 (.seq (.rg [p 36 (.bin .eql (.t 7) (.k (.int .i64 3))),
 p 35 (.mv (.t 36))])
 (.cond (.t 35) (.rg [p 37 (.mv (.t 0)),
 p 38 (.bs 1 3 [.int .i64 0] [(0, (.k (.int .i64 (-1)))), (1, (.k (.int .i64 4))), (2, (.k (.int .i64 3)))]),
 p 39 (.call 234 [(.t 37), (.t 38)]),
 p 40 (.fa 2 (.t 3)),
 ⟨none, .st (.t 40) (.t 39), none, false⟩])
 (.seq (.rg [p 42 (.bin .eql (.t 7) (.k (.int .i64 4))),
 p 41 (.mv (.t 42))])
 (.cond (.t 41) (.rg [p 43 (.mv (.t 0)),
 p 44 (.bs 1 2 [.int .i64 0] [(0, (.k (.int .i64 0))), (1, (.k (.int .i64 13)))]),
 p 45 (.call 234 [(.t 43), (.t 44)]),
 p 46 (.fa 4 (.t 3)),
 ⟨none, .st (.t 46) (.t 45), none, false⟩])
 (.seq (.rg [p 48 (.bin .eql (.t 7) (.k (.int .i64 5))),
 p 47 (.mv (.t 48))])
 (.cond (.t 47) (.rg [p 49 (.bs 4 0 [.int .i64 0, .bool false, .int .i64 0, .int .i64 0] []),
 p 50 (.fa 0 (.t 3)),
 ⟨none, .st (.t 50) (.t 49), none, false⟩])
 (.seq (.rg [p 52 (.bin .eql (.t 7) (.k (.int .i64 6))),
 p 51 (.mv (.t 52))])
 (.cond (.t 51) (.rg [p 53 (.mv (.t 0)),
 p 54 (.bs 1 3 [.int .i64 0] [(0, (.k (.int .i64 (-1)))), (1, (.k (.int .i64 4))), (2, (.k (.int .i64 3)))]),
 p 55 (.call 234 [(.t 53), (.t 54)]),
 p 56 (.fa 3 (.t 3)),
 ⟨none, .st (.t 56) (.t 55), none, false⟩])
 .skip))))))))))))))))
 (.seq (.rg [p 57 (.ldn 6 (.t 3)),
 ⟨none, .stn 6 (.t 2) (.t 57), none, false⟩])
 .ret)))),
 [.celln 2 6]⟩

def F243 : Fnc := ⟨(.seq (.rg [p 2 (.new [.slice none 0 0, .int .i64 0, .int .i64 0, .int .i64 0, .int .i64 0, .int .i64 0])])
 (.seq (.rg [p 6 (.mv (.t 0)),
 p 7 (.call 228 [(.t 6), (.k (.int .i64 3))]),
 p 8 (.bin .add (.k (.int .i64 1)) (.t 7)),
 p 9 (.mv (.t 0)),
 p 10 (.call 228 [(.t 9), (.k (.int .i64 3))]),
 p 11 (.mv (.t 0)),
 p 12 (.call 228 [(.t 11), (.k (.int .i64 3))]),
 p 13 (.mv (.t 0)),
 p 14 (.call 228 [(.t 13), (.k (.int .i64 6))]),
 p 15 (.bin .add (.k (.int .i64 1)) (.t 14)),
 p 16 (.mv (.t 0)),
 p 17 (.call 228 [(.t 16), (.k (.int .i64 12))]),
 p 18 (.bin .add (.k (.int .i64 1)) (.t 17)),
 p 19 (.bd [.slice none 0 0, .int .i64 0, .int .i64 0, .int .i64 0, .int .i64 0, .int .i64 0] [(1, 1, (.t 8)), (2, 1, (.t 10)), (3, 1, (.t 12)), (4, 1, (.t 15)), (5, 1, (.t 18))]),
 p 3 (.new [.slice none 0 0, .int .i64 0, .int .i64 0, .int .i64 0, .int .i64 0, .int .i64 0]),
 ⟨none, .stn 6 (.t 3) (.t 19), none, false⟩])
 (.seq (.seq (.rg [p 20 (.mv (.t 0)),
 p 21 (.call 228 [(.t 20), (.k (.int .i64 4))]),
 p 22 (.bin .add (.k (.int .i64 1)) (.t 21)),
 p 4 (.mv (.t 22))])
 (.block 0 (.loop (.seq (.seq (.rg [p 23 (.mv (.t 4)),
 p 24 (.bin .gtr (.t 23) (.k (.int .i64 0)))])
 (.cond (.t 24) .skip
 (.exit 0)))
 (.seq (.block 1 (.rg [⟨(some 27), .fa 0 (.t 3), none, true⟩,
 ⟨(some 28), .ld (.t 27), none, true⟩,
 ⟨(some 29), .mv (.t 0), none, true⟩,
 ⟨(some 30), .call 228 [(.t 29), (.k (.int .i64 3))], none, true⟩,
 ⟨(some 31), .bin .add (.k (.int .i64 1)) (.t 30), none, true⟩,
 ⟨(some 32), .bd [.int .i64 0, .bool false, .int .i64 0, .int .i64 0] [(0, 1, (.t 31))], none, true⟩,
 ⟨(some 33), .bs 4 1 [.int .i64 0, .bool false, .int .i64 0, .int .i64 0] [(0, (.t 32))], none, true⟩,
 p 34 (.app 4 32 (.t 28) (.t 33)),
 p 35 (.fa 0 (.t 3)),
 ⟨none, .st (.t 35) (.t 34), none, false⟩]))
 (.rg [p 25 (.mv (.t 4)),
 p 26 (.bin .sub (.t 25) (.k (.int .i64 1))),
 p 4 (.mv (.t 26))]))))))
 (.seq (.seq (.rg [p 36 (.mv (.t 0)),
 p 37 (.call 233 [(.t 36), (.k (.int .i64 2))])])
 (.cond (.t 37) (.seq (.rg [p 38 (.mv (.t 0)),
 p 39 (.fa 0 (.t 3)),
 p 40 (.ld (.t 39)),
 p 41 (.len (.t 40)),
 p 42 (.call 228 [(.t 38), (.t 41)]),
 p 5 (.mv (.t 42))])
 (.seq (.rg [p 43 (.fa 0 (.t 3)),
 p 44 (.ld (.t 43)),
 p 45 (.mv (.t 5)),
 p 46 (.ia 4 (.t 44) (.t 45)),
 p 47 (.fa 1 (.t 46)),
 ⟨none, .st (.t 47) (.k (.bool true)), none, false⟩])
 (.seq (.rg [⟨(some 48), .fa 0 (.t 3), none, true⟩,
 ⟨(some 49), .ld (.t 48), none, true⟩,
 ⟨(some 50), .mv (.t 5), none, true⟩,
 ⟨(some 51), .ldn 6 (.t 3), none, true⟩,
 ⟨(some 52), .call 214 [(.t 51)], none, true⟩,
 ⟨(some 53), .bin .mul (.k (.int .i64 2)) (.t 52), none, true⟩,
 ⟨(some 54), .mv (.t 0), none, true⟩,
 ⟨(some 55), .call 228 [(.t 54), (.k (.int .i64 30))], none, true⟩,
 ⟨(some 56), .bin .add (.t 53) (.t 55), none, true⟩,
 p 57 (.ia 4 (.t 49) (.t 50)),
 p 58 (.fa 2 (.t 57)),
 ⟨none, .st (.t 58) (.t 56), none, false⟩])
 (.rg [⟨(some 59), .fa 0 (.t 3), none, true⟩,
 ⟨(some 60), .ld (.t 59), none, true⟩,
 ⟨(some 61), .mv (.t 5), none, true⟩,
 ⟨(some 62), .mv (.t 0), none, true⟩,
 ⟨(some 63), .call 228 [(.t 62), (.k (.int .i64 4))], none, true⟩,
 ⟨(some 64), .bin .add (.k (.int .i64 1)) (.t 63), none, true⟩,
 p 65 (.ia 4 (.t 60) (.t 61)),
 p 66 (.fa 3 (.t 65)),
 ⟨none, .st (.t 66) (.t 64), none, false⟩]))))
 .skip))
 (.seq (.rg [p 67 (.ldn 6 (.t 3)),
 ⟨none, .stn 6 (.t 2) (.t 67), none, false⟩])
 .ret))))),
 [.celln 2 6]⟩

def F245 : Fnc := ⟨(.seq (.rg [p 1 (.box (.t 0)),
 p 2 (.mv (.k (.bool false)))])
 (.seq (.rg [p 3 (.fa 1 (.t 1)),
 p 4 (.ld (.t 3)),
 p 5 (.call 230 [(.t 4), (.k (.int .i64 1)), (.k (.int .i64 4))]),
 p 6 (.mv (.t 5)),
 ⟨(some 7), .ldn 6 (.t 1), (some (6, true)), false⟩,
 ⟨(some 8), .call 186 [(.t 7)], (some (6, true)), false⟩,
 ⟨(some 9), .bin .gtr (.t 8) (.k (.int .i64 0)), (some (6, true)), false⟩,
 p 10 (.pick (.t 6) (.t 9) (.k (.bool false))),
 p 11 (.mv (.t 10)),
 ⟨(some 12), .fa 4 (.t 1), (some (11, true)), false⟩,
 ⟨(some 13), .ld (.t 12), (some (11, true)), false⟩,
 ⟨(some 14), .call 230 [(.t 13), (.k (.int .i64 1)), (.k (.int .i64 12))], (some (11, true)), false⟩,
 p 15 (.pick (.t 11) (.t 14) (.k (.bool false))),
 p 16 (.mv (.t 15)),
 ⟨(some 17), .fa 5 (.t 1), (some (16, true)), false⟩,
 ⟨(some 18), .ld (.t 17), (some (16, true)), false⟩,
 ⟨(some 19), .call 230 [(.t 18), (.k (.int .i64 1)), (.k (.int .i64 40))], (some (16, true)), false⟩,
 p 20 (.pick (.t 16) (.t 19) (.k (.bool false))),
 p 2 (.mv (.t 20))])
 .ret)),
 [.tmp 2]⟩

def F258 : Fnc := ⟨(.seq (.rg [p 4 (.mv (.k (.bool false)))])
 (.seq (.rg [p 5 (.mv (.t 0)),
 p 6 (.mv (.t 1)),
 p 7 (.call 269 [(.t 5), (.t 6)]),
 p 8 (.bin .geq (.t 7) (.k (.int .i64 0))),
 p 4 (.mv (.t 8))])
 .ret)),
 [.tmp 4]⟩

def F269 : Fnc := ⟨(.seq (.rg [p 4 (.mv (.k (.int .i64 0)))])
 (.seq (.seq (.rg [p 6 (.mv (.t 0)),
 p 7 (.len (.t 6)),
 p 8 (.mv (.k (.int .i64 0)))])
 (.block 0 (.loop (.seq (.rg [p 9 (.bin .lss (.t 8) (.t 7))])
 (.seq (.cond (.t 9) .skip
 (.exit 0))
 (.seq (.block 1 (.seq (.rg [p 10 (.mv (.t 8)),
 p 5 (.mv (.t 10))])
 (.seq (.rg [p 11 (.mv (.t 1)),
 p 12 (.mv (.t 0)),
 p 13 (.mv (.t 5)),
 p 14 (.ia 4 (.t 12) (.t 13)),
 p 15 (.ldn 4 (.t 14)),
 p 16 (.calli (.t 11) [(.t 15)])])
 (.cond (.t 16) (.seq (.rg [p 17 (.mv (.t 5)),
 p 4 (.mv (.t 17))])
 .ret)
 .skip))))
 (.rg [p 18 (.bin .add (.t 8) (.k (.int .i64 1))),
 p 8 (.mv (.t 18))])))))))
 (.seq (.rg [p 4 (.mv (.k (.int .i64 (-1))))])
 .ret))),
 [.tmp 4]⟩

def F298 : Fnc := ⟨(.seq (.rg [p 2 (.mv (.k (.bool false)))])
 (.seq (.seq (.rg [p 6 (.mv (.t 0)),
 p 7 (.call 123 [(.t 6)])])
 (.cond (.t 7) (.seq (.rg [p 2 (.mv (.k (.bool true)))])
 .ret)
 .skip))
 (.seq (.rg [p 9 (.mv (.t 0)),
 p 10 (.call 313 [(.t 9)]),
 p 8 (.mv (.t 10)),
 p 11 (.ext 0 (.t 8)),
 p 12 (.ext 1 (.t 8)),
 p 3 (.new [.slice none 0 0, .int .i64 0, .int .i64 0, .int .i64 0, .int .i64 0, .int .i64 0]),
 ⟨none, .stn 6 (.t 3) (.t 11), none, false⟩,
 p 4 (.mv (.t 12))])
 (.seq (.rg [p 13 (.ldn 6 (.t 3)),
 p 14 (.mv (.t 4)),
 p 15 (.call 310 [(.t 13), (.t 14)]),
 p 5 (.mv (.t 15))])
 (.seq (.seq (.rg [⟨(some 16), .mv (.t 5), none, true⟩,
 ⟨(some 17), .ldn 6 (.t 3), none, true⟩,
 ⟨(some 18), .mv (.t 4), none, true⟩,
 ⟨(some 19), .call 309 [(.t 17), (.t 18)], none, true⟩,
 p 20 (.bin .neq (.t 16) (.t 19)),
 p 21 (.mv (.t 20)),
 ⟨(some 22), .ldn 6 (.t 3), (some (21, false)), true⟩,
 ⟨(some 23), .call 307 [(.t 22)], (some (21, false)), true⟩,
 ⟨(some 24), .ldn 6 (.t 3), (some (21, false)), true⟩,
 ⟨(some 25), .call 306 [(.t 24)], (some (21, false)), false⟩,
 ⟨(some 26), .bin .neq (.t 23) (.t 25), (some (21, false)), false⟩,
 p 27 (.pick (.t 21) (.k (.bool true)) (.t 26)),
 p 28 (.mv (.t 27)),
 ⟨(some 29), .ldn 6 (.t 3), (some (28, false)), true⟩,
 ⟨(some 30), .call 72 [(.t 29)], (some (28, false)), true⟩,
 ⟨(some 31), .ldn 6 (.t 3), (some (28, false)), true⟩,
 ⟨(some 32), .call 213 [(.t 31)], (some (28, false)), false⟩,
 ⟨(some 33), .eqb true (.t 30) (.t 32), (some (28, false)), false⟩,
 p 34 (.pick (.t 28) (.k (.bool true)) (.t 33)),
 p 35 (.mv (.t 34)),
 ⟨(some 36), .ldn 6 (.t 3), (some (35, false)), true⟩,
 ⟨(some 37), .call 50 [(.t 36)], (some (35, false)), true⟩,
 ⟨(some 38), .ldn 6 (.t 3), (some (35, false)), true⟩,
 ⟨(some 39), .call 200 [(.t 38)], (some (35, false)), false⟩,
 ⟨(some 40), .bin .neq (.t 37) (.t 39), (some (35, false)), false⟩,
 p 41 (.pick (.t 35) (.k (.bool true)) (.t 40))])
 (.cond (.t 41) (.seq (.rg [p 2 (.mv (.k (.bool false)))])
 .ret)
 .skip))
 (.seq (.seq (.rg [p 42 (.ldn 6 (.t 3)),
 p 43 (.call 184 [(.t 42)]),
 p 44 (.not (.t 43)),
 p 45 (.mv (.t 44)),
 ⟨(some 46), .mv (.t 4), (some (45, false)), false⟩,
 ⟨(some 47), .bin .lss (.t 46) (.k (.int .i64 1)), (some (45, false)), false⟩,
 p 48 (.pick (.t 45) (.k (.bool true)) (.t 47)),
 p 49 (.mv (.t 48)),
 ⟨(some 50), .mv (.t 4), (some (49, false)), false⟩,
 ⟨(some 51), .bin .gtr (.t 50) (.k (.int .i64 8)), (some (49, false)), false⟩,
 p 52 (.pick (.t 49) (.k (.bool true)) (.t 51))])
 (.cond (.t 52) (.seq (.rg [p 53 (.mv (.t 5)),
 p 54 (.bin .eql (.t 53) (.k (.int .i64 0))),
 p 2 (.mv (.t 54))])
 .ret)
 .skip))
 (.seq (.rg [p 55 (.ldn 6 (.t 3)),
 p 56 (.call 72 [(.t 55)]),
 p 57 (.mv (.t 56)),
 ⟨(some 58), .mv (.t 5), (some (57, true)), true⟩,
 ⟨(some 59), .ldn 6 (.t 3), (some (57, true)), true⟩,
 ⟨(some 60), .call 307 [(.t 59)], (some (57, true)), true⟩,
 ⟨(some 61), .ldn 6 (.t 3), (some (57, true)), true⟩,
 ⟨(some 62), .call 74 [(.t 61)], (some (57, true)), true⟩,
 ⟨(some 63), .bin .add (.t 60) (.t 62), (some (57, true)), true⟩,
 ⟨(some 64), .bin .gtr (.t 58) (.t 63), (some (57, true)), false⟩,
 p 65 (.pick (.t 57) (.t 64) (.k (.bool false))),
 p 66 (.mv (.t 65)),
 ⟨(some 67), .mv (.t 4), (some (66, true)), false⟩,
 ⟨(some 68), .bin .eql (.t 67) (.k (.int .i64 8)), (some (66, true)), false⟩,
 ⟨(some 69), .mv (.t 68), (some (66, true)), false⟩,
 ⟨(some 70), .ldn 6 (.t 3), (some (69, false)), true⟩,
 ⟨(some 71), .mv (.t 4), (some (69, false)), true⟩,
 ⟨(some 72), .bin .add (.t 71) (.k (.int .i64 1)), (some (69, false)), true⟩,
 ⟨(some 73), .call 310 [(.t 70), (.t 72)], (some (69, false)), true⟩,
 ⟨(some 74), .mv (.t 5), (some (69, false)), true⟩,
 ⟨(some 75), .bin .gtr (.t 73) (.t 74), (some (69, false)), false⟩,
 ⟨(some 76), .pick (.t 69) (.k (.bool true)) (.t 75), (some (66, true)), false⟩,
 p 77 (.pick (.t 66) (.t 76) (.k (.bool false))),
 p 78 (.mv (.t 77)),
 ⟨(some 79), .ldn 6 (.t 3), (some (78, true)), true⟩,
 ⟨(some 80), .call 74 [(.t 79)], (some (78, true)), true⟩,
 ⟨(some 81), .ldn 6 (.t 3), (some (78, true)), true⟩,
 ⟨(some 82), .call 37 [(.t 81)], (some (78, true)), false⟩,
 ⟨(some 83), .bin .gtr (.t 80) (.t 82), (some (78, true)), false⟩,
 p 84 (.pick (.t 78) (.t 83) (.k (.bool false))),
 p 85 (.mv (.t 84)),
 ⟨(some 86), .ldn 6 (.t 3), (some (85, true)), true⟩,
 ⟨(some 87), .call 44 [(.t 86)], (some (85, true)), true⟩,
 ⟨(some 88), .ldn 6 (.t 3), (some (85, true)), true⟩,
 ⟨(some 89), .call 197 [(.t 88)], (some (85, true)), false⟩,
 ⟨(some 90), .bin .eql (.t 87) (.t 89), (some (85, true)), false⟩,
 p 91 (.pick (.t 85) (.t 90) (.k (.bool false))),
 p 2 (.mv (.t 91))])
 .ret))))))),
 [.tmp 2]⟩

def F306 : Fnc := ⟨(.seq (.rg [p 1 (.box (.t 0)),
 p 2 (.mv (.k (.int .i64 0)))])
 (.seq (.seq (.rg [p 5 (.ldn 6 (.t 1)),
 p 6 (.call 184 [(.t 5)]),
 p 7 (.not (.t 6))])
 (.cond (.t 7) (.seq (.rg [p 2 (.mv (.k (.int .i64 0)))])
 .ret)
 .skip))
 (.seq (.rg [⟨(some 8), .fa 0 (.t 1), none, true⟩,
 ⟨(some 9), .ld (.t 8), none, true⟩,
 ⟨(some 10), .len (.t 9), none, true⟩,
 ⟨(some 11), .ldn 6 (.t 1), none, true⟩,
 ⟨(some 12), .call 186 [(.t 11)], none, true⟩,
 p 13 (.bin .mul (.t 10) (.t 12)),
 p 3 (.mv (.t 13))])
 (.seq (.seq (.rg [p 4 (.mv (.k (.int .i64 0)))])
 (.block 0 (.loop (.seq (.seq (.rg [p 14 (.mv (.t 4)),
 p 15 (.fa 0 (.t 1)),
 p 16 (.ld (.t 15)),
 p 17 (.len (.t 16)),
 p 18 (.bin .lss (.t 14) (.t 17))])
 (.cond (.t 18) .skip
 (.exit 0)))
 (.seq (.block 1 (.rg [⟨(some 21), .mv (.t 3), none, true⟩,
 ⟨(some 22), .ldn 6 (.t 1), none, true⟩,
 ⟨(some 23), .mv (.t 4), none, true⟩,
 ⟨(some 24), .call 215 [(.t 22), (.t 23)], none, true⟩,
 ⟨(some 25), .ldn 6 (.t 1), none, true⟩,
 ⟨(some 26), .call 214 [(.t 25)], none, true⟩,
 ⟨(some 27), .bin .mul (.t 24) (.t 26), none, true⟩,
 p 28 (.bin .add (.t 21) (.t 27)),
 p 3 (.mv (.t 28))]))
 (.rg [p 19 (.mv (.t 4)),
 p 20 (.bin .add (.t 19) (.k (.int .i64 1))),
 p 4 (.mv (.t 20))]))))))
 (.seq (.rg [p 29 (.mv (.t 3)),
 p 2 (.mv (.t 29))])
 .ret))))),
 [.tmp 2]⟩

def F307 : Fnc := ⟨(.seq (.rg [p 1 (.box (.t 0)),
 p 2 (.mv (.k (.int .i64 0)))])
 (.seq (.seq (.rg [p 5 (.ldn 6 (.t 1)),
 p 6 (.call 34 [(.t 5)]),
 p 7 (.not (.t 6))])
 (.cond (.t 7) (.seq (.rg [p 2 (.mv (.k (.int .i64 0)))])
 .ret)
 .skip))
 (.seq (.rg [⟨(some 8), .ldn 6 (.t 1), none, true⟩,
 ⟨(some 9), .call 37 [(.t 8)], none, true⟩,
 ⟨(some 10), .fa 0 (.t 1), none, true⟩,
 ⟨(some 11), .ld (.t 10), none, true⟩,
 ⟨(some 12), .len (.t 11), none, true⟩,
 p 13 (.bin .mul (.t 9) (.t 12)),
 p 3 (.mv (.t 13))])
 (.seq (.seq (.rg [p 14 (.fa 0 (.t 1)),
 p 15 (.ld (.t 14)),
 p 16 (.len (.t 15)),
 p 17 (.mv (.k (.int .i64 0)))])
 (.block 0 (.loop (.seq (.rg [p 18 (.bin .lss (.t 17) (.t 16))])
 (.seq (.cond (.t 18) .skip
 (.exit 0))
 (.seq (.block 1 (.seq (.rg [p 19 (.mv (.t 17)),
 p 4 (.mv (.t 19))])
 (.rg [⟨(some 20), .mv (.t 3), none, true⟩,
 ⟨(some 21), .ldn 6 (.t 1), none, true⟩,
 ⟨(some 22), .mv (.t 4), none, true⟩,
 ⟨(some 23), .call 77 [(.t 21), (.t 22)], none, true⟩,
 ⟨(some 24), .ldn 6 (.t 1), none, true⟩,
 ⟨(some 25), .call 74 [(.t 24)], none, true⟩,
 ⟨(some 26), .bin .mul (.t 23) (.t 25), none, true⟩,
 p 27 (.bin .add (.t 20) (.t 26)),
 p 3 (.mv (.t 27))])))
 (.rg [p 28 (.bin .add (.t 17) (.k (.int .i64 1))),
 p 17 (.mv (.t 28))])))))))
 (.seq (.rg [p 29 (.mv (.t 3)),
 p 2 (.mv (.t 29))])
 .ret))))),
 [.tmp 2]⟩

def F309 : Fnc := ⟨(.seq (.rg [p 2 (.box (.t 0)),
 p 4 (.mv (.k (.int .i64 0)))])
 (.seq (.seq (.rg [p 5 (.ldn 6 (.t 2)),
 p 6 (.call 184 [(.t 5)]),
 p 7 (.not (.t 6)),
 p 8 (.mv (.t 7)),
 ⟨(some 9), .mv (.t 1), (some (8, false)), false⟩,
 ⟨(some 10), .call 230 [(.t 9), (.k (.int .i64 1)), (.k (.int .i64 8))], (some (8, false)), false⟩,
 ⟨(some 11), .not (.t 10), (some (8, false)), false⟩,
 p 12 (.pick (.t 8) (.k (.bool true)) (.t 11))])
 (.cond (.t 12) (.seq (.rg [p 4 (.mv (.k (.int .i64 0)))])
 .ret)
 .skip))
 (.seq (.rg [⟨(some 13), .mv (.t 1), none, true⟩,
 ⟨(some 14), .ldn 6 (.t 2), none, true⟩,
 ⟨(some 15), .call 306 [(.t 14)], none, true⟩,
 ⟨(some 16), .bin .mul (.k (.int .i64 2)) (.t 15), none, true⟩,
 ⟨(some 17), .fa 4 (.t 2), none, true⟩,
 ⟨(some 18), .ld (.t 17), none, true⟩,
 ⟨(some 19), .bin .add (.t 16) (.t 18), none, true⟩,
 ⟨(some 20), .ldn 6 (.t 2), none, true⟩,
 ⟨(some 21), .call 186 [(.t 20)], none, true⟩,
 ⟨(some 22), .bin .add (.t 19) (.t 21), none, true⟩,
 ⟨(some 23), .bin .mul (.t 13) (.t 22), none, true⟩,
 ⟨(some 24), .ldn 6 (.t 2), none, true⟩,
 ⟨(some 25), .call 227 [(.t 24)], none, true⟩,
 ⟨(some 26), .bin .add (.t 23) (.t 25), none, true⟩,
 ⟨(some 27), .bin .mul (.k (.int .i64 2)) (.t 26), none, true⟩,
 ⟨(some 28), .ldn 6 (.t 2), none, true⟩,
 ⟨(some 29), .call 214 [(.t 28)], none, true⟩,
 ⟨(some 30), .bin .mul (.k (.int .i64 2)) (.t 29), none, true⟩,
 p 31 (.bin .add (.t 27) (.t 30)),
 p 32 (.bin .add (.t 31) (.k (.int .i64 10))),
 p 4 (.mv (.t 32))])
 .ret))),
 [.tmp 4]⟩

def F310 : Fnc := ⟨(.seq (.rg [p 2 (.box (.t 0)),
 p 4 (.mv (.k (.int .i64 0)))])
 (.seq (.seq (.rg [p 5 (.ldn 6 (.t 2)),
 p 6 (.call 34 [(.t 5)]),
 p 7 (.not (.t 6)),
 p 8 (.mv (.t 7)),
 ⟨(some 9), .mv (.t 1), (some (8, false)), false⟩,
 ⟨(some 10), .call 103 [(.t 9), (.k (.int .i64 1)), (.k (.int .i64 8))], (some (8, false)), false⟩,
 ⟨(some 11), .not (.t 10), (some (8, false)), false⟩,
 p 12 (.pick (.t 8) (.k (.bool true)) (.t 11))])
 (.cond (.t 12) (.seq (.rg [p 4 (.mv (.k (.int .i64 0)))])
 .ret)
 .skip))
 (.seq (.rg [⟨(some 13), .mv (.t 1), none, true⟩,
 ⟨(some 14), .ldn 6 (.t 2), none, true⟩,
 ⟨(some 15), .call 307 [(.t 14)], none, true⟩,
 ⟨(some 16), .bin .mul (.k (.int .i64 2)) (.t 15), none, true⟩,
 ⟨(some 17), .fa 4 (.t 2), none, true⟩,
 ⟨(some 18), .ld (.t 17), none, true⟩,
 ⟨(some 19), .bin .add (.t 16) (.t 18), none, true⟩,
 ⟨(some 20), .ldn 6 (.t 2), none, true⟩,
 ⟨(some 21), .call 37 [(.t 20)], none, true⟩,
 ⟨(some 22), .bin .add (.t 19) (.t 21), none, true⟩,
 ⟨(some 23), .bin .mul (.t 13) (.t 22), none, true⟩,
 ⟨(some 24), .ldn 6 (.t 2), none, true⟩,
 ⟨(some 25), .call 102 [(.t 24)], none, true⟩,
 ⟨(some 26), .bin .add (.t 23) (.t 25), none, true⟩,
 ⟨(some 27), .bin .mul (.k (.int .i64 2)) (.t 26), none, true⟩,
 ⟨(some 28), .ldn 6 (.t 2), none, true⟩,
 ⟨(some 29), .call 74 [(.t 28)], none, true⟩,
 ⟨(some 30), .bin .mul (.k (.int .i64 2)) (.t 29), none, true⟩,
 p 31 (.bin .add (.t 27) (.t 30)),
 p 32 (.bin .add (.t 31) (.k (.int .i64 10))),
 p 4 (.mv (.t 32))])
 .ret))),
 [.tmp 4]⟩

def F313 : Fnc := ⟨(.seq (.rg [p 2 (.new [.slice none 0 0, .int .i64 0, .int .i64 0, .int .i64 0, .int .i64 0, .int .i64 0]),
 p 3 (.mv (.k (.int .i64 0)))])
 (.seq (.rg [p 5 (.mv (.t 0)),
 p 6 (.call 231 [(.t 5)]),
 p 4 (.mv (.t 6))])
 (.seq (.rg [p 7 (.mv (.t 4)),
 p 8 (.call 242 [(.t 7)]),
 p 9 (.mv (.t 4)),
 p 10 (.call 228 [(.t 9), (.k (.int .i64 11))]),
 p 11 (.bin .sub (.t 10) (.k (.int .i64 1))),
 ⟨none, .stn 6 (.t 2) (.t 8), none, false⟩,
 p 3 (.mv (.t 11))])
 .ret))),
 [.celln 2 6, .tmp 3]⟩

end Go.Proofs.Ytdlkgdlefbabcaa.AL
