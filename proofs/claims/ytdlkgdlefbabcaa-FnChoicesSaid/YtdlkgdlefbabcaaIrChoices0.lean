/- Functions in the small language, printed by program. -/
import Derived.Test.YtdlkgdlefbabcaaAl0
namespace Go.Proofs.Ytdlkgdlefbabcaa.AL
open Go

def F68 : Fnc := ⟨(.seq (.rg [p 2 (.box (.t 0)),
 p 4 (.mv (.k (.int .i64 0)))])
 (.seq (.seq (.rg [p 6 (.fa 2 (.t 2)),
 p 7 (.ld (.t 6)),
 p 8 (.mv (.t 1)),
 p 9 (.call 85 [(.t 7), (.t 8)]),
 p 5 (.mv (.t 9))])
 (.seq (.rg [p 10 (.mv (.t 5)),
 p 11 (.bin .eql (.t 10) (.k (.int .i64 2))),
 p 12 (.mv (.t 11)),
 ⟨(some 13), .mv (.t 5), (some (12, false)), false⟩,
 ⟨(some 14), .bin .eql (.t 13) (.k (.int .i64 3)), (some (12, false)), false⟩,
 p 15 (.pick (.t 12) (.k (.bool true)) (.t 14))])
 (.cond (.t 15) (.seq (.rg [p 16 (.mv (.t 5)),
 p 4 (.mv (.t 16))])
 .ret)
 .skip)))
 (.seq (.rg [p 4 (.mv (.k (.int .i64 0)))])
 .ret))),
 [.tmp 4]⟩

def F75 : Fnc := ⟨(.seq (.rg [p 3 (.box (.t 0)),
 p 4 (.box (.t 1)),
 p 6 (.mv (.k (.int .i64 0)))])
 (.seq (.rg [⟨(some 7), .fa 1 (.t 4), none, true⟩,
 ⟨(some 8), .ld (.t 7), none, true⟩,
 ⟨(some 9), .mv (.t 2), none, true⟩,
 ⟨(some 10), .call 85 [(.t 8), (.t 9)], none, true⟩,
 ⟨(some 11), .mn [(.t 10), (.k (.int .i64 99))], none, true⟩,
 ⟨(some 12), .mx [(.k (.int .i64 0)), (.t 11)], none, true⟩,
 ⟨(some 13), .bin .add (.t 12) (.k (.int .i64 1)), none, true⟩,
 ⟨(some 14), .fa 4 (.t 3), none, true⟩,
 ⟨(some 15), .ld (.t 14), none, true⟩,
 p 16 (.mn [(.t 13), (.t 15)]),
 p 17 (.mx [(.k (.int .i64 1)), (.t 16)]),
 p 6 (.mv (.t 17))])
 .ret)),
 [.tmp 6]⟩

def F80 : Fnc := ⟨(.seq (.rg [p 3 (.box (.t 0)),
 p 4 (.box (.t 1)),
 p 6 (.mv (.k (.int .i64 0)))])
 (.seq (.rg [⟨(some 7), .fa 1 (.t 4), none, true⟩,
 ⟨(some 8), .ld (.t 7), none, true⟩,
 ⟨(some 9), .mv (.t 2), none, true⟩,
 ⟨(some 10), .call 85 [(.t 8), (.t 9)], none, true⟩,
 ⟨(some 11), .fa 2 (.t 3), none, true⟩,
 ⟨(some 12), .ld (.t 11), none, true⟩,
 p 13 (.mn [(.t 10), (.t 12)]),
 p 14 (.mx [(.k (.int .i64 0)), (.t 13)]),
 p 6 (.mv (.t 14))])
 .ret)),
 [.tmp 6]⟩

def F85 : Fnc := ⟨(.seq (.rg [p 4 (.mv (.k (.int .i64 0)))])
 (.seq (.seq (.rg [p 5 (.mv (.t 0)),
 p 6 (.len (.t 5)),
 p 7 (.bin .eql (.t 6) (.k (.int .i64 0))),
 p 8 (.mv (.t 7)),
 ⟨(some 9), .mv (.t 1), (some (8, false)), false⟩,
 ⟨(some 10), .bin .lss (.t 9) (.k (.int .i64 0)), (some (8, false)), false⟩,
 p 11 (.pick (.t 8) (.k (.bool true)) (.t 10))])
 (.cond (.t 11) (.seq (.rg [p 4 (.mv (.k (.int .i64 0)))])
 .ret)
 .skip))
 (.seq (.rg [p 12 (.mv (.t 0)),
 p 13 (.mv (.t 1)),
 p 14 (.mv (.t 0)),
 p 15 (.len (.t 14)),
 p 16 (.bin .rem (.t 13) (.t 15)),
 p 17 (.ia 1 (.t 12) (.t 16)),
 p 18 (.ld (.t 17)),
 p 4 (.mv (.t 18))])
 .ret))),
 [.tmp 4]⟩

def F123 : Fnc := ⟨(.seq (.rg [p 2 (.mv (.k (.bool false)))])
 (.seq (.rg [p 3 (.mv (.t 0)),
 p 4 (.len (.t 3)),
 p 5 (.bin .gtr (.t 4) (.k (.int .i64 1048576))),
 p 2 (.mv (.t 5))])
 .ret)),
 [.tmp 2]⟩

def F172 : Fnc := ⟨(.seq (.rg [p 4 (.mv (.k (.bool false)))])
 (.seq (.rg [p 5 (.mv (.t 1)),
 p 6 (.call 183 [(.t 5)]),
 p 7 (.bin .gtr (.t 6) (.k (.int .i64 0))),
 p 8 (.mv (.t 7)),
 ⟨(some 9), .mv (.t 0), (some (8, true)), false⟩,
 ⟨(some 10), .bin .geq (.t 9) (.k (.int .i64 0)), (some (8, true)), false⟩,
 p 11 (.pick (.t 8) (.t 10) (.k (.bool false))),
 p 12 (.mv (.t 11)),
 ⟨(some 13), .mv (.t 0), (some (12, true)), false⟩,
 ⟨(some 14), .mv (.t 1), (some (12, true)), false⟩,
 ⟨(some 15), .call 183 [(.t 14)], (some (12, true)), false⟩,
 ⟨(some 16), .bin .rem (.t 13) (.t 15), (some (12, true)), false⟩,
 ⟨(some 17), .bin .eql (.t 16) (.k (.int .i64 0)), (some (12, true)), false⟩,
 p 18 (.pick (.t 12) (.t 17) (.k (.bool false))),
 p 4 (.mv (.t 18))])
 .ret)),
 [.tmp 4]⟩

def F173 : Fnc := ⟨(.seq (.rg [p 2 (.mv (.k (.int .i64 0)))])
 (.seq (.seq (.rg [p 3 (.mv (.t 0)),
 p 4 (.call 230 [(.t 3), (.k (.int .i64 0)), (.k (.int .i64 3))]),
 p 5 (.not (.t 4))])
 (.cond (.t 5) (.seq (.rg [p 2 (.mv (.k (.int .i64 0)))])
 .ret)
 .skip))
 (.seq (.rg [p 6 (.bs 1 4 [.int .i64 0] [(0, (.k (.int .i64 1))), (1, (.k (.int .i64 4))), (2, (.k (.int .i64 4))), (3, (.k (.int .i64 8)))]),
 p 7 (.mv (.t 0)),
 p 8 (.ia 1 (.t 6) (.t 7)),
 p 9 (.ld (.t 8)),
 p 2 (.mv (.t 9))])
 .ret))),
 [.tmp 2]⟩

def F179 : Fnc := ⟨(.seq (.rg [p 6 (.mv (.k (.slice none 0 0)))])
 (.seq (.rg [p 8 (.bs 1 0 [.int .i64 0] []),
 p 7 (.mv (.t 8))])
 (.seq (.block 0 (.loop (.seq (.seq (.rg [p 9 (.mv (.t 7)),
 p 10 (.len (.t 9)),
 p 11 (.mv (.t 2)),
 p 12 (.call 173 [(.t 11)]),
 p 13 (.bin .lss (.t 10) (.t 12)),
 p 14 (.mv (.t 13)),
 ⟨(some 15), .mv (.t 0), (some (14, true)), false⟩,
 ⟨(some 16), .mv (.t 1), (some (14, true)), false⟩,
 ⟨(some 17), .mv (.t 2), (some (14, true)), false⟩,
 ⟨(some 18), .call 205 [(.t 15), (.t 16), (.t 17)], (some (14, true)), false⟩,
 ⟨(some 19), .bin .geq (.t 18) (.k (.int .i64 0)), (some (14, true)), false⟩,
 p 20 (.pick (.t 14) (.t 19) (.k (.bool false)))])
 (.cond (.t 20) .skip
 (.exit 0)))
 (.block 1 (.seq (.rg [p 21 (.mv (.t 7)),
 p 22 (.mv (.t 0)),
 p 23 (.bs 1 1 [.int .i64 0] [(0, (.t 22))]),
 p 24 (.app 1 8 (.t 21) (.t 23)),
 p 7 (.mv (.t 24))])
 (.rg [p 25 (.mv (.t 0)),
 p 26 (.mv (.t 1)),
 p 27 (.mv (.t 2)),
 p 28 (.call 205 [(.t 25), (.t 26), (.t 27)]),
 p 0 (.mv (.t 28))]))))))
 (.seq (.seq (.rg [p 29 (.mv (.t 7)),
 p 30 (.len (.t 29)),
 p 31 (.mv (.t 2)),
 p 32 (.call 173 [(.t 31)]),
 p 33 (.bin .lss (.t 30) (.t 32))])
 (.cond (.t 33) (.seq (.rg [p 34 (.bs 1 0 [.int .i64 0] []),
 p 6 (.mv (.t 34))])
 .ret)
 .skip))
 (.seq (.rg [p 35 (.mv (.t 7)),
 p 6 (.mv (.t 35))])
 .ret))))),
 [.tmp 6]⟩

def F180 : Fnc := ⟨(.seq (.rg [p 6 (.mv (.k (.bool false)))])
 (.seq (.rg [p 9 (.mv (.t 0)),
 p 10 (.mv (.t 1)),
 p 11 (.mv (.t 2)),
 p 12 (.call 179 [(.t 9), (.t 10), (.t 11)]),
 p 7 (.mv (.t 12))])
 (.seq (.seq (.rg [p 8 (.mv (.k (.int .i64 0)))])
 (.block 0 (.loop (.seq (.seq (.rg [p 13 (.mv (.t 8)),
 p 14 (.mv (.t 7)),
 p 15 (.len (.t 14)),
 p 16 (.bin .lss (.t 13) (.t 15))])
 (.cond (.t 16) .skip
 (.exit 0)))
 (.seq (.block 1 (.seq (.rg [⟨(some 19), .mv (.t 7), none, true⟩,
 ⟨(some 20), .mv (.t 8), none, true⟩,
 ⟨(some 21), .ia 1 (.t 19) (.t 20), none, true⟩,
 ⟨(some 22), .ld (.t 21), none, true⟩,
 ⟨(some 23), .bin .quo (.t 22) (.k (.int .i64 64)), none, true⟩,
 ⟨(some 24), .mv (.t 7), none, true⟩,
 ⟨(some 25), .ia 1 (.t 24) (.k (.int .i64 0)), none, true⟩,
 ⟨(some 26), .ld (.t 25), none, true⟩,
 ⟨(some 27), .bin .quo (.t 26) (.k (.int .i64 64)), none, true⟩,
 p 28 (.bin .neq (.t 23) (.t 27))])
 (.cond (.t 28) (.seq (.rg [p 6 (.mv (.k (.bool false)))])
 .ret)
 .skip)))
 (.rg [p 17 (.mv (.t 8)),
 p 18 (.bin .add (.t 17) (.k (.int .i64 1))),
 p 8 (.mv (.t 18))]))))))
 (.seq (.rg [p 29 (.mv (.t 7)),
 p 30 (.len (.t 29)),
 p 31 (.bin .gtr (.t 30) (.k (.int .i64 0))),
 p 6 (.mv (.t 31))])
 .ret)))),
 [.tmp 6]⟩

def F183 : Fnc := ⟨(.seq (.rg [p 2 (.mv (.k (.int .i64 0)))])
 (.seq (.seq (.rg [p 3 (.mv (.t 0)),
 p 4 (.call 230 [(.t 3), (.k (.int .i64 0)), (.k (.int .i64 2))]),
 p 5 (.not (.t 4))])
 (.cond (.t 5) (.seq (.rg [p 2 (.mv (.k (.int .i64 0)))])
 .ret)
 .skip))
 (.seq (.rg [p 6 (.mv (.t 0)),
 p 7 (.bin .shl (.k (.int .i64 1)) (.t 6)),
 p 2 (.mv (.t 7))])
 .ret))),
 [.tmp 2]⟩

def F184 : Fnc := ⟨(.seq (.rg [p 1 (.box (.t 0)),
 p 2 (.mv (.k (.bool false)))])
 (.seq (.rg [p 3 (.mv (.k (.int .i64 0)))])
 (.seq (.seq (.rg [p 4 (.mv (.k (.int .i64 0)))])
 (.block 0 (.loop (.seq (.seq (.rg [p 7 (.mv (.t 4)),
 p 8 (.fa 0 (.t 1)),
 p 9 (.ld (.t 8)),
 p 10 (.len (.t 9)),
 p 11 (.bin .lss (.t 7) (.t 10))])
 (.cond (.t 11) .skip
 (.exit 0)))
 (.seq (.block 1 (.seq (.rg [p 14 (.fa 0 (.t 1)),
 p 15 (.ld (.t 14)),
 p 16 (.mv (.t 4)),
 p 17 (.ia 4 (.t 15) (.t 16)),
 p 18 (.fa 1 (.t 17)),
 p 19 (.ld (.t 18))])
 (.cond (.t 19) (.rg [p 20 (.mv (.t 3)),
 p 21 (.bin .add (.t 20) (.k (.int .i64 1))),
 p 3 (.mv (.t 21))])
 .skip)))
 (.rg [p 12 (.mv (.t 4)),
 p 13 (.bin .add (.t 12) (.k (.int .i64 1))),
 p 4 (.mv (.t 13))]))))))
 (.seq (.seq (.rg [p 5 (.mv (.k (.int .i64 0)))])
 (.block 2 (.loop (.seq (.seq (.rg [p 22 (.mv (.t 5)),
 p 23 (.fa 0 (.t 1)),
 p 24 (.ld (.t 23)),
 p 25 (.len (.t 24)),
 p 26 (.bin .lss (.t 22) (.t 25))])
 (.cond (.t 26) .skip
 (.exit 2)))
 (.seq (.block 3 (.seq (.rg [p 29 (.fa 0 (.t 1)),
 p 30 (.ld (.t 29)),
 p 31 (.mv (.t 5)),
 p 32 (.ia 4 (.t 30) (.t 31)),
 p 33 (.ldn 4 (.t 32)),
 p 6 (.new [.int .i64 0, .bool false, .int .i64 0, .int .i64 0]),
 ⟨none, .stn 4 (.t 6) (.t 33), none, false⟩])
 (.seq (.rg [p 34 (.fa 0 (.t 6)),
 p 35 (.ld (.t 34)),
 p 36 (.call 230 [(.t 35), (.k (.int .i64 1)), (.k (.int .i64 4))]),
 p 37 (.not (.t 36)),
 p 38 (.mv (.t 37)),
 ⟨(some 39), .fa 1 (.t 6), (some (38, false)), false⟩,
 ⟨(some 40), .ld (.t 39), (some (38, false)), false⟩,
 ⟨(some 41), .not (.t 40), (some (38, false)), false⟩,
 ⟨(some 42), .mv (.t 41), (some (38, false)), false⟩,
 ⟨(some 43), .fa 2 (.t 6), (some (42, true)), false⟩,
 ⟨(some 44), .ld (.t 43), (some (42, true)), false⟩,
 ⟨(some 45), .bin .neq (.t 44) (.k (.int .i64 0)), (some (42, true)), false⟩,
 ⟨(some 46), .mv (.t 45), (some (42, true)), false⟩,
 ⟨(some 47), .fa 3 (.t 6), (some (46, false)), false⟩,
 ⟨(some 48), .ld (.t 47), (some (46, false)), false⟩,
 ⟨(some 49), .bin .neq (.t 48) (.k (.int .i64 0)), (some (46, false)), false⟩,
 ⟨(some 50), .pick (.t 46) (.k (.bool true)) (.t 49), (some (42, true)), false⟩,
 ⟨(some 51), .pick (.t 42) (.t 50) (.k (.bool false)), (some (38, false)), false⟩,
 p 52 (.pick (.t 38) (.k (.bool true)) (.t 51)),
 p 53 (.mv (.t 52)),
 ⟨(some 54), .fa 1 (.t 6), (some (53, false)), false⟩,
 ⟨(some 55), .ld (.t 54), (some (53, false)), false⟩,
 ⟨(some 56), .mv (.t 55), (some (53, false)), false⟩,
 ⟨(some 57), .fa 2 (.t 6), (some (56, true)), true⟩,
 ⟨(some 58), .ld (.t 57), (some (56, true)), true⟩,
 ⟨(some 59), .mv (.t 3), (some (56, true)), true⟩,
 ⟨(some 60), .bin .mul (.k (.int .i64 2)) (.t 59), (some (56, true)), true⟩,
 ⟨(some 61), .ldn 6 (.t 1), (some (56, true)), true⟩,
 ⟨(some 62), .call 214 [(.t 61)], (some (56, true)), true⟩,
 ⟨(some 63), .bin .mul (.t 60) (.t 62), (some (56, true)), true⟩,
 ⟨(some 64), .call 230 [(.t 58), (.t 63), (.k (.int .i64 1000))], (some (56, true)), false⟩,
 ⟨(some 65), .not (.t 64), (some (56, true)), false⟩,
 ⟨(some 66), .mv (.t 65), (some (56, true)), false⟩,
 ⟨(some 67), .fa 3 (.t 6), (some (66, false)), false⟩,
 ⟨(some 68), .ld (.t 67), (some (66, false)), false⟩,
 ⟨(some 69), .call 230 [(.t 68), (.k (.int .i64 1)), (.k (.int .i64 8))], (some (66, false)), false⟩,
 ⟨(some 70), .not (.t 69), (some (66, false)), false⟩,
 ⟨(some 71), .pick (.t 66) (.k (.bool true)) (.t 70), (some (56, true)), false⟩,
 ⟨(some 72), .pick (.t 56) (.t 71) (.k (.bool false)), (some (53, false)), false⟩,
 p 73 (.pick (.t 53) (.k (.bool true)) (.t 72))])
 (.cond (.t 73) (.seq (.rg [p 2 (.mv (.k (.bool false)))])
 .ret)
 .skip))))
 (.rg [p 27 (.mv (.t 5)),
 p 28 (.bin .add (.t 27) (.k (.int .i64 1))),
 p 5 (.mv (.t 28))]))))))
 (.seq (.rg [p 74 (.fa 0 (.t 1)),
 p 75 (.ld (.t 74)),
 p 76 (.len (.t 75)),
 p 77 (.call 230 [(.t 76), (.k (.int .i64 1)), (.k (.int .i64 4))]),
 p 78 (.mv (.t 77)),
 ⟨(some 79), .ldn 6 (.t 1), (some (78, true)), false⟩,
 ⟨(some 80), .call 245 [(.t 79)], (some (78, true)), false⟩,
 p 81 (.pick (.t 78) (.t 80) (.k (.bool false))),
 p 2 (.mv (.t 81))])
 .ret))))),
 [.tmp 2]⟩

def F186 : Fnc := ⟨(.seq (.rg [p 1 (.box (.t 0)),
 p 2 (.mv (.k (.int .i64 0)))])
 (.seq (.seq (.rg [p 3 (.fa 3 (.t 1)),
 p 4 (.ld (.t 3)),
 p 5 (.call 230 [(.t 4), (.k (.int .i64 0)), (.k (.int .i64 3))]),
 p 6 (.not (.t 5)),
 p 7 (.mv (.t 6)),
 ⟨(some 8), .fa 2 (.t 1), (some (7, false)), false⟩,
 ⟨(some 9), .ld (.t 8), (some (7, false)), false⟩,
 ⟨(some 10), .call 230 [(.t 9), (.k (.int .i64 0)), (.k (.int .i64 3))], (some (7, false)), false⟩,
 ⟨(some 11), .not (.t 10), (some (7, false)), false⟩,
 p 12 (.pick (.t 7) (.k (.bool true)) (.t 11))])
 (.cond (.t 12) (.seq (.rg [p 2 (.mv (.k (.int .i64 0)))])
 .ret)
 .skip))
 (.seq (.rg [p 13 (.fa 3 (.t 1)),
 p 14 (.ld (.t 13)),
 p 15 (.bin .add (.t 14) (.k (.int .i64 2))),
 p 16 (.fa 2 (.t 1)),
 p 17 (.ld (.t 16)),
 p 18 (.bin .add (.t 17) (.k (.int .i64 6))),
 p 19 (.bin .mul (.t 15) (.t 18)),
 p 2 (.mv (.t 19))])
 .ret))),
 [.tmp 2]⟩

def F201 : Fnc := ⟨(.seq (.rg [p 2 (.mv (.k (.int .i64 0)))])
 (.seq (.seq (.rg [p 3 (.mv (.t 0)),
 p 4 (.call 183 [(.t 3)]),
 p 5 (.bin .eql (.t 4) (.k (.int .i64 0)))])
 (.cond (.t 5) (.seq (.rg [p 2 (.mv (.k (.int .i64 0)))])
 .ret)
 .skip))
 (.seq (.rg [p 6 (.mv (.t 0)),
 p 7 (.call 183 [(.t 6)]),
 p 8 (.bin .mul (.k (.int .i64 8)) (.t 7)),
 p 9 (.bin .shl (.k (.int .i64 1)) (.t 8)),
 p 2 (.mv (.t 9))])
 .ret))),
 [.tmp 2]⟩

def F205 : Fnc := ⟨(.seq (.rg [p 6 (.mv (.k (.int .i64 0)))])
 (.seq (.rg [p 8 (.mv (.t 1)),
 p 9 (.call 183 [(.t 8)]),
 p 7 (.mv (.t 9))])
 (.seq (.seq (.rg [p 10 (.mv (.t 0)),
 p 11 (.mv (.t 1)),
 p 12 (.call 172 [(.t 10), (.t 11)]),
 p 13 (.not (.t 12)),
 p 14 (.mv (.t 13)),
 ⟨(some 15), .mv (.t 0), (some (14, false)), false⟩,
 ⟨(some 16), .call 230 [(.t 15), (.k (.int .i64 0)), (.k (.int .i64 511))], (some (14, false)), false⟩,
 ⟨(some 17), .not (.t 16), (some (14, false)), false⟩,
 p 18 (.pick (.t 14) (.k (.bool true)) (.t 17)),
 p 19 (.mv (.t 18)),
 ⟨(some 20), .mv (.t 2), (some (19, false)), false⟩,
 ⟨(some 21), .call 173 [(.t 20)], (some (19, false)), false⟩,
 ⟨(some 22), .bin .eql (.t 21) (.k (.int .i64 0)), (some (19, false)), false⟩,
 p 23 (.pick (.t 19) (.k (.bool true)) (.t 22))])
 (.cond (.t 23) (.seq (.rg [p 6 (.mv (.k (.int .i64 (-1))))])
 .ret)
 .skip))
 (.seq (.seq (.rg [p 24 (.mv (.t 2)),
 p 25 (.bin .eql (.t 24) (.k (.int .i64 2))),
 p 26 (.mv (.t 25)),
 ⟨(some 27), .mv (.t 0), (some (26, true)), false⟩,
 ⟨(some 28), .mv (.t 7), (some (26, true)), false⟩,
 ⟨(some 29), .bin .add (.t 27) (.t 28), (some (26, true)), false⟩,
 ⟨(some 30), .mv (.t 7), (some (26, true)), false⟩,
 ⟨(some 31), .bin .mul (.k (.int .i64 4)) (.t 30), (some (26, true)), false⟩,
 ⟨(some 32), .bin .rem (.t 29) (.t 31), (some (26, true)), false⟩,
 ⟨(some 33), .bin .eql (.t 32) (.k (.int .i64 0)), (some (26, true)), false⟩,
 p 34 (.pick (.t 26) (.t 33) (.k (.bool false)))])
 (.cond (.t 34) (.seq (.rg [p 35 (.mv (.t 0)),
 p 36 (.mv (.t 7)),
 p 37 (.bin .add (.t 35) (.t 36)),
 p 38 (.mv (.t 7)),
 p 39 (.bin .mul (.k (.int .i64 4)) (.t 38)),
 p 40 (.bin .sub (.t 37) (.t 39)),
 p 6 (.mv (.t 40))])
 .ret)
 .skip))
 (.seq (.rg [p 41 (.mv (.t 0)),
 p 42 (.mv (.t 7)),
 p 43 (.bin .add (.t 41) (.t 42)),
 p 6 (.mv (.t 43))])
 .ret))))),
 [.tmp 6]⟩

def F214 : Fnc := ⟨(.seq (.rg [p 1 (.box (.t 0)),
 p 2 (.mv (.k (.int .i64 0)))])
 (.seq (.seq (.rg [p 3 (.ldn 6 (.t 1)),
 p 4 (.call 186 [(.t 3)]),
 p 5 (.bin .eql (.t 4) (.k (.int .i64 0))),
 p 6 (.mv (.t 5)),
 ⟨(some 7), .fa 5 (.t 1), (some (6, false)), false⟩,
 ⟨(some 8), .ld (.t 7), (some (6, false)), false⟩,
 ⟨(some 9), .call 230 [(.t 8), (.k (.int .i64 1)), (.k (.int .i64 40))], (some (6, false)), false⟩,
 ⟨(some 10), .not (.t 9), (some (6, false)), false⟩,
 p 11 (.pick (.t 6) (.k (.bool true)) (.t 10))])
 (.cond (.t 11) (.seq (.rg [p 2 (.mv (.k (.int .i64 0)))])
 .ret)
 .skip))
 (.seq (.rg [⟨(some 12), .ldn 6 (.t 1), none, true⟩,
 ⟨(some 13), .call 186 [(.t 12)], none, true⟩,
 ⟨(some 14), .bin .mul (.k (.int .i64 2)) (.t 13), none, true⟩,
 ⟨(some 15), .fa 5 (.t 1), none, true⟩,
 ⟨(some 16), .ld (.t 15), none, true⟩,
 p 17 (.bin .add (.t 14) (.t 16)),
 p 2 (.mv (.t 17))])
 .ret))),
 [.tmp 2]⟩

def F228 : Fnc := ⟨(.seq (.rg [p 4 (.mv (.k (.int .i64 0)))])
 (.seq (.seq (.rg [p 9 (.mv (.t 1)),
 p 10 (.bin .leq (.t 9) (.k (.int .i64 0)))])
 (.cond (.t 10) (.seq (.rg [p 4 (.mv (.k (.int .i64 0)))])
 .ret)
 .skip))
 (.seq (.seq (.rg [p 11 (.mv (.t 1)),
 p 12 (.bin .leq (.t 11) (.k (.int .i64 256)))])
 (.cond (.t 12) (.seq (.rg [p 13 (.mv (.t 0)),
 p 14 (.call 229 [(.t 13)]),
 p 15 (.mv (.t 1)),
 p 16 (.bin .rem (.t 14) (.t 15)),
 p 4 (.mv (.t 16))])
 .ret)
 .skip))
 (.seq (.rg [p 17 (.mv (.t 0)),
 p 18 (.call 229 [(.t 17)]),
 p 5 (.mv (.t 18))])
 (.seq (.rg [p 19 (.mv (.t 0)),
 p 20 (.call 229 [(.t 19)]),
 p 6 (.mv (.t 20))])
 (.seq (.rg [p 21 (.mv (.t 0)),
 p 22 (.call 229 [(.t 21)]),
 p 7 (.mv (.t 22))])
 (.seq (.rg [p 23 (.mv (.t 0)),
 p 24 (.call 229 [(.t 23)]),
 p 8 (.mv (.t 24))])
 (.seq (.rg [p 25 (.mv (.t 5)),
 p 26 (.bin .mul (.t 25) (.k (.int .i64 16777216))),
 p 27 (.mv (.t 6)),
 p 28 (.bin .mul (.t 27) (.k (.int .i64 65536))),
 p 29 (.bin .add (.t 26) (.t 28)),
 p 30 (.mv (.t 7)),
 p 31 (.bin .mul (.t 30) (.k (.int .i64 256))),
 p 32 (.bin .add (.t 29) (.t 31)),
 p 33 (.mv (.t 8)),
 p 34 (.bin .add (.t 32) (.t 33)),
 p 35 (.mv (.t 1)),
 p 36 (.bin .rem (.t 34) (.t 35)),
 p 4 (.mv (.t 36))])
 .ret)))))))),
 [.tmp 4]⟩

def F229 : Fnc := ⟨(.seq (.rg [p 2 (.mv (.k (.int .i64 0)))])
 (.seq (.rg [p 4 (.mv (.t 0)),
 p 5 (.mv (.t 0)),
 p 6 (.nilc (.t 5)),
 p 7 (.fa 2 (.t 6)),
 p 8 (.ld (.t 7)),
 p 9 (.bin .mul (.t 8) (.k (.int .i64 6364136223846793005))),
 p 10 (.bin .add (.t 9) (.k (.int .i64 1442695040888963407))),
 p 11 (.nilc (.t 4)),
 p 12 (.fa 2 (.t 11)),
 ⟨none, .st (.t 12) (.t 10), none, false⟩])
 (.seq (.rg [⟨(some 13), .mv (.t 0), none, true⟩,
 ⟨(some 14), .nilc (.t 13), none, true⟩,
 ⟨(some 15), .fa 2 (.t 14), none, true⟩,
 ⟨(some 16), .ld (.t 15), none, true⟩,
 ⟨(some 17), .bin .shr (.t 16) (.k (.int .u64 33)), none, true⟩,
 ⟨(some 18), .mv (.t 0), none, true⟩,
 ⟨(some 19), .nilc (.t 18), none, true⟩,
 ⟨(some 20), .fa 2 (.t 19), none, true⟩,
 ⟨(some 21), .ld (.t 20), none, true⟩,
 ⟨(some 22), .bin .shr (.t 21) (.k (.int .u64 45)), none, true⟩,
 p 23 (.bin .xor (.t 17) (.t 22)),
 p 24 (.bin .and (.t 23) (.k (.int .i64 255))),
 p 3 (.mv (.t 24))])
 (.seq (.seq (.rg [⟨(some 25), .mv (.t 0), none, true⟩,
 ⟨(some 26), .nilc (.t 25), none, true⟩,
 ⟨(some 27), .fa 1 (.t 26), none, true⟩,
 ⟨(some 28), .ld (.t 27), none, true⟩,
 ⟨(some 29), .mv (.t 0), none, true⟩,
 ⟨(some 30), .nilc (.t 29), none, true⟩,
 ⟨(some 31), .fa 0 (.t 30), none, true⟩,
 ⟨(some 32), .ld (.t 31), none, true⟩,
 ⟨(some 33), .len (.t 32), none, true⟩,
 p 34 (.bin .lss (.t 28) (.t 33))])
 (.cond (.t 34) (.seq (.rg [⟨(some 35), .mv (.t 3), none, true⟩,
 ⟨(some 36), .mv (.t 0), none, true⟩,
 ⟨(some 37), .nilc (.t 36), none, true⟩,
 ⟨(some 38), .fa 0 (.t 37), none, true⟩,
 ⟨(some 39), .ld (.t 38), none, true⟩,
 ⟨(some 40), .mv (.t 0), none, true⟩,
 ⟨(some 41), .nilc (.t 40), none, true⟩,
 ⟨(some 42), .fa 1 (.t 41), none, true⟩,
 ⟨(some 43), .ld (.t 42), none, true⟩,
 ⟨(some 44), .ia 1 (.t 39) (.t 43), none, true⟩,
 ⟨(some 45), .ld (.t 44), none, true⟩,
 ⟨(some 46), .cvi .i64 (.t 45), none, true⟩,
 p 47 (.bin .add (.t 35) (.t 46)),
 p 48 (.bin .and (.t 47) (.k (.int .i64 255))),
 p 3 (.mv (.t 48))])
 (.rg [p 49 (.mv (.t 0)),
 p 50 (.mv (.t 0)),
 p 51 (.nilc (.t 50)),
 p 52 (.fa 1 (.t 51)),
 p 53 (.ld (.t 52)),
 p 54 (.bin .add (.t 53) (.k (.int .i64 1))),
 p 55 (.nilc (.t 49)),
 p 56 (.fa 1 (.t 55)),
 ⟨none, .st (.t 56) (.t 54), none, false⟩]))
 .skip))
 (.seq (.rg [p 57 (.mv (.t 3)),
 p 2 (.mv (.t 57))])
 .ret))))),
 [.tmp 2]⟩

def F230 : Fnc := ⟨(.seq (.rg [p 6 (.mv (.k (.bool false)))])
 (.seq (.rg [p 7 (.mv (.t 0)),
 p 8 (.mv (.t 1)),
 p 9 (.bin .geq (.t 7) (.t 8)),
 p 10 (.mv (.t 9)),
 ⟨(some 11), .mv (.t 0), (some (10, true)), false⟩,
 ⟨(some 12), .mv (.t 2), (some (10, true)), false⟩,
 ⟨(some 13), .bin .leq (.t 11) (.t 12), (some (10, true)), false⟩,
 p 14 (.pick (.t 10) (.t 13) (.k (.bool false))),
 p 6 (.mv (.t 14))])
 .ret)),
 [.tmp 6]⟩

def F231 : Fnc := ⟨(.seq (.rg [p 2 (.mv (.k (.pointer none)))])
 (.seq (.rg [p 5 (.mv (.t 0)),
 p 6 (.len (.t 5)),
 p 7 (.bin .add (.k (.int .i64 10101)) (.t 6)),
 p 3 (.mv (.t 7))])
 (.seq (.seq (.rg [p 4 (.mv (.k (.int .i64 0)))])
 (.block 0 (.loop (.seq (.seq (.rg [p 8 (.mv (.t 4)),
 p 9 (.mv (.t 0)),
 p 10 (.len (.t 9)),
 p 11 (.bin .lss (.t 8) (.t 10)),
 p 12 (.mv (.t 11)),
 ⟨(some 13), .mv (.t 4), (some (12, true)), false⟩,
 ⟨(some 14), .bin .lss (.t 13) (.k (.int .i64 4000)), (some (12, true)), false⟩,
 p 15 (.pick (.t 12) (.t 14) (.k (.bool false)))])
 (.cond (.t 15) .skip
 (.exit 0)))
 (.seq (.block 1 (.rg [p 18 (.mv (.t 3)),
 p 19 (.bin .mul (.t 18) (.k (.int .i64 131))),
 p 20 (.mv (.t 0)),
 p 21 (.mv (.t 4)),
 p 22 (.ia 1 (.t 20) (.t 21)),
 p 23 (.ld (.t 22)),
 p 24 (.cvi .i64 (.t 23)),
 p 25 (.bin .add (.t 19) (.t 24)),
 p 26 (.bin .add (.t 25) (.k (.int .i64 7))),
 p 27 (.bin .and (.t 26) (.k (.int .i64 1073741823))),
 p 3 (.mv (.t 27))]))
 (.rg [p 16 (.mv (.t 4)),
 p 17 (.bin .add (.t 16) (.k (.int .i64 1))),
 p 4 (.mv (.t 17))]))))))
 (.seq (.rg [p 28 (.mv (.t 0)),
 p 29 (.mv (.t 3)),
 p 30 (.bd [.slice none 0 0, .int .i64 0, .int .i64 0] [(0, 1, (.t 28)), (2, 1, (.t 29))]),
 p 31 (.box (.t 30)),
 p 2 (.mv (.t 31))])
 .ret)))),
 [.tmp 2]⟩

def F233 : Fnc := ⟨(.seq (.rg [p 4 (.mv (.k (.bool false)))])
 (.seq (.rg [p 5 (.mv (.t 0)),
 p 6 (.mv (.t 1)),
 p 7 (.call 228 [(.t 5), (.t 6)]),
 p 8 (.bin .eql (.t 7) (.k (.int .i64 0))),
 p 4 (.mv (.t 8))])
 .ret)),
 [.tmp 4]⟩

def F234 : Fnc := ⟨(.seq (.rg [p 4 (.mv (.k (.int .i64 0)))])
 (.seq (.rg [p 5 (.mv (.t 1)),
 p 6 (.mv (.t 0)),
 p 7 (.mv (.t 1)),
 p 8 (.len (.t 7)),
 p 9 (.call 228 [(.t 6), (.t 8)]),
 p 10 (.ia 1 (.t 5) (.t 9)),
 p 11 (.ld (.t 10)),
 p 4 (.mv (.t 11))])
 .ret)),
 [.tmp 4]⟩

def F237 : Fnc := ⟨(.seq (.rg [p 2 (.mv (.k (.int .i64 0)))])
 (.seq (.rg [p 3 (.mv (.t 0)),
 p 4 (.call 228 [(.t 3), (.k (.int .i64 6))]),
 p 5 (.bin .sub (.t 4) (.k (.int .i64 1))),
 p 2 (.mv (.t 5))])
 .ret)),
 [.tmp 2]⟩

def F239 : Fnc := ⟨(.seq (.rg [p 2 (.new [.bool false, .int .i64 0, .int .i64 0, .int .i64 0, .bool false, .slice none 0 0])])
 (.seq (.rg [p 4 (.mv (.t 0)),
 p 5 (.call 241 [(.t 4)]),
 p 3 (.new [.bool false, .int .i64 0, .int .i64 0, .int .i64 0, .bool false, .slice none 0 0]),
 ⟨none, .stn 6 (.t 3) (.t 5), none, false⟩])
 (.seq (.seq (.rg [p 6 (.mv (.t 0)),
 p 7 (.call 228 [(.t 6), (.k (.int .i64 12))])])
 (.block 0 (.seq (.rg [p 9 (.bin .eql (.t 7) (.k (.int .i64 0))),
 p 8 (.mv (.t 9))])
 (.cond (.t 8) (.rg [p 10 (.mv (.t 0)),
 p 11 (.bs 1 4 [.int .i64 0] [(0, (.k (.int .i64 (-4)))), (1, (.k (.int .i64 510))), (2, (.k (.int .i64 512))), (3, (.k (.int .i64 61)))]),
 p 12 (.call 234 [(.t 10), (.t 11)]),
 p 13 (.fa 1 (.t 3)),
 ⟨none, .st (.t 13) (.t 12), none, false⟩])
 (.seq (.rg [p 15 (.bin .eql (.t 7) (.k (.int .i64 1))),
 p 14 (.mv (.t 15))])
 (.cond (.t 14) (.rg [p 16 (.fa 0 (.t 3)),
 p 17 (.ld (.t 16)),
 p 18 (.not (.t 17)),
 p 19 (.fa 0 (.t 3)),
 ⟨none, .st (.t 19) (.t 18), none, false⟩])
 (.seq (.rg [p 21 (.bin .eql (.t 7) (.k (.int .i64 2))),
 p 20 (.mv (.t 21))])
 (.cond (.t 20) (.rg [p 22 (.mv (.t 0)),
 p 23 (.call 237 [(.t 22)]),
 p 24 (.fa 2 (.t 3)),
 ⟨none, .st (.t 24) (.t 23), none, false⟩])
 (.seq (.rg [p 26 (.bin .eql (.t 7) (.k (.int .i64 3))),
 p 25 (.mv (.t 26))])
 (.cond (.t 25) (.rg [p 27 (.mv (.t 0)),
 p 28 (.call 237 [(.t 27)]),
 p 29 (.fa 3 (.t 3)),
 ⟨none, .st (.t 29) (.t 28), none, false⟩])
 (.seq (.rg [p 31 (.bin .eql (.t 7) (.k (.int .i64 4))),
 p 30 (.mv (.t 31))])
 (.cond (.t 30) (.rg [p 32 (.fa 5 (.t 3)),
 p 33 (.ld (.t 32)),
 p 34 (.bs 1 1 [.int .i64 0] [(0, (.k (.int .i64 1)))]),
 p 35 (.app 1 8 (.t 33) (.t 34)),
 p 36 (.fa 5 (.t 3)),
 ⟨none, .st (.t 36) (.t 35), none, false⟩])
 .skip))))))))))))
 (.seq (.rg [p 37 (.ldn 6 (.t 3)),
 ⟨none, .stn 6 (.t 2) (.t 37), none, false⟩])
 .ret)))),
 [.celln 2 6]⟩

def F241 : Fnc := ⟨(.seq (.rg [p 2 (.new [.bool false, .int .i64 0, .int .i64 0, .int .i64 0, .bool false, .slice none 0 0])])
 (.seq (.rg [p 6 (.mv (.t 0)),
 p 7 (.call 233 [(.t 6), (.k (.int .i64 2))]),
 p 8 (.mv (.t 0)),
 p 9 (.bs 1 5 [.int .i64 0] [(0, (.k (.int .i64 2))), (1, (.k (.int .i64 2))), (2, (.k (.int .i64 2))), (3, (.k (.int .i64 0))), (4, (.k (.int .i64 1)))]),
 p 10 (.call 234 [(.t 8), (.t 9)]),
 p 11 (.mv (.t 0)),
 p 12 (.bs 1 5 [.int .i64 0] [(0, (.k (.int .i64 0))), (1, (.k (.int .i64 0))), (2, (.k (.int .i64 1))), (3, (.k (.int .i64 2))), (4, (.k (.int .i64 3)))]),
 p 13 (.call 234 [(.t 11), (.t 12)]),
 p 14 (.mv (.t 0)),
 p 15 (.call 233 [(.t 14), (.k (.int .i64 6))]),
 p 16 (.bd [.bool false, .int .i64 0, .int .i64 0, .int .i64 0, .bool false, .slice none 0 0] [(0, 1, (.t 7)), (2, 1, (.t 10)), (3, 1, (.t 13)), (4, 1, (.t 15))]),
 p 3 (.new [.bool false, .int .i64 0, .int .i64 0, .int .i64 0, .bool false, .slice none 0 0]),
 ⟨none, .stn 6 (.t 3) (.t 16), none, false⟩])
 (.seq (.rg [p 17 (.fa 2 (.t 3)),
 p 18 (.ld (.t 17)),
 p 19 (.call 183 [(.t 18)]),
 p 4 (.mv (.t 19))])
 (.seq (.rg [p 20 (.mv (.t 0)),
 p 21 (.mv (.t 0)),
 p 22 (.call 228 [(.t 21), (.k (.int .i64 128))]),
 p 23 (.mv (.t 0)),
 p 24 (.call 228 [(.t 23), (.k (.int .i64 128))]),
 p 25 (.mv (.t 0)),
 p 26 (.call 228 [(.t 25), (.k (.int .i64 64))]),
 p 27 (.bin .add (.k (.int .i64 128)) (.t 26)),
 p 28 (.mv (.t 0)),
 p 29 (.call 228 [(.t 28), (.k (.int .i64 40))]),
 p 30 (.bin .add (.k (.int .i64 192)) (.t 29)),
 p 31 (.mv (.t 0)),
 p 32 (.call 228 [(.t 31), (.k (.int .i64 512))]),
 p 33 (.bs 1 5 [.int .i64 0] [(0, (.t 22)), (1, (.t 24)), (2, (.t 27)), (3, (.t 30)), (4, (.t 32))]),
 p 34 (.call 234 [(.t 20), (.t 33)]),
 p 35 (.mv (.t 4)),
 p 36 (.bin .quo (.t 34) (.t 35)),
 p 37 (.mv (.t 4)),
 p 38 (.bin .mul (.t 36) (.t 37)),
 p 39 (.fa 1 (.t 3)),
 ⟨none, .st (.t 39) (.t 38), none, false⟩])
 (.seq (.seq (.rg [p 40 (.fa 1 (.t 3)),
 p 41 (.ld (.t 40)),
 p 42 (.fa 2 (.t 3)),
 p 43 (.ld (.t 42)),
 p 44 (.fa 3 (.t 3)),
 p 45 (.ld (.t 44)),
 p 46 (.call 180 [(.t 41), (.t 43), (.t 45)]),
 p 47 (.not (.t 46))])
 (.cond (.t 47) (.rg [p 48 (.fa 3 (.t 3)),
 ⟨none, .st (.t 48) (.k (.int .i64 0)), none, false⟩])
 .skip))
 (.seq (.seq (.rg [p 5 (.mv (.k (.int .i64 0)))])
 (.block 0 (.loop (.seq (.seq (.rg [p 49 (.mv (.t 5)),
 p 50 (.fa 3 (.t 3)),
 p 51 (.ld (.t 50)),
 p 52 (.call 173 [(.t 51)]),
 p 53 (.bin .lss (.t 49) (.t 52)),
 p 54 (.mv (.t 53)),
 ⟨(some 55), .fa 0 (.t 3), (some (54, true)), false⟩,
 ⟨(some 56), .ld (.t 55), (some (54, true)), false⟩,
 p 57 (.pick (.t 54) (.t 56) (.k (.bool false)))])
 (.cond (.t 57) .skip
 (.exit 0)))
 (.seq (.block 1 (.rg [⟨(some 60), .fa 5 (.t 3), none, true⟩,
 ⟨(some 61), .ld (.t 60), none, true⟩,
 ⟨(some 62), .mv (.t 0), none, true⟩,
 ⟨(some 63), .mv (.t 0), none, true⟩,
 ⟨(some 64), .fa 2 (.t 3), none, true⟩,
 ⟨(some 65), .ld (.t 64), none, true⟩,
 ⟨(some 66), .call 201 [(.t 65)], none, true⟩,
 ⟨(some 67), .mn [(.t 66), (.k (.int .i64 1000))], none, true⟩,
 ⟨(some 68), .fa 2 (.t 3), none, true⟩,
 ⟨(some 69), .ld (.t 68), none, true⟩,
 ⟨(some 70), .call 201 [(.t 69)], none, true⟩,
 ⟨(some 71), .bs 1 2 [.int .i64 0] [(0, (.t 67)), (1, (.t 70))], none, true⟩,
 ⟨(some 72), .call 234 [(.t 63), (.t 71)], none, true⟩,
 ⟨(some 73), .call 228 [(.t 62), (.t 72)], none, true⟩,
 ⟨(some 74), .bs 1 1 [.int .i64 0] [(0, (.t 73))], none, true⟩,
 p 75 (.app 1 8 (.t 61) (.t 74)),
 p 76 (.fa 5 (.t 3)),
 ⟨none, .st (.t 76) (.t 75), none, false⟩]))
 (.rg [p 58 (.mv (.t 5)),
 p 59 (.bin .add (.t 58) (.k (.int .i64 1))),
 p 5 (.mv (.t 59))]))))))
 (.seq (.rg [p 77 (.ldn 6 (.t 3)),
 ⟨none, .stn 6 (.t 2) (.t 77), none, false⟩])
 .ret))))))),
 [.celln 2 6]⟩

def F242 : Fnc := ⟨(.seq (.rg [p 2 (.new [.slice none 0 0, .int .i64 0, .int .i64 0, .int .i64 0, .int .i64 0, .int .i64 0])])
 (.seq (.rg [p 4 (.mv (.t 0)),
 p 5 (.call 243 [(.t 4)]),
 p 3 (.new [.slice none 0 0, .int .i64 0, .int .i64 0, .int .i64 0, .int .i64 0, .int .i64 0]),
 ⟨none, .stn 6 (.t 3) (.t 5), none, false⟩])
 (.seq (.seq (.rg [p 6 (.mv (.t 0)),
 p 7 (.call 228 [(.t 6), (.k (.int .i64 14))])])
 (.block 0 (.seq (.rg [p 9 (.bin .eql (.t 7) (.k (.int .i64 0))),
 p 8 (.mv (.t 9))])
 (.cond (.t 8) (.rg [⟨(some 10), .fa 0 (.t 3), none, true⟩,
 ⟨(some 11), .ld (.t 10), none, true⟩,
 ⟨(some 12), .mv (.t 0), none, true⟩,
 ⟨(some 13), .bs 1 2 [.int .i64 0] [(0, (.k (.int .i64 0))), (1, (.k (.int .i64 5)))], none, true⟩,
 ⟨(some 14), .call 234 [(.t 12), (.t 13)], none, true⟩,
 p 15 (.ia 4 (.t 11) (.k (.int .i64 0))),
 p 16 (.fa 0 (.t 15)),
 ⟨none, .st (.t 16) (.t 14), none, false⟩])
 (.seq (.rg [p 18 (.bin .eql (.t 7) (.k (.int .i64 1))),
 p 17 (.mv (.t 18))])
 (.cond (.t 17) (.rg [⟨(some 19), .fa 0 (.t 3), none, true⟩,
 ⟨(some 20), .ld (.t 19), none, true⟩,
 ⟨(some 21), .fa 0 (.t 3), none, true⟩,
 ⟨(some 22), .ld (.t 21), none, true⟩,
 ⟨(some 23), .ia 4 (.t 22) (.k (.int .i64 0)), none, true⟩,
 ⟨(some 24), .fa 1 (.t 23), none, true⟩,
 ⟨(some 25), .ld (.t 24), none, true⟩,
 ⟨(some 26), .not (.t 25), none, true⟩,
 p 27 (.ia 4 (.t 20) (.k (.int .i64 0))),
 p 28 (.fa 1 (.t 27)),
 ⟨none, .st (.t 28) (.t 26), none, false⟩])
 (.seq (.rg [p 30 (.bin .eql (.t 7) (.k (.int .i64 2))),
 p 29 (.mv (.t 30))])
 (.cond (.t 29) (.rg [p 31 (.mv (.t 0)),
 p 32 (.bs 1 3 [.int .i64 0] [(0, (.k (.int .i64 0))), (1, (.k (.int .i64 5))), (2, (.k (.int .i64 4)))]),
 p 33 (.call 234 [(.t 31), (.t 32)]),
 p 34 (.fa 1 (.t 3)),
 ⟨none, .st (.t 34) (.t 33), none, false⟩])
 (.seq (.rg [p 36 (.bin .eql (.t 7) (.k (.int .i64 3))),
 p 35 (.mv (.t 36))])
 (.cond (.t 35) (.rg [p 37 (.mv (.t 0)),
 p 38 (.bs 1 3 [.int .i64 0] [(0, (.k (.int .i64 (-1)))), (1, (.k (.int .i64 4))), (2, (.k (.int .i64 3)))]),
 p 39 (.call 234 [(.t 37), (.t 38)]),
 p 40 (.fa 2 (.t 3)),
 ⟨none, .st (.t 40) (.t 39), none, false⟩])
 (.seq (.rg [p 42 (.bin .eql (.t 7) (.k (.int .i64 4))),
 p 41 (.mv (.t 42))])
 (.cond (.t 41) (.rg [p 43 (.mv (.t 0)),
 p 44 (.bs 1 2 [.int .i64 0] [(0, (.k (.int .i64 0))), (1, (.k (.int .i64 13)))]),
 p 45 (.call 234 [(.t 43), (.t 44)]),
 p 46 (.fa 4 (.t 3)),
 ⟨none, .st (.t 46) (.t 45), none, false⟩])
 (.seq (.rg [p 48 (.bin .eql (.t 7) (.k (.int .i64 5))),
 p 47 (.mv (.t 48))])
 (.cond (.t 47) (.rg [p 49 (.bs 4 0 [.int .i64 0, .bool false, .int .i64 0, .int .i64 0] []),
 p 50 (.fa 0 (.t 3)),
 ⟨none, .st (.t 50) (.t 49), none, false⟩])
 (.seq (.rg [p 52 (.bin .eql (.t 7) (.k (.int .i64 6))),
 p 51 (.mv (.t 52))])
 (.cond (.t 51) (.rg [p 53 (.mv (.t 0)),
 p 54 (.bs 1 3 [.int .i64 0] [(0, (.k (.int .i64 (-1)))), (1, (.k (.int .i64 4))), (2, (.k (.int .i64 3)))]),
 p 55 (.call 234 [(.t 53), (.t 54)]),
 p 56 (.fa 3 (.t 3)),
 ⟨none, .st (.t 56) (.t 55), none, false⟩])
 .skip))))))))))))))))
 (.seq (.rg [p 57 (.ldn 6 (.t 3)),
 ⟨none, .stn 6 (.t 2) (.t 57), none, false⟩])
 .ret)))),
 [.celln 2 6]⟩

def F243 : Fnc := ⟨(.seq (.rg [p 2 (.new [.slice none 0 0, .int .i64 0, .int .i64 0, .int .i64 0, .int .i64 0, .int .i64 0])])
 (.seq (.rg [p 6 (.mv (.t 0)),
 p 7 (.call 228 [(.t 6), (.k (.int .i64 3))]),
 p 8 (.bin .add (.k (.int .i64 1)) (.t 7)),
 p 9 (.mv (.t 0)),
 p 10 (.call 228 [(.t 9), (.k (.int .i64 3))]),
 p 11 (.mv (.t 0)),
 p 12 (.call 228 [(.t 11), (.k (.int .i64 3))]),
 p 13 (.mv (.t 0)),
 p 14 (.call 228 [(.t 13), (.k (.int .i64 6))]),
 p 15 (.bin .add (.k (.int .i64 1)) (.t 14)),
 p 16 (.mv (.t 0)),
 p 17 (.call 228 [(.t 16), (.k (.int .i64 12))]),
 p 18 (.bin .add (.k (.int .i64 1)) (.t 17)),
 p 19 (.bd [.slice none 0 0, .int .i64 0, .int .i64 0, .int .i64 0, .int .i64 0, .int .i64 0] [(1, 1, (.t 8)), (2, 1, (.t 10)), (3, 1, (.t 12)), (4, 1, (.t 15)), (5, 1, (.t 18))]),
 p 3 (.new [.slice none 0 0, .int .i64 0, .int .i64 0, .int .i64 0, .int .i64 0, .int .i64 0]),
 ⟨none, .stn 6 (.t 3) (.t 19), none, false⟩])
 (.seq (.seq (.rg [p 20 (.mv (.t 0)),
 p 21 (.call 228 [(.t 20), (.k (.int .i64 4))]),
 p 22 (.bin .add (.k (.int .i64 1)) (.t 21)),
 p 4 (.mv (.t 22))])
 (.block 0 (.loop (.seq (.seq (.rg [p 23 (.mv (.t 4)),
 p 24 (.bin .gtr (.t 23) (.k (.int .i64 0)))])
 (.cond (.t 24) .skip
 (.exit 0)))
 (.seq (.block 1 (.rg [⟨(some 27), .fa 0 (.t 3), none, true⟩,
 ⟨(some 28), .ld (.t 27), none, true⟩,
 ⟨(some 29), .mv (.t 0), none, true⟩,
 ⟨(some 30), .call 228 [(.t 29), (.k (.int .i64 3))], none, true⟩,
 ⟨(some 31), .bin .add (.k (.int .i64 1)) (.t 30), none, true⟩,
 ⟨(some 32), .bd [.int .i64 0, .bool false, .int .i64 0, .int .i64 0] [(0, 1, (.t 31))], none, true⟩,
 ⟨(some 33), .bs 4 1 [.int .i64 0, .bool false, .int .i64 0, .int .i64 0] [(0, (.t 32))], none, true⟩,
 p 34 (.app 4 32 (.t 28) (.t 33)),
 p 35 (.fa 0 (.t 3)),
 ⟨none, .st (.t 35) (.t 34), none, false⟩]))
 (.rg [p 25 (.mv (.t 4)),
 p 26 (.bin .sub (.t 25) (.k (.int .i64 1))),
 p 4 (.mv (.t 26))]))))))
 (.seq (.seq (.rg [p 36 (.mv (.t 0)),
 p 37 (.call 233 [(.t 36), (.k (.int .i64 2))])])
 (.cond (.t 37) (.seq (.rg [p 38 (.mv (.t 0)),
 p 39 (.fa 0 (.t 3)),
 p 40 (.ld (.t 39)),
 p 41 (.len (.t 40)),
 p 42 (.call 228 [(.t 38), (.t 41)]),
 p 5 (.mv (.t 42))])
 (.seq (.rg [p 43 (.fa 0 (.t 3)),
 p 44 (.ld (.t 43)),
 p 45 (.mv (.t 5)),
 p 46 (.ia 4 (.t 44) (.t 45)),
 p 47 (.fa 1 (.t 46)),
 ⟨none, .st (.t 47) (.k (.bool true)), none, false⟩])
 (.seq (.rg [⟨(some 48), .fa 0 (.t 3), none, true⟩,
 ⟨(some 49), .ld (.t 48), none, true⟩,
 ⟨(some 50), .mv (.t 5), none, true⟩,
 ⟨(some 51), .ldn 6 (.t 3), none, true⟩,
 ⟨(some 52), .call 214 [(.t 51)], none, true⟩,
 ⟨(some 53), .bin .mul (.k (.int .i64 2)) (.t 52), none, true⟩,
 ⟨(some 54), .mv (.t 0), none, true⟩,
 ⟨(some 55), .call 228 [(.t 54), (.k (.int .i64 30))], none, true⟩,
 ⟨(some 56), .bin .add (.t 53) (.t 55), none, true⟩,
 p 57 (.ia 4 (.t 49) (.t 50)),
 p 58 (.fa 2 (.t 57)),
 ⟨none, .st (.t 58) (.t 56), none, false⟩])
 (.rg [⟨(some 59), .fa 0 (.t 3), none, true⟩,
 ⟨(some 60), .ld (.t 59), none, true⟩,
 ⟨(some 61), .mv (.t 5), none, true⟩,
 ⟨(some 62), .mv (.t 0), none, true⟩,
 ⟨(some 63), .call 228 [(.t 62), (.k (.int .i64 4))], none, true⟩,
 ⟨(some 64), .bin .add (.k (.int .i64 1)) (.t 63), none, true⟩,
 p 65 (.ia 4 (.t 60) (.t 61)),
 p 66 (.fa 3 (.t 65)),
 ⟨none, .st (.t 66) (.t 64), none, false⟩]))))
 .skip))
 (.seq (.rg [p 67 (.ldn 6 (.t 3)),
 ⟨none, .stn 6 (.t 2) (.t 67), none, false⟩])
 .ret))))),
 [.celln 2 6]⟩

def F245 : Fnc := ⟨(.seq (.rg [p 1 (.box (.t 0)),
 p 2 (.mv (.k (.bool false)))])
 (.seq (.rg [p 3 (.fa 1 (.t 1)),
 p 4 (.ld (.t 3)),
 p 5 (.call 230 [(.t 4), (.k (.int .i64 1)), (.k (.int .i64 4))]),
 p 6 (.mv (.t 5)),
 ⟨(some 7), .ldn 6 (.t 1), (some (6, true)), false⟩,
 ⟨(some 8), .call 186 [(.t 7)], (some (6, true)), false⟩,
 ⟨(some 9), .bin .gtr (.t 8) (.k (.int .i64 0)), (some (6, true)), false⟩,
 p 10 (.pick (.t 6) (.t 9) (.k (.bool false))),
 p 11 (.mv (.t 10)),
 ⟨(some 12), .fa 4 (.t 1), (some (11, true)), false⟩,
 ⟨(some 13), .ld (.t 12), (some (11, true)), false⟩,
 ⟨(some 14), .call 230 [(.t 13), (.k (.int .i64 1)), (.k (.int .i64 12))], (some (11, true)), false⟩,
 p 15 (.pick (.t 11) (.t 14) (.k (.bool false))),
 p 16 (.mv (.t 15)),
 ⟨(some 17), .fa 5 (.t 1), (some (16, true)), false⟩,
 ⟨(some 18), .ld (.t 17), (some (16, true)), false⟩,
 ⟨(some 19), .call 230 [(.t 18), (.k (.int .i64 1)), (.k (.int .i64 40))], (some (16, true)), false⟩,
 p 20 (.pick (.t 16) (.t 19) (.k (.bool false))),
 p 2 (.mv (.t 20))])
 .ret)),
 [.tmp 2]⟩

def F246 : Fnc := ⟨(.seq (.rg [p 3 (.box (.t 1)),
 p 4 (.new [.slice none 0 0, .slice none 0 0, .slice none 0 0])])
 (.seq (.rg [p 7 (.mv (.t 0)),
 p 8 (.ldn 6 (.t 3)),
 p 9 (.call 249 [(.t 7), (.t 8)]),
 p 5 (.new [.slice none 0 0, .slice none 0 0, .slice none 0 0]),
 ⟨none, .stn 3 (.t 5) (.t 9), none, false⟩])
 (.seq (.seq (.rg [p 10 (.fa 0 (.t 5)),
 p 11 (.ld (.t 10)),
 p 12 (.len (.t 11)),
 p 13 (.bin .eql (.t 12) (.k (.int .i64 0)))])
 (.cond (.t 13) (.seq (.rg [p 14 (.ldn 3 (.t 5)),
 ⟨none, .stn 3 (.t 4) (.t 14), none, false⟩])
 .ret)
 .skip))
 (.seq (.rg [p 15 (.mv (.t 0)),
 p 16 (.fa 0 (.t 5)),
 p 17 (.ld (.t 16)),
 p 18 (.len (.t 17)),
 p 19 (.call 228 [(.t 15), (.t 18)]),
 p 6 (.mv (.t 19))])
 (.seq (.seq (.rg [p 20 (.mv (.t 0)),
 p 21 (.call 228 [(.t 20), (.k (.int .i64 14))])])
 (.block 0 (.seq (.rg [p 23 (.bin .eql (.t 21) (.k (.int .i64 0))),
 p 22 (.mv (.t 23))])
 (.cond (.t 22) (.rg [⟨(some 24), .fa 0 (.t 5), none, true⟩,
 ⟨(some 25), .ld (.t 24), none, true⟩,
 ⟨(some 26), .mv (.t 6), none, true⟩,
 ⟨(some 27), .mv (.t 0), none, true⟩,
 ⟨(some 28), .bs 1 4 [.int .i64 0] [(0, (.k (.int .i64 (-1)))), (1, (.k (.int .i64 0))), (2, (.k (.int .i64 99))), (3, (.k (.int .i64 4001)))], none, true⟩,
 ⟨(some 29), .call 234 [(.t 27), (.t 28)], none, true⟩,
 p 30 (.ia 8 (.t 25) (.t 26)),
 p 31 (.fa 0 (.t 30)),
 ⟨none, .st (.t 31) (.t 29), none, false⟩])
 (.seq (.rg [p 33 (.bin .eql (.t 21) (.k (.int .i64 1))),
 p 32 (.mv (.t 33))])
 (.cond (.t 32) (.rg [⟨(some 34), .fa 0 (.t 5), none, true⟩,
 ⟨(some 35), .ld (.t 34), none, true⟩,
 ⟨(some 36), .mv (.t 6), none, true⟩,
 ⟨(some 37), .mv (.t 0), none, true⟩,
 ⟨(some 38), .call 228 [(.t 37), (.k (.int .i64 6))], none, true⟩,
 ⟨(some 39), .bin .sub (.t 38) (.k (.int .i64 1)), none, true⟩,
 p 40 (.ia 8 (.t 35) (.t 36)),
 p 41 (.fa 1 (.t 40)),
 ⟨none, .st (.t 41) (.t 39), none, false⟩])
 (.seq (.rg [p 43 (.bin .eql (.t 21) (.k (.int .i64 2))),
 p 42 (.mv (.t 43))])
 (.cond (.t 42) (.rg [⟨(some 44), .fa 0 (.t 5), none, true⟩,
 ⟨(some 45), .ld (.t 44), none, true⟩,
 ⟨(some 46), .mv (.t 6), none, true⟩,
 ⟨(some 47), .mv (.t 0), none, true⟩,
 ⟨(some 48), .call 239 [(.t 47)], none, true⟩,
 p 49 (.ia 8 (.t 45) (.t 46)),
 p 50 (.fa 2 (.t 49)),
 ⟨none, .stn 6 (.t 50) (.t 48), none, false⟩])
 .skip))))))))
 (.seq (.rg [p 51 (.ldn 3 (.t 5)),
 ⟨none, .stn 3 (.t 4) (.t 51), none, false⟩])
 .ret)))))),
 [.celln 4 3]⟩

def F247 : Fnc := ⟨(.seq (.rg [p 2 (.new [.slice none 0 0, .int .i64 0, .int .i64 0, .int .i64 0, .int .i64 0, .int .i64 0]),
 p 3 (.new [.slice none 0 0, .slice none 0 0, .slice none 0 0])])
 (.seq (.rg [p 5 (.mv (.t 0)),
 p 6 (.call 243 [(.t 5)]),
 p 4 (.new [.slice none 0 0, .int .i64 0, .int .i64 0, .int .i64 0, .int .i64 0, .int .i64 0]),
 ⟨none, .stn 6 (.t 4) (.t 6), none, false⟩])
 (.seq (.seq (.rg [p 7 (.mv (.t 0)),
 p 8 (.call 233 [(.t 7), (.k (.int .i64 16))])])
 (.cond (.t 8) (.rg [p 9 (.mv (.t 0)),
 p 10 (.call 242 [(.t 9)]),
 ⟨none, .stn 6 (.t 4) (.t 10), none, false⟩])
 .skip))
 (.seq (.rg [⟨(some 11), .ldn 6 (.t 4), none, true⟩,
 ⟨(some 12), .mv (.t 0), none, true⟩,
 ⟨(some 13), .ldn 6 (.t 4), none, true⟩,
 ⟨(some 14), .call 246 [(.t 12), (.t 13)], none, true⟩,
 ⟨none, .stn 6 (.t 2) (.t 11), none, false⟩,
 ⟨none, .stn 3 (.t 3) (.t 14), none, false⟩])
 .ret)))),
 [.celln 2 6, .celln 3 3]⟩

def F248 : Fnc := ⟨(.seq (.rg [p 4 (.mv (.k (.slice none 0 0)))])
 (.seq (.rg [p 7 (.bs 1 0 [.int .i64 0] []),
 p 5 (.mv (.t 7))])
 (.seq (.seq (.rg [p 8 (.mv (.t 0)),
 p 9 (.call 228 [(.t 8), (.k (.int .i64 6))]),
 p 6 (.mv (.t 9))])
 (.block 0 (.loop (.seq (.seq (.rg [p 10 (.mv (.t 6)),
 p 11 (.bin .gtr (.t 10) (.k (.int .i64 0)))])
 (.cond (.t 11) .skip
 (.exit 0)))
 (.seq (.block 1 (.rg [p 14 (.mv (.t 5)),
 p 15 (.mv (.t 0)),
 p 16 (.mv (.t 1)),
 p 17 (.call 228 [(.t 15), (.t 16)]),
 p 18 (.bs 1 1 [.int .i64 0] [(0, (.t 17))]),
 p 19 (.app 1 8 (.t 14) (.t 18)),
 p 5 (.mv (.t 19))]))
 (.rg [p 12 (.mv (.t 6)),
 p 13 (.bin .sub (.t 12) (.k (.int .i64 1))),
 p 6 (.mv (.t 13))]))))))
 (.seq (.rg [p 20 (.mv (.t 5)),
 p 4 (.mv (.t 20))])
 .ret)))),
 [.tmp 4]⟩

def F249 : Fnc := ⟨(.seq (.rg [p 3 (.box (.t 1)),
 p 4 (.new [.slice none 0 0, .slice none 0 0, .slice none 0 0])])
 (.seq (.rg [p 8 (.mv (.t 0)),
 p 9 (.call 248 [(.t 8), (.k (.int .i64 5))]),
 p 10 (.mv (.t 0)),
 p 11 (.call 248 [(.t 10), (.k (.int .i64 5))]),
 p 12 (.bd [.slice none 0 0, .slice none 0 0, .slice none 0 0] [(1, 1, (.t 9)), (2, 1, (.t 11))]),
 p 5 (.new [.slice none 0 0, .slice none 0 0, .slice none 0 0]),
 ⟨none, .stn 3 (.t 5) (.t 12), none, false⟩])
 (.seq (.rg [p 6 (.mv (.k (.int .i64 0)))])
 (.seq (.seq (.rg [p 13 (.mv (.t 0)),
 p 14 (.call 228 [(.t 13), (.k (.int .i64 6))]),
 p 7 (.mv (.t 14))])
 (.block 0 (.loop (.seq (.seq (.rg [p 15 (.mv (.t 7)),
 p 16 (.bin .gtr (.t 15) (.k (.int .i64 0))),
 p 17 (.mv (.t 16)),
 ⟨(some 18), .fa 0 (.t 3), (some (17, true)), false⟩,
 ⟨(some 19), .ld (.t 18), (some (17, true)), false⟩,
 ⟨(some 20), .len (.t 19), (some (17, true)), false⟩,
 ⟨(some 21), .bin .gtr (.t 20) (.k (.int .i64 0)), (some (17, true)), false⟩,
 p 22 (.pick (.t 17) (.t 21) (.k (.bool false)))])
 (.cond (.t 22) .skip
 (.exit 0)))
 (.seq (.block 1 (.seq (.rg [p 25 (.mv (.t 6)),
 p 26 (.mv (.t 0)),
 p 27 (.bs 1 5 [.int .i64 0] [(0, (.k (.int .i64 0))), (1, (.k (.int .i64 0))), (2, (.k (.int .i64 1))), (3, (.k (.int .i64 2))), (4, (.k (.int .i64 9)))]),
 p 28 (.call 234 [(.t 26), (.t 27)]),
 p 29 (.bin .add (.t 25) (.t 28)),
 p 6 (.mv (.t 29))])
 (.rg [⟨(some 30), .fa 0 (.t 5), none, true⟩,
 ⟨(some 31), .ld (.t 30), none, true⟩,
 ⟨(some 32), .mv (.t 6), none, true⟩,
 ⟨(some 33), .mv (.t 0), none, true⟩,
 ⟨(some 34), .fa 0 (.t 3), none, true⟩,
 ⟨(some 35), .ld (.t 34), none, true⟩,
 ⟨(some 36), .len (.t 35), none, true⟩,
 ⟨(some 37), .call 228 [(.t 33), (.t 36)], none, true⟩,
 ⟨(some 38), .mv (.t 0), none, true⟩,
 ⟨(some 39), .call 241 [(.t 38)], none, true⟩,
 ⟨(some 40), .bd [.int .i64 0, .int .i64 0, .bool false, .int .i64 0, .int .i64 0, .int .i64 0, .bool false, .slice none 0 0] [(0, 1, (.t 32)), (1, 1, (.t 37)), (2, 6, (.t 39))], none, true⟩,
 ⟨(some 41), .bs 8 1 [.int .i64 0, .int .i64 0, .bool false, .int .i64 0, .int .i64 0, .int .i64 0, .bool false, .slice none 0 0] [(0, (.t 40))], none, true⟩,
 p 42 (.app 8 80 (.t 31) (.t 41)),
 p 43 (.fa 0 (.t 5)),
 ⟨none, .st (.t 43) (.t 42), none, false⟩])))
 (.rg [p 23 (.mv (.t 7)),
 p 24 (.bin .sub (.t 23) (.k (.int .i64 1))),
 p 7 (.mv (.t 24))]))))))
 (.seq (.rg [p 44 (.ldn 3 (.t 5)),
 ⟨none, .stn 3 (.t 4) (.t 44), none, false⟩])
 .ret))))),
 [.celln 4 3]⟩

def F300 : Fnc := ⟨(.seq (.rg [p 2 (.mv (.k (.bool false)))])
 (.seq (.seq (.rg [p 9 (.mv (.t 0)),
 p 10 (.call 123 [(.t 9)])])
 (.cond (.t 10) (.seq (.rg [p 2 (.mv (.k (.bool true)))])
 .ret)
 .skip))
 (.seq (.rg [p 12 (.mv (.t 0)),
 p 13 (.call 316 [(.t 12)]),
 p 11 (.mv (.t 13)),
 p 14 (.ext 0 (.t 11)),
 p 15 (.ext 1 (.t 11)),
 p 16 (.ext 2 (.t 11)),
 p 3 (.new [.slice none 0 0, .int .i64 0, .int .i64 0, .int .i64 0, .int .i64 0, .int .i64 0]),
 p 4 (.new [.slice none 0 0, .slice none 0 0, .slice none 0 0]),
 ⟨none, .stn 6 (.t 3) (.t 14), none, false⟩,
 ⟨none, .stn 3 (.t 4) (.t 15), none, false⟩,
 p 5 (.mv (.t 16))])
 (.seq (.rg [p 17 (.ldn 6 (.t 3)),
 p 18 (.ldn 3 (.t 4)),
 p 19 (.mv (.t 5)),
 p 20 (.call 80 [(.t 17), (.t 18), (.t 19)]),
 p 6 (.mv (.t 20))])
 (.seq (.rg [p 21 (.ldn 3 (.t 4)),
 p 22 (.mv (.t 5)),
 p 23 (.call 68 [(.t 21), (.t 22)]),
 p 7 (.mv (.t 23))])
 (.seq (.rg [p 24 (.ldn 6 (.t 3)),
 p 25 (.ldn 3 (.t 4)),
 p 26 (.mv (.t 5)),
 p 27 (.call 75 [(.t 24), (.t 25), (.t 26)]),
 p 8 (.mv (.t 27))])
 (.seq (.seq (.rg [p 28 (.mv (.t 6)),
 p 29 (.ldn 6 (.t 3)),
 p 30 (.ldn 3 (.t 4)),
 p 31 (.mv (.t 5)),
 p 32 (.call 317 [(.t 29), (.t 30), (.t 31)]),
 p 33 (.bin .neq (.t 28) (.t 32)),
 p 34 (.mv (.t 33)),
 ⟨(some 35), .mv (.t 7), (some (34, false)), false⟩,
 ⟨(some 36), .ldn 3 (.t 4), (some (34, false)), false⟩,
 ⟨(some 37), .mv (.t 5), (some (34, false)), false⟩,
 ⟨(some 38), .call 318 [(.t 36), (.t 37)], (some (34, false)), false⟩,
 ⟨(some 39), .bin .neq (.t 35) (.t 38), (some (34, false)), false⟩,
 p 40 (.pick (.t 34) (.k (.bool true)) (.t 39)),
 p 41 (.mv (.t 40)),
 ⟨(some 42), .mv (.t 8), (some (41, false)), false⟩,
 ⟨(some 43), .ldn 6 (.t 3), (some (41, false)), false⟩,
 ⟨(some 44), .ldn 3 (.t 4), (some (41, false)), false⟩,
 ⟨(some 45), .mv (.t 5), (some (41, false)), false⟩,
 ⟨(some 46), .call 319 [(.t 43), (.t 44), (.t 45)], (some (41, false)), false⟩,
 ⟨(some 47), .bin .neq (.t 42) (.t 46), (some (41, false)), false⟩,
 p 48 (.pick (.t 41) (.k (.bool true)) (.t 47))])
 (.cond (.t 48) (.seq (.rg [p 2 (.mv (.k (.bool false)))])
 .ret)
 .skip))
 (.seq (.seq (.rg [p 49 (.mv (.t 5)),
 p 50 (.bin .lss (.t 49) (.k (.int .i64 0))),
 p 51 (.mv (.t 50)),
 ⟨(some 52), .ldn 6 (.t 3), (some (51, false)), false⟩,
 ⟨(some 53), .call 184 [(.t 52)], (some (51, false)), false⟩,
 ⟨(some 54), .not (.t 53), (some (51, false)), false⟩,
 p 55 (.pick (.t 51) (.k (.bool true)) (.t 54))])
 (.cond (.t 55) (.seq (.rg [p 2 (.mv (.k (.bool true)))])
 .ret)
 .skip))
 (.seq (.rg [p 56 (.mv (.t 6)),
 p 57 (.fa 2 (.t 3)),
 p 58 (.ld (.t 57)),
 p 59 (.bin .leq (.t 56) (.t 58)),
 p 60 (.mv (.t 59)),
 ⟨(some 61), .mv (.t 6), (some (60, true)), false⟩,
 ⟨(some 62), .bin .geq (.t 61) (.k (.int .i64 0)), (some (60, true)), false⟩,
 p 63 (.pick (.t 60) (.t 62) (.k (.bool false))),
 p 64 (.mv (.t 63)),
 ⟨(some 65), .mv (.t 8), (some (64, true)), false⟩,
 ⟨(some 66), .bin .geq (.t 65) (.k (.int .i64 1)), (some (64, true)), false⟩,
 p 67 (.pick (.t 64) (.t 66) (.k (.bool false))),
 p 68 (.mv (.t 67)),
 ⟨(some 69), .mv (.t 8), (some (68, true)), false⟩,
 ⟨(some 70), .fa 4 (.t 3), (some (68, true)), false⟩,
 ⟨(some 71), .ld (.t 70), (some (68, true)), false⟩,
 ⟨(some 72), .bin .leq (.t 69) (.t 71), (some (68, true)), false⟩,
 p 73 (.pick (.t 68) (.t 72) (.k (.bool false))),
 p 74 (.mv (.t 73)),
 ⟨(some 75), .mv (.t 7), (some (74, true)), false⟩,
 ⟨(some 76), .bin .eql (.t 75) (.k (.int .i64 0)), (some (74, true)), false⟩,
 ⟨(some 77), .mv (.t 76), (some (74, true)), false⟩,
 ⟨(some 78), .mv (.t 7), (some (77, false)), false⟩,
 ⟨(some 79), .bin .eql (.t 78) (.k (.int .i64 2)), (some (77, false)), false⟩,
 ⟨(some 80), .pick (.t 77) (.k (.bool true)) (.t 79), (some (74, true)), false⟩,
 ⟨(some 81), .mv (.t 80), (some (74, true)), false⟩,
 ⟨(some 82), .mv (.t 7), (some (81, false)), false⟩,
 ⟨(some 83), .bin .eql (.t 82) (.k (.int .i64 3)), (some (81, false)), false⟩,
 ⟨(some 84), .pick (.t 81) (.k (.bool true)) (.t 83), (some (74, true)), false⟩,
 p 85 (.pick (.t 74) (.t 84) (.k (.bool false))),
 p 86 (.mv (.t 85)),
 ⟨(some 87), .fa 1 (.t 4), (some (86, true)), false⟩,
 ⟨(some 88), .ld (.t 87), (some (86, true)), false⟩,
 ⟨(some 89), .len (.t 88), (some (86, true)), false⟩,
 ⟨(some 90), .bin .eql (.t 89) (.k (.int .i64 0)), (some (86, true)), false⟩,
 ⟨(some 91), .mv (.t 90), (some (86, true)), false⟩,
 ⟨(some 92), .ldn 6 (.t 3), (some (91, false)), false⟩,
 ⟨(some 93), .ldn 3 (.t 4), (some (91, false)), false⟩,
 ⟨(some 94), .mv (.t 5), (some (91, false)), false⟩,
 ⟨(some 95), .fa 1 (.t 4), (some (91, false)), false⟩,
 ⟨(some 96), .ld (.t 95), (some (91, false)), false⟩,
 ⟨(some 97), .len (.t 96), (some (91, false)), false⟩,
 ⟨(some 98), .bin .add (.t 94) (.t 97), (some (91, false)), false⟩,
 ⟨(some 99), .call 80 [(.t 92), (.t 93), (.t 98)], (some (91, false)), false⟩,
 ⟨(some 100), .mv (.t 6), (some (91, false)), false⟩,
 ⟨(some 101), .bin .eql (.t 99) (.t 100), (some (91, false)), false⟩,
 ⟨(some 102), .pick (.t 91) (.k (.bool true)) (.t 101), (some (86, true)), false⟩,
 p 103 (.pick (.t 86) (.t 102) (.k (.bool false))),
 p 104 (.mv (.t 103)),
 ⟨(some 105), .fa 2 (.t 4), (some (104, true)), false⟩,
 ⟨(some 106), .ld (.t 105), (some (104, true)), false⟩,
 ⟨(some 107), .len (.t 106), (some (104, true)), false⟩,
 ⟨(some 108), .bin .eql (.t 107) (.k (.int .i64 0)), (some (104, true)), false⟩,
 ⟨(some 109), .mv (.t 108), (some (104, true)), false⟩,
 ⟨(some 110), .ldn 3 (.t 4), (some (109, false)), false⟩,
 ⟨(some 111), .mv (.t 5), (some (109, false)), false⟩,
 ⟨(some 112), .fa 2 (.t 4), (some (109, false)), false⟩,
 ⟨(some 113), .ld (.t 112), (some (109, false)), false⟩,
 ⟨(some 114), .len (.t 113), (some (109, false)), false⟩,
 ⟨(some 115), .bin .add (.t 111) (.t 114), (some (109, false)), false⟩,
 ⟨(some 116), .call 68 [(.t 110), (.t 115)], (some (109, false)), false⟩,
 ⟨(some 117), .mv (.t 7), (some (109, false)), false⟩,
 ⟨(some 118), .bin .eql (.t 116) (.t 117), (some (109, false)), false⟩,
 ⟨(some 119), .pick (.t 109) (.k (.bool true)) (.t 118), (some (104, true)), false⟩,
 p 120 (.pick (.t 104) (.t 119) (.k (.bool false))),
 p 2 (.mv (.t 120))])
 .ret))))))))),
 [.tmp 2]⟩

def F316 : Fnc := ⟨(.seq (.rg [p 2 (.new [.slice none 0 0, .int .i64 0, .int .i64 0, .int .i64 0, .int .i64 0, .int .i64 0]),
 p 3 (.new [.slice none 0 0, .slice none 0 0, .slice none 0 0]),
 p 4 (.mv (.k (.int .i64 0)))])
 (.seq (.rg [p 8 (.mv (.t 0)),
 p 9 (.call 231 [(.t 8)]),
 p 5 (.mv (.t 9))])
 (.seq (.rg [p 11 (.mv (.t 5)),
 p 12 (.call 247 [(.t 11)]),
 p 10 (.mv (.t 12)),
 p 13 (.ext 0 (.t 10)),
 p 14 (.ext 1 (.t 10)),
 p 6 (.new [.slice none 0 0, .int .i64 0, .int .i64 0, .int .i64 0, .int .i64 0, .int .i64 0]),
 p 7 (.new [.slice none 0 0, .slice none 0 0, .slice none 0 0]),
 ⟨none, .stn 6 (.t 6) (.t 13), none, false⟩,
 ⟨none, .stn 3 (.t 7) (.t 14), none, false⟩])
 (.seq (.rg [⟨(some 15), .ldn 6 (.t 6), none, true⟩,
 ⟨(some 16), .ldn 3 (.t 7), none, true⟩,
 ⟨(some 17), .mv (.t 5), none, true⟩,
 ⟨(some 18), .call 228 [(.t 17), (.k (.int .i64 20))], none, true⟩,
 ⟨(some 19), .bin .sub (.t 18) (.k (.int .i64 1)), none, true⟩,
 ⟨none, .stn 6 (.t 2) (.t 15), none, true⟩,
 ⟨none, .stn 3 (.t 3) (.t 16), none, true⟩,
 p 4 (.mv (.t 19))])
 .ret)))),
 [.celln 2 6, .celln 3 3, .tmp 4]⟩

def F317 : Fnc := ⟨(.seq (.rg [p 3 (.box (.t 0)),
 p 4 (.box (.t 1)),
 p 6 (.mv (.k (.int .i64 0)))])
 (.seq (.rg [⟨(some 7), .fa 2 (.t 3), none, true⟩,
 ⟨(some 8), .ld (.t 7), none, true⟩,
 ⟨(some 9), .fa 1 (.t 4), none, true⟩,
 ⟨(some 10), .ld (.t 9), none, true⟩,
 ⟨(some 11), .mv (.t 2), none, true⟩,
 ⟨(some 12), .call 332 [(.t 10), (.t 11)], none, true⟩,
 p 13 (.mn [(.t 8), (.t 12)]),
 p 14 (.mx [(.k (.int .i64 0)), (.t 13)]),
 p 6 (.mv (.t 14))])
 .ret)),
 [.tmp 6]⟩

def F318 : Fnc := ⟨(.seq (.rg [p 2 (.box (.t 0)),
 p 4 (.mv (.k (.int .i64 0)))])
 (.seq (.rg [p 6 (.fa 2 (.t 2)),
 p 7 (.ld (.t 6)),
 p 8 (.mv (.t 1)),
 p 9 (.call 332 [(.t 7), (.t 8)]),
 p 5 (.mv (.t 9))])
 (.seq (.seq (.rg [p 10 (.mv (.t 5)),
 p 11 (.bin .eql (.t 10) (.k (.int .i64 2))),
 p 12 (.mv (.t 11)),
 ⟨(some 13), .mv (.t 5), (some (12, false)), false⟩,
 ⟨(some 14), .bin .eql (.t 13) (.k (.int .i64 3)), (some (12, false)), false⟩,
 p 15 (.pick (.t 12) (.k (.bool true)) (.t 14))])
 (.cond (.t 15) (.seq (.rg [p 16 (.mv (.t 5)),
 p 4 (.mv (.t 16))])
 .ret)
 .skip))
 (.seq (.rg [p 4 (.mv (.k (.int .i64 0)))])
 .ret)))),
 [.tmp 4]⟩

def F319 : Fnc := ⟨(.seq (.rg [p 3 (.box (.t 0)),
 p 4 (.box (.t 1)),
 p 6 (.mv (.k (.int .i64 0)))])
 (.seq (.rg [⟨(some 7), .fa 4 (.t 3), none, true⟩,
 ⟨(some 8), .ld (.t 7), none, true⟩,
 ⟨(some 9), .fa 1 (.t 4), none, true⟩,
 ⟨(some 10), .ld (.t 9), none, true⟩,
 ⟨(some 11), .mv (.t 2), none, true⟩,
 ⟨(some 12), .call 332 [(.t 10), (.t 11)], none, true⟩,
 ⟨(some 13), .mn [(.t 12), (.k (.int .i64 99))], none, true⟩,
 ⟨(some 14), .bin .add (.t 13) (.k (.int .i64 1)), none, true⟩,
 p 15 (.mn [(.t 8), (.t 14)]),
 p 16 (.mx [(.k (.int .i64 1)), (.t 15)]),
 p 6 (.mv (.t 16))])
 .ret)),
 [.tmp 6]⟩

def F332 : Fnc := ⟨(.seq (.rg [p 4 (.mv (.k (.int .i64 0)))])
 (.seq (.seq (.rg [p 5 (.mv (.t 0)),
 p 6 (.len (.t 5)),
 p 7 (.bin .eql (.t 6) (.k (.int .i64 0))),
 p 8 (.mv (.t 7)),
 ⟨(some 9), .mv (.t 1), (some (8, false)), false⟩,
 ⟨(some 10), .bin .lss (.t 9) (.k (.int .i64 0)), (some (8, false)), false⟩,
 p 11 (.pick (.t 8) (.k (.bool true)) (.t 10))])
 (.cond (.t 11) (.seq (.rg [p 4 (.mv (.k (.int .i64 0)))])
 .ret)
 .skip))
 (.seq (.rg [p 12 (.mv (.t 0)),
 p 13 (.mv (.t 1)),
 p 14 (.mv (.t 0)),
 p 15 (.len (.t 14)),
 p 16 (.bin .rem (.t 13) (.t 15)),
 p 17 (.ia 1 (.t 12) (.t 16)),
 p 18 (.ld (.t 17)),
 p 4 (.mv (.t 18))])
 .ret))),
 [.tmp 4]⟩

end Go.Proofs.Ytdlkgdlefbabcaa.AL
