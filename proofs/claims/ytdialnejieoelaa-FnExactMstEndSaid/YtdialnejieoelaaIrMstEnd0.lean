/- Functions in the small language, printed by program. -/
import Derived.Test.YtdialnejieoelaaAl0
namespace Go.Proofs.Ytdialnejieoelaa.AL
open Go
def F18 : Fnc := ⟨(.seq (.rg [p 2 (.mv (.k (.int .i64 0)))])
 (.seq (.seq (.rg [p 3 (.mv (.t 0)),
 p 4 (.nilc (.t 3)),
 p 5 (.fa 0 (.t 4)),
 p 6 (.ld (.t 5)),
 p 7 (.len (.t 6)),
 p 8 (.bin .eql (.t 7) (.k (.int .i64 0)))])
 (.cond (.t 8) (.seq (.rg [p 2 (.mv (.k (.int .i64 0)))])
 .ret)
 .skip))
 (.seq (.rg [p 9 (.mv (.t 0)),
 p 10 (.nilc (.t 9)),
 p 11 (.fa 0 (.t 10)),
 p 12 (.ld (.t 11)),
 p 13 (.ia 6 (.t 12) (.k (.int .i64 0))),
 p 14 (.fa 3 (.t 13)),
 p 15 (.ld (.t 14)),
 p 16 (.call 22 [(.t 15)]),
 p 2 (.mv (.t 16))])
 .ret))),
 [.tmp 2]⟩
def F21 : Fnc := ⟨(.seq (.rg [p 4 (.mv (.k (.bool false)))])
 (.seq (.rg [p 5 (.mv (.t 1)),
 p 6 (.call 103 [(.t 5), (.k (.int .i64 0)), (.k (.int .i64 2))]),
 p 7 (.mv (.t 6)),
 ⟨(some 8), .mv (.t 0), (some (7, true)), false⟩,
 ⟨(some 9), .bin .geq (.t 8) (.k (.int .i64 0)), (some (7, true)), false⟩,
 p 10 (.pick (.t 7) (.t 9) (.k (.bool false))),
 p 11 (.mv (.t 10)),
 ⟨(some 12), .mv (.t 0), (some (11, true)), false⟩,
 ⟨(some 13), .mv (.t 1), (some (11, true)), false⟩,
 ⟨(some 14), .call 33 [(.t 13)], (some (11, true)), false⟩,
 ⟨(some 15), .bin .rem (.t 12) (.t 14), (some (11, true)), false⟩,
 ⟨(some 16), .bin .eql (.t 15) (.k (.int .i64 0)), (some (11, true)), false⟩,
 p 17 (.pick (.t 11) (.t 16) (.k (.bool false))),
 p 4 (.mv (.t 17))])
 .ret)),
 [.tmp 4]⟩
def F22 : Fnc := ⟨(.seq (.rg [p 2 (.mv (.k (.int .i64 0)))])
 (.seq (.seq (.rg [p 3 (.mv (.t 0)),
 p 4 (.call 103 [(.t 3), (.k (.int .i64 0)), (.k (.int .i64 3))]),
 p 5 (.not (.t 4))])
 (.cond (.t 5) (.seq (.rg [p 2 (.mv (.k (.int .i64 0)))])
 .ret)
 .skip))
 (.seq (.rg [p 6 (.bs 1 4 [.int .i64 0] [(0, (.k (.int .i64 1))), (1, (.k (.int .i64 4))), (2, (.k (.int .i64 4))), (3, (.k (.int .i64 8)))]),
 p 7 (.mv (.t 0)),
 p 8 (.ia 1 (.t 6) (.t 7)),
 p 9 (.ld (.t 8)),
 p 2 (.mv (.t 9))])
 .ret))),
 [.tmp 2]⟩
def F29 : Fnc := ⟨(.seq (.rg [p 6 (.mv (.k (.slice none 0 0)))])
 (.seq (.rg [p 9 (.bs 1 0 [.int .i64 0] []),
 p 7 (.mv (.t 9))])
 (.seq (.seq (.rg [p 10 (.mv (.t 2)),
 p 11 (.call 22 [(.t 10)]),
 p 12 (.mv (.k (.int .i64 0)))])
 (.block 0 (.loop (.seq (.rg [p 13 (.bin .lss (.t 12) (.t 11))])
 (.seq (.cond (.t 13) .skip
 (.exit 0))
 (.seq (.block 1 (.seq (.rg [p 14 (.mv (.t 0)),
 p 15 (.mv (.t 1)),
 p 16 (.mv (.t 2)),
 p 17 (.call 60 [(.t 14), (.t 15), (.t 16)]),
 p 8 (.mv (.t 17))])
 (.seq (.seq (.rg [p 18 (.mv (.t 8)),
 p 19 (.bin .lss (.t 18) (.k (.int .i64 0)))])
 (.cond (.t 19) (.seq (.rg [p 6 (.mv (.k (.slice none 0 0)))])
 .ret)
 .skip))
 (.seq (.rg [p 20 (.mv (.t 7)),
 p 21 (.mv (.t 0)),
 p 22 (.bs 1 1 [.int .i64 0] [(0, (.t 21))]),
 p 23 (.app 1 8 (.t 20) (.t 22)),
 p 7 (.mv (.t 23))])
 (.rg [p 24 (.mv (.t 8)),
 p 0 (.mv (.t 24))])))))
 (.rg [p 25 (.bin .add (.t 12) (.k (.int .i64 1))),
 p 12 (.mv (.t 25))])))))))
 (.seq (.rg [p 26 (.mv (.t 7)),
 p 6 (.mv (.t 26))])
 .ret)))),
 [.tmp 6]⟩
def F30 : Fnc := ⟨(.seq (.rg [p 6 (.mv (.k (.bool false)))])
 (.seq (.rg [p 10 (.mv (.t 0)),
 p 11 (.mv (.t 1)),
 p 12 (.mv (.t 2)),
 p 13 (.call 29 [(.t 10), (.t 11), (.t 12)]),
 p 7 (.mv (.t 13))])
 (.seq (.seq (.rg [p 14 (.mv (.t 7)),
 p 15 (.len (.t 14)),
 p 16 (.mv (.k (.int .i64 0)))])
 (.block 0 (.loop (.seq (.rg [p 17 (.bin .lss (.t 16) (.t 15))])
 (.seq (.cond (.t 17) .skip
 (.exit 0))
 (.seq (.block 1 (.seq (.rg [p 18 (.ia 1 (.t 14) (.t 16)),
 p 19 (.ld (.t 18)),
 p 9 (.mv (.t 19))])
 (.seq (.rg [p 20 (.mv (.t 9)),
 p 21 (.bin .quo (.t 20) (.k (.int .i64 64))),
 p 22 (.mv (.t 7)),
 p 23 (.ia 1 (.t 22) (.k (.int .i64 0))),
 p 24 (.ld (.t 23)),
 p 25 (.bin .quo (.t 24) (.k (.int .i64 64))),
 p 26 (.bin .neq (.t 21) (.t 25))])
 (.cond (.t 26) (.seq (.rg [p 6 (.mv (.k (.bool false)))])
 .ret)
 .skip))))
 (.rg [p 27 (.bin .add (.t 16) (.k (.int .i64 1))),
 p 16 (.mv (.t 27))])))))))
 (.seq (.rg [p 28 (.mv (.t 7)),
 p 29 (.len (.t 28)),
 p 30 (.bin .gtr (.t 29) (.k (.int .i64 0))),
 p 6 (.mv (.t 30))])
 .ret)))),
 [.tmp 6]⟩
def F33 : Fnc := ⟨(.seq (.rg [p 2 (.mv (.k (.int .i64 0)))])
 (.seq (.seq (.rg [p 3 (.mv (.t 0)),
 p 4 (.call 103 [(.t 3), (.k (.int .i64 0)), (.k (.int .i64 2))]),
 p 5 (.not (.t 4))])
 (.cond (.t 5) (.seq (.rg [p 2 (.mv (.k (.int .i64 0)))])
 .ret)
 .skip))
 (.seq (.rg [p 6 (.mv (.t 0)),
 p 7 (.bin .shl (.k (.int .i64 1)) (.t 6)),
 p 2 (.mv (.t 7))])
 .ret))),
 [.tmp 2]⟩
def F51 : Fnc := ⟨(.seq (.rg [p 2 (.mv (.k (.int .i64 0)))])
 (.seq (.seq (.rg [p 3 (.mv (.t 0)),
 p 4 (.call 33 [(.t 3)]),
 p 5 (.bin .eql (.t 4) (.k (.int .i64 0)))])
 (.cond (.t 5) (.seq (.rg [p 2 (.mv (.k (.int .i64 0)))])
 .ret)
 .skip))
 (.seq (.rg [p 6 (.mv (.t 0)),
 p 7 (.call 33 [(.t 6)]),
 p 8 (.bin .mul (.k (.int .i64 8)) (.t 7)),
 p 9 (.bin .shl (.k (.int .i64 1)) (.t 8)),
 p 2 (.mv (.t 9))])
 .ret))),
 [.tmp 2]⟩
def F56 : Fnc := ⟨(.seq (.rg [p 1 (.box (.t 0)),
 p 2 (.new [.slice none 0 0, .int .i64 0, .int .i64 0, .int .i64 0, .bool false, .bool false]),
 p 3 (.mv (.k (.bool false)))])
 (.seq (.rg [p 5 (.ldn 6 (.t 1)),
 p 6 (.call 99 [(.t 5)]),
 p 4 (.new [.slice none 0 0, .int .i64 0, .int .i64 0, .int .i64 0, .bool false, .bool false]),
 ⟨none, .stn 6 (.t 4) (.t 6), none, false⟩])
 (.seq (.seq (.rg [p 7 (.ldn 6 (.t 1)),
 p 8 (.call 88 [(.t 7)]),
 p 9 (.not (.t 8)),
 p 10 (.mv (.t 9)),
 ⟨(some 11), .fa 1 (.t 1), (some (10, false)), false⟩,
 ⟨(some 12), .ld (.t 11), (some (10, false)), false⟩,
 ⟨(some 13), .fa 2 (.t 1), (some (10, false)), false⟩,
 ⟨(some 14), .ld (.t 13), (some (10, false)), false⟩,
 ⟨(some 15), .bin .eql (.t 12) (.t 14), (some (10, false)), false⟩,
 p 16 (.pick (.t 10) (.k (.bool true)) (.t 15))])
 (.cond (.t 16) (.seq (.rg [p 17 (.ldn 6 (.t 4)),
 ⟨none, .stn 6 (.t 2) (.t 17), none, false⟩,
 p 3 (.mv (.k (.bool false)))])
 .ret)
 .skip))
 (.seq (.rg [p 18 (.fa 2 (.t 4)),
 p 19 (.ld (.t 18)),
 p 20 (.bin .add (.t 19) (.k (.int .i64 1))),
 p 21 (.fa 2 (.t 4)),
 ⟨none, .st (.t 21) (.t 20), none, false⟩])
 (.seq (.seq (.rg [⟨(some 22), .fa 2 (.t 4), none, true⟩,
 ⟨(some 23), .ld (.t 22), none, true⟩,
 ⟨(some 24), .call 18 [(.t 4)], none, true⟩,
 p 25 (.bin .eql (.t 23) (.t 24))])
 (.cond (.t 25) (.seq (.rg [p 26 (.fa 0 (.t 4)),
 p 27 (.ld (.t 26)),
 p 28 (.sl 6 (.t 27) (some (.k (.int .i64 1))) none none),
 p 29 (.bd [.slice none 0 0, .int .i64 0, .int .i64 0, .int .i64 0, .bool false, .bool false] [(0, 1, (.t 28))]),
 ⟨none, .stn 6 (.t 2) (.t 29), none, false⟩,
 p 3 (.mv (.k (.bool true)))])
 .ret)
 .skip))
 (.seq (.rg [p 30 (.fa 3 (.t 4)),
 ⟨none, .st (.t 30) (.k (.int .i64 0)), none, false⟩])
 (.seq (.rg [p 31 (.fa 4 (.t 4)),
 ⟨none, .st (.t 31) (.k (.bool false)), none, false⟩])
 (.seq (.rg [p 32 (.ldn 6 (.t 4)),
 ⟨none, .stn 6 (.t 2) (.t 32), none, false⟩,
 p 3 (.mv (.k (.bool true)))])
 .ret)))))))),
 [.celln 2 6, .tmp 3]⟩
def F60 : Fnc := ⟨(.seq (.rg [p 6 (.mv (.k (.int .i64 0)))])
 (.seq (.seq (.rg [p 9 (.mv (.t 0)),
 p 10 (.mv (.t 1)),
 p 11 (.call 21 [(.t 9), (.t 10)]),
 p 12 (.not (.t 11)),
 p 13 (.mv (.t 12)),
 ⟨(some 14), .mv (.t 0), (some (13, false)), false⟩,
 ⟨(some 15), .bin .geq (.t 14) (.k (.int .i64 512)), (some (13, false)), false⟩,
 p 16 (.pick (.t 13) (.k (.bool true)) (.t 15)),
 p 17 (.mv (.t 16)),
 ⟨(some 18), .mv (.t 2), (some (17, false)), false⟩,
 ⟨(some 19), .call 22 [(.t 18)], (some (17, false)), false⟩,
 ⟨(some 20), .bin .eql (.t 19) (.k (.int .i64 0)), (some (17, false)), false⟩,
 p 21 (.pick (.t 17) (.k (.bool true)) (.t 20))])
 (.cond (.t 21) (.seq (.rg [p 6 (.mv (.k (.int .i64 (-1))))])
 .ret)
 .skip))
 (.seq (.rg [p 22 (.mv (.t 0)),
 p 23 (.mv (.t 1)),
 p 24 (.call 33 [(.t 23)]),
 p 25 (.bin .add (.t 22) (.t 24)),
 p 26 (.mv (.t 1)),
 p 27 (.call 33 [(.t 26)]),
 p 28 (.bin .mul (.k (.int .i64 4)) (.t 27)),
 p 7 (.mv (.t 25)),
 p 8 (.mv (.t 28))])
 (.seq (.seq (.rg [p 29 (.mv (.t 2)),
 p 30 (.bin .eql (.t 29) (.k (.int .i64 2))),
 p 31 (.mv (.t 30)),
 ⟨(some 32), .mv (.t 7), (some (31, true)), false⟩,
 ⟨(some 33), .mv (.t 8), (some (31, true)), false⟩,
 ⟨(some 34), .bin .rem (.t 32) (.t 33), (some (31, true)), false⟩,
 ⟨(some 35), .bin .eql (.t 34) (.k (.int .i64 0)), (some (31, true)), false⟩,
 p 36 (.pick (.t 31) (.t 35) (.k (.bool false)))])
 (.cond (.t 36) (.rg [p 37 (.mv (.t 7)),
 p 38 (.mv (.t 8)),
 p 39 (.bin .sub (.t 37) (.t 38)),
 p 7 (.mv (.t 39))])
 .skip))
 (.seq (.rg [p 40 (.mv (.t 7)),
 p 6 (.mv (.t 40))])
 .ret))))),
 [.tmp 6]⟩
def F66 : Fnc := ⟨(.seq (.rg [p 1 (.box (.t 0)),
 p 2 (.mv (.k (.bool false)))])
 (.seq (.rg [p 3 (.mv (.k (.int .i64 0)))])
 (.seq (.seq (.rg [p 4 (.fa 0 (.t 1)),
 p 5 (.ld (.t 4))])
 (.cond (.t 5) (.rg [p 6 (.fa 3 (.t 1)),
 p 7 (.ld (.t 6)),
 p 8 (.call 22 [(.t 7)]),
 p 3 (.mv (.t 8))])
 .skip))
 (.seq (.rg [p 9 (.fa 1 (.t 1)),
 p 10 (.ld (.t 9)),
 p 11 (.fa 2 (.t 1)),
 p 12 (.ld (.t 11)),
 p 13 (.fa 3 (.t 1)),
 p 14 (.ld (.t 13)),
 p 15 (.call 30 [(.t 10), (.t 12), (.t 14)]),
 p 16 (.mv (.t 15)),
 ⟨(some 17), .fa 5 (.t 1), (some (16, true)), false⟩,
 ⟨(some 18), .ld (.t 17), (some (16, true)), false⟩,
 ⟨(some 19), .len (.t 18), (some (16, true)), false⟩,
 ⟨(some 20), .mv (.t 3), (some (16, true)), false⟩,
 ⟨(some 21), .bin .eql (.t 19) (.t 20), (some (16, true)), false⟩,
 p 22 (.pick (.t 16) (.t 21) (.k (.bool false))),
 p 23 (.mv (.t 22)),
 ⟨(some 24), .fa 5 (.t 1), (some (23, true)), false⟩,
 ⟨(some 25), .ld (.t 24), (some (23, true)), false⟩,
 ⟨(some 26), .fn 67 [(.t 1)], (some (23, true)), false⟩,
 ⟨(some 27), .call 257 [(.t 25), (.t 26)], (some (23, true)), false⟩,
 ⟨(some 28), .not (.t 27), (some (23, true)), false⟩,
 p 29 (.pick (.t 23) (.t 28) (.k (.bool false))),
 p 2 (.mv (.t 29))])
 .ret)))),
 [.tmp 2]⟩
def F67 : Fnc := ⟨(.seq (.rg [p 3 (.mv (.k (.bool false)))])
 (.seq (.rg [p 4 (.mv (.t 0)),
 p 5 (.fa 2 (.t 1)),
 p 6 (.ld (.t 5)),
 p 7 (.call 92 [(.t 4), (.t 6)]),
 p 8 (.not (.t 7)),
 p 3 (.mv (.t 8))])
 .ret)),
 [.tmp 3]⟩
def F88 : Fnc := ⟨(.seq (.rg [p 1 (.box (.t 0)),
 p 2 (.mv (.k (.bool false)))])
 (.seq (.seq (.rg [p 3 (.fa 0 (.t 1)),
 p 4 (.ld (.t 3)),
 p 5 (.len (.t 4)),
 p 6 (.bin .gtr (.t 5) (.k (.int .i64 4))),
 p 7 (.mv (.t 6)),
 ⟨(some 8), .fa 3 (.t 1), (some (7, false)), false⟩,
 ⟨(some 9), .ld (.t 8), (some (7, false)), false⟩,
 ⟨(some 10), .bin .lss (.t 9) (.k (.int .i64 0)), (some (7, false)), false⟩,
 p 11 (.pick (.t 7) (.k (.bool true)) (.t 10)),
 p 12 (.mv (.t 11)),
 ⟨(some 13), .fa 0 (.t 1), (some (12, false)), false⟩,
 ⟨(some 14), .ld (.t 13), (some (12, false)), false⟩,
 ⟨(some 15), .call 260 [(.t 14), (.k (.func (.func 89) #[] #[]))], (some (12, false)), false⟩,
 p 16 (.pick (.t 12) (.k (.bool true)) (.t 15))])
 (.cond (.t 16) (.seq (.rg [p 2 (.mv (.k (.bool false)))])
 .ret)
 .skip))
 (.seq (.seq (.rg [p 17 (.fa 0 (.t 1)),
 p 18 (.ld (.t 17)),
 p 19 (.len (.t 18)),
 p 20 (.bin .eql (.t 19) (.k (.int .i64 0)))])
 (.cond (.t 20) (.seq (.rg [p 21 (.fa 1 (.t 1)),
 p 22 (.ld (.t 21)),
 p 23 (.bin .eql (.t 22) (.k (.int .i64 0))),
 p 24 (.mv (.t 23)),
 ⟨(some 25), .fa 2 (.t 1), (some (24, true)), false⟩,
 ⟨(some 26), .ld (.t 25), (some (24, true)), false⟩,
 ⟨(some 27), .bin .eql (.t 26) (.k (.int .i64 0)), (some (24, true)), false⟩,
 p 28 (.pick (.t 24) (.t 27) (.k (.bool false))),
 p 29 (.mv (.t 28)),
 ⟨(some 30), .fa 3 (.t 1), (some (29, true)), false⟩,
 ⟨(some 31), .ld (.t 30), (some (29, true)), false⟩,
 ⟨(some 32), .bin .eql (.t 31) (.k (.int .i64 0)), (some (29, true)), false⟩,
 p 33 (.pick (.t 29) (.t 32) (.k (.bool false))),
 p 34 (.mv (.t 33)),
 ⟨(some 35), .fa 4 (.t 1), (some (34, true)), false⟩,
 ⟨(some 36), .ld (.t 35), (some (34, true)), false⟩,
 ⟨(some 37), .not (.t 36), (some (34, true)), false⟩,
 p 38 (.pick (.t 34) (.t 37) (.k (.bool false))),
 p 39 (.mv (.t 38)),
 ⟨(some 40), .fa 5 (.t 1), (some (39, true)), false⟩,
 ⟨(some 41), .ld (.t 40), (some (39, true)), false⟩,
 ⟨(some 42), .not (.t 41), (some (39, true)), false⟩,
 p 43 (.pick (.t 39) (.t 42) (.k (.bool false))),
 p 2 (.mv (.t 43))])
 .ret)
 .skip))
 (.seq (.rg [⟨(some 44), .fa 2 (.t 1), none, true⟩,
 ⟨(some 45), .ld (.t 44), none, true⟩,
 ⟨(some 46), .call 18 [(.t 1)], none, true⟩,
 ⟨(some 47), .bin .sub (.t 46) (.k (.int .i64 1)), none, true⟩,
 p 48 (.call 103 [(.t 45), (.k (.int .i64 0)), (.t 47)]),
 p 49 (.mv (.t 48)),
 ⟨(some 50), .fa 1 (.t 1), (some (49, true)), true⟩,
 ⟨(some 51), .ld (.t 50), (some (49, true)), true⟩,
 ⟨(some 52), .fa 2 (.t 1), (some (49, true)), true⟩,
 ⟨(some 53), .ld (.t 52), (some (49, true)), true⟩,
 ⟨(some 54), .fa 2 (.t 1), (some (49, true)), true⟩,
 ⟨(some 55), .ld (.t 54), (some (49, true)), true⟩,
 ⟨(some 56), .bin .add (.t 55) (.k (.int .i64 2)), (some (49, true)), true⟩,
 ⟨(some 57), .call 18 [(.t 1)], (some (49, true)), true⟩,
 ⟨(some 58), .mn [(.t 56), (.t 57)], (some (49, true)), true⟩,
 ⟨(some 59), .call 103 [(.t 51), (.t 53), (.t 58)], (some (49, true)), false⟩,
 p 60 (.pick (.t 49) (.t 59) (.k (.bool false))),
 p 2 (.mv (.t 60))])
 .ret)))),
 [.tmp 2]⟩
def F89 : Fnc := ⟨(.seq (.rg [p 1 (.box (.t 0)),
 p 2 (.mv (.k (.bool false)))])
 (.seq (.rg [p 3 (.ldn 6 (.t 1)),
 p 4 (.call 66 [(.t 3)]),
 p 5 (.not (.t 4)),
 p 2 (.mv (.t 5))])
 .ret)),
 [.tmp 2]⟩
def F92 : Fnc := ⟨(.seq (.rg [p 4 (.mv (.k (.bool false)))])
 (.seq (.rg [p 5 (.mv (.t 0)),
 p 6 (.mv (.t 1)),
 p 7 (.call 51 [(.t 6)]),
 p 8 (.bin .sub (.t 7) (.k (.int .i64 1))),
 p 9 (.call 103 [(.t 5), (.k (.int .i64 0)), (.t 8)]),
 p 4 (.mv (.t 9))])
 .ret)),
 [.tmp 4]⟩
def F99 : Fnc := ⟨(.seq (.rg [p 1 (.box (.t 0)),
 p 2 (.new [.slice none 0 0, .int .i64 0, .int .i64 0, .int .i64 0, .bool false, .bool false])])
 (.seq (.rg [p 6 (.bs 6 0 [.bool false, .int .i64 0, .int .i64 0, .int .i64 0, .bool false, .slice none 0 0] []),
 p 3 (.mv (.t 6))])
 (.seq (.seq (.rg [p 7 (.fa 0 (.t 1)),
 p 8 (.ld (.t 7)),
 p 9 (.len (.t 8)),
 p 10 (.mv (.k (.int .i64 0)))])
 (.block 0 (.loop (.seq (.rg [p 11 (.bin .lss (.t 10) (.t 9))])
 (.seq (.cond (.t 11) .skip
 (.exit 0))
 (.seq (.block 1 (.seq (.rg [p 12 (.ia 6 (.t 8) (.t 10)),
 p 13 (.ldn 6 (.t 12)),
 p 5 (.new [.bool false, .int .i64 0, .int .i64 0, .int .i64 0, .bool false, .slice none 0 0]),
 ⟨none, .stn 6 (.t 5) (.t 13), none, false⟩])
 (.rg [p 14 (.mv (.t 3)),
 p 15 (.ldn 6 (.t 5)),
 p 16 (.call 100 [(.t 15)]),
 p 17 (.bs 6 1 [.bool false, .int .i64 0, .int .i64 0, .int .i64 0, .bool false, .slice none 0 0] [(0, (.t 16))]),
 p 18 (.app 6 64 (.t 14) (.t 17)),
 p 3 (.mv (.t 18))])))
 (.rg [p 19 (.bin .add (.t 10) (.k (.int .i64 1))),
 p 10 (.mv (.t 19))])))))))
 (.seq (.rg [p 20 (.mv (.t 3)),
 p 21 (.fa 0 (.t 1)),
 ⟨none, .st (.t 21) (.t 20), none, false⟩])
 (.seq (.rg [p 22 (.ldn 6 (.t 1)),
 ⟨none, .stn 6 (.t 2) (.t 22), none, false⟩])
 .ret))))),
 [.celln 2 6]⟩
def F100 : Fnc := ⟨(.seq (.rg [p 1 (.box (.t 0)),
 p 2 (.new [.bool false, .int .i64 0, .int .i64 0, .int .i64 0, .bool false, .slice none 0 0])])
 (.seq (.rg [p 3 (.fa 5 (.t 1)),
 p 4 (.ld (.t 3)),
 p 5 (.call 253 [(.t 4)]),
 p 6 (.fa 5 (.t 1)),
 ⟨none, .st (.t 6) (.t 5), none, false⟩])
 (.seq (.rg [p 7 (.ldn 6 (.t 1)),
 ⟨none, .stn 6 (.t 2) (.t 7), none, false⟩])
 .ret))),
 [.celln 2 6]⟩
def F103 : Fnc := ⟨(.seq (.rg [p 6 (.mv (.k (.bool false)))])
 (.seq (.rg [p 7 (.mv (.t 1)),
 p 8 (.mv (.t 0)),
 p 9 (.bin .leq (.t 7) (.t 8)),
 p 10 (.mv (.t 9)),
 ⟨(some 11), .mv (.t 0), (some (10, true)), false⟩,
 ⟨(some 12), .mv (.t 2), (some (10, true)), false⟩,
 ⟨(some 13), .bin .leq (.t 11) (.t 12), (some (10, true)), false⟩,
 p 14 (.pick (.t 10) (.t 13) (.k (.bool false))),
 p 6 (.mv (.t 14))])
 .ret)),
 [.tmp 6]⟩
def F132 : Fnc := ⟨(.seq (.rg [p 4 (.mv (.k (.bool false)))])
 (.seq (.seq (.rg [p 6 (.mv (.t 0)),
 p 7 (.len (.t 6)),
 p 8 (.mv (.t 1)),
 p 9 (.len (.t 8)),
 p 10 (.bin .neq (.t 7) (.t 9))])
 (.cond (.t 10) (.seq (.rg [p 4 (.mv (.k (.bool false)))])
 .ret)
 .skip))
 (.seq (.seq (.rg [p 5 (.mv (.k (.int .i64 0)))])
 (.block 0 (.loop (.seq (.seq (.rg [p 11 (.mv (.t 5)),
 p 12 (.mv (.t 0)),
 p 13 (.len (.t 12)),
 p 14 (.bin .lss (.t 11) (.t 13))])
 (.cond (.t 14) .skip
 (.exit 0)))
 (.seq (.block 1 (.seq (.rg [⟨(some 17), .mv (.t 0), none, true⟩,
 ⟨(some 18), .mv (.t 5), none, true⟩,
 ⟨(some 19), .ia 1 (.t 17) (.t 18), none, true⟩,
 ⟨(some 20), .ld (.t 19), none, true⟩,
 ⟨(some 21), .mv (.t 1), none, true⟩,
 ⟨(some 22), .mv (.t 5), none, true⟩,
 ⟨(some 23), .ia 1 (.t 21) (.t 22), none, true⟩,
 ⟨(some 24), .ld (.t 23), none, true⟩,
 p 25 (.bin .neq (.t 20) (.t 24))])
 (.cond (.t 25) (.seq (.rg [p 4 (.mv (.k (.bool false)))])
 .ret)
 .skip)))
 (.rg [p 15 (.mv (.t 5)),
 p 16 (.bin .add (.t 15) (.k (.int .i64 1))),
 p 5 (.mv (.t 16))]))))))
 (.seq (.rg [p 4 (.mv (.k (.bool true)))])
 .ret)))),
 [.tmp 4]⟩
def F136 : Fnc := ⟨(.seq (.rg [p 2 (.box (.t 0)),
 p 3 (.box (.t 1)),
 p 4 (.mv (.k (.bool false)))])
 (.seq (.seq (.rg [p 5 (.fa 0 (.t 2)),
 p 6 (.ld (.t 5)),
 p 7 (.fa 0 (.t 3)),
 p 8 (.ld (.t 7)),
 p 9 (.call 139 [(.t 6), (.t 8)]),
 p 10 (.not (.t 9))])
 (.cond (.t 10) (.seq (.rg [p 4 (.mv (.k (.bool false)))])
 .ret)
 .skip))
 (.seq (.seq (.rg [p 11 (.fa 1 (.t 2)),
 p 12 (.ld (.t 11)),
 p 13 (.fa 1 (.t 3)),
 p 14 (.ld (.t 13)),
 p 15 (.bin .neq (.t 12) (.t 14))])
 (.cond (.t 15) (.seq (.rg [p 4 (.mv (.k (.bool false)))])
 .ret)
 .skip))
 (.seq (.seq (.rg [p 16 (.fa 2 (.t 2)),
 p 17 (.ld (.t 16)),
 p 18 (.fa 2 (.t 3)),
 p 19 (.ld (.t 18)),
 p 20 (.bin .neq (.t 17) (.t 19))])
 (.cond (.t 20) (.seq (.rg [p 4 (.mv (.k (.bool false)))])
 .ret)
 .skip))
 (.seq (.seq (.rg [p 21 (.fa 3 (.t 2)),
 p 22 (.ld (.t 21)),
 p 23 (.fa 3 (.t 3)),
 p 24 (.ld (.t 23)),
 p 25 (.bin .neq (.t 22) (.t 24))])
 (.cond (.t 25) (.seq (.rg [p 4 (.mv (.k (.bool false)))])
 .ret)
 .skip))
 (.seq (.seq (.rg [p 26 (.fa 4 (.t 2)),
 p 27 (.ld (.t 26)),
 p 28 (.fa 4 (.t 3)),
 p 29 (.ld (.t 28)),
 p 30 (.eqb true (.t 27) (.t 29))])
 (.cond (.t 30) (.seq (.rg [p 4 (.mv (.k (.bool false)))])
 .ret)
 .skip))
 (.seq (.seq (.rg [p 31 (.fa 5 (.t 2)),
 p 32 (.ld (.t 31)),
 p 33 (.fa 5 (.t 3)),
 p 34 (.ld (.t 33)),
 p 35 (.eqb true (.t 32) (.t 34))])
 (.cond (.t 35) (.seq (.rg [p 4 (.mv (.k (.bool false)))])
 .ret)
 .skip))
 (.seq (.rg [p 4 (.mv (.k (.bool true)))])
 .ret)))))))),
 [.tmp 4]⟩
def F138 : Fnc := ⟨(.seq (.rg [p 2 (.box (.t 0)),
 p 3 (.box (.t 1)),
 p 4 (.mv (.k (.bool false)))])
 (.seq (.seq (.rg [p 5 (.fa 0 (.t 2)),
 p 6 (.ld (.t 5)),
 p 7 (.fa 0 (.t 3)),
 p 8 (.ld (.t 7)),
 p 9 (.eqb true (.t 6) (.t 8))])
 (.cond (.t 9) (.seq (.rg [p 4 (.mv (.k (.bool false)))])
 .ret)
 .skip))
 (.seq (.seq (.rg [p 10 (.fa 1 (.t 2)),
 p 11 (.ld (.t 10)),
 p 12 (.fa 1 (.t 3)),
 p 13 (.ld (.t 12)),
 p 14 (.bin .neq (.t 11) (.t 13))])
 (.cond (.t 14) (.seq (.rg [p 4 (.mv (.k (.bool false)))])
 .ret)
 .skip))
 (.seq (.seq (.rg [p 15 (.fa 2 (.t 2)),
 p 16 (.ld (.t 15)),
 p 17 (.fa 2 (.t 3)),
 p 18 (.ld (.t 17)),
 p 19 (.bin .neq (.t 16) (.t 18))])
 (.cond (.t 19) (.seq (.rg [p 4 (.mv (.k (.bool false)))])
 .ret)
 .skip))
 (.seq (.seq (.rg [p 20 (.fa 3 (.t 2)),
 p 21 (.ld (.t 20)),
 p 22 (.fa 3 (.t 3)),
 p 23 (.ld (.t 22)),
 p 24 (.bin .neq (.t 21) (.t 23))])
 (.cond (.t 24) (.seq (.rg [p 4 (.mv (.k (.bool false)))])
 .ret)
 .skip))
 (.seq (.seq (.rg [p 25 (.fa 4 (.t 2)),
 p 26 (.ld (.t 25)),
 p 27 (.fa 4 (.t 3)),
 p 28 (.ld (.t 27)),
 p 29 (.eqb true (.t 26) (.t 28))])
 (.cond (.t 29) (.seq (.rg [p 4 (.mv (.k (.bool false)))])
 .ret)
 .skip))
 (.seq (.seq (.rg [p 30 (.fa 5 (.t 2)),
 p 31 (.ld (.t 30)),
 p 32 (.fa 5 (.t 3)),
 p 33 (.ld (.t 32)),
 p 34 (.call 132 [(.t 31), (.t 33)]),
 p 35 (.not (.t 34))])
 (.cond (.t 35) (.seq (.rg [p 4 (.mv (.k (.bool false)))])
 .ret)
 .skip))
 (.seq (.rg [p 4 (.mv (.k (.bool true)))])
 .ret)))))))),
 [.tmp 4]⟩
def F139 : Fnc := ⟨(.seq (.rg [p 4 (.mv (.k (.bool false)))])
 (.seq (.seq (.rg [p 6 (.mv (.t 0)),
 p 7 (.len (.t 6)),
 p 8 (.mv (.t 1)),
 p 9 (.len (.t 8)),
 p 10 (.bin .neq (.t 7) (.t 9))])
 (.cond (.t 10) (.seq (.rg [p 4 (.mv (.k (.bool false)))])
 .ret)
 .skip))
 (.seq (.seq (.rg [p 5 (.mv (.k (.int .i64 0)))])
 (.block 0 (.loop (.seq (.seq (.rg [p 11 (.mv (.t 5)),
 p 12 (.mv (.t 0)),
 p 13 (.len (.t 12)),
 p 14 (.bin .lss (.t 11) (.t 13))])
 (.cond (.t 14) .skip
 (.exit 0)))
 (.seq (.block 1 (.seq (.rg [⟨(some 17), .mv (.t 0), none, true⟩,
 ⟨(some 18), .mv (.t 5), none, true⟩,
 ⟨(some 19), .ia 6 (.t 17) (.t 18), none, true⟩,
 ⟨(some 20), .ldn 6 (.t 19), none, true⟩,
 ⟨(some 21), .mv (.t 1), none, true⟩,
 ⟨(some 22), .mv (.t 5), none, true⟩,
 ⟨(some 23), .ia 6 (.t 21) (.t 22), none, true⟩,
 ⟨(some 24), .ldn 6 (.t 23), none, true⟩,
 p 25 (.call 138 [(.t 20), (.t 24)]),
 p 26 (.not (.t 25))])
 (.cond (.t 26) (.seq (.rg [p 4 (.mv (.k (.bool false)))])
 .ret)
 .skip)))
 (.rg [p 15 (.mv (.t 5)),
 p 16 (.bin .add (.t 15) (.k (.int .i64 1))),
 p 5 (.mv (.t 16))]))))))
 (.seq (.rg [p 4 (.mv (.k (.bool true)))])
 .ret)))),
 [.tmp 4]⟩
def F148 : Fnc := ⟨(.seq (.rg [p 4 (.mv (.k (.int .i64 0)))])
 (.seq (.rg [p 5 (.mv (.t 1)),
 p 6 (.mv (.t 0)),
 p 7 (.len (.t 6)),
 p 8 (.bin .sub (.t 5) (.t 7)),
 p 1 (.mv (.t 8))])
 (.seq (.seq (.rg [p 9 (.mv (.t 1)),
 p 10 (.bin .lss (.t 9) (.k (.int .i64 0)))])
 (.cond (.t 10) (.seq (.rg [p 4 (.mv (.k (.int .i64 (-1))))])
 .ret)
 .skip))
 (.seq (.rg [p 11 (.mv (.t 1)),
 p 4 (.mv (.t 11))])
 .ret)))),
 [.tmp 4]⟩
def F151 : Fnc := ⟨(.seq (.rg [p 2 (.box (.t 0)),
 p 4 (.mv (.k (.int .i64 0)))])
 (.seq (.rg [p 5 (.fa 0 (.t 2)),
 p 6 (.ld (.t 5)),
 p 7 (.mv (.t 1)),
 p 8 (.call 154 [(.t 6), (.t 7)]),
 p 1 (.mv (.t 8))])
 (.seq (.seq (.rg [p 9 (.mv (.t 1)),
 p 10 (.bin .lss (.t 9) (.k (.int .i64 0)))])
 (.cond (.t 10) (.seq (.rg [p 4 (.mv (.k (.int .i64 (-1))))])
 .ret)
 .skip))
 (.seq (.rg [p 11 (.mv (.t 1)),
 p 4 (.mv (.t 11))])
 .ret)))),
 [.tmp 4]⟩
def F153 : Fnc := ⟨(.seq (.rg [p 2 (.box (.t 0)),
 p 4 (.mv (.k (.int .i64 0)))])
 (.seq (.rg [p 5 (.fa 5 (.t 2)),
 p 6 (.ld (.t 5)),
 p 7 (.mv (.t 1)),
 p 8 (.call 148 [(.t 6), (.t 7)]),
 p 1 (.mv (.t 8))])
 (.seq (.seq (.rg [p 9 (.mv (.t 1)),
 p 10 (.bin .lss (.t 9) (.k (.int .i64 0)))])
 (.cond (.t 10) (.seq (.rg [p 4 (.mv (.k (.int .i64 (-1))))])
 .ret)
 .skip))
 (.seq (.rg [p 11 (.mv (.t 1)),
 p 4 (.mv (.t 11))])
 .ret)))),
 [.tmp 4]⟩
def F154 : Fnc := ⟨(.seq (.rg [p 4 (.mv (.k (.int .i64 0)))])
 (.seq (.rg [p 6 (.mv (.t 1)),
 p 7 (.mv (.t 0)),
 p 8 (.len (.t 7)),
 p 9 (.bin .sub (.t 6) (.t 8)),
 p 1 (.mv (.t 9))])
 (.seq (.seq (.rg [p 10 (.mv (.t 1)),
 p 11 (.bin .lss (.t 10) (.k (.int .i64 0)))])
 (.cond (.t 11) (.seq (.rg [p 4 (.mv (.k (.int .i64 (-1))))])
 .ret)
 .skip))
 (.seq (.seq (.rg [p 5 (.mv (.k (.int .i64 0)))])
 (.block 0 (.loop (.seq (.seq (.rg [p 12 (.mv (.t 5)),
 p 13 (.mv (.t 0)),
 p 14 (.len (.t 13)),
 p 15 (.bin .lss (.t 12) (.t 14))])
 (.cond (.t 15) .skip
 (.exit 0)))
 (.seq (.block 1 (.seq (.rg [p 18 (.mv (.t 0)),
 p 19 (.mv (.t 5)),
 p 20 (.ia 6 (.t 18) (.t 19)),
 p 21 (.ldn 6 (.t 20)),
 p 22 (.mv (.t 1)),
 p 23 (.call 153 [(.t 21), (.t 22)]),
 p 1 (.mv (.t 23))])
 (.seq (.rg [p 24 (.mv (.t 1)),
 p 25 (.bin .lss (.t 24) (.k (.int .i64 0)))])
 (.cond (.t 25) (.seq (.rg [p 4 (.mv (.k (.int .i64 (-1))))])
 .ret)
 .skip))))
 (.rg [p 16 (.mv (.t 5)),
 p 17 (.bin .add (.t 16) (.k (.int .i64 1))),
 p 5 (.mv (.t 17))]))))))
 (.seq (.rg [p 26 (.mv (.t 1)),
 p 4 (.mv (.t 26))])
 .ret))))),
 [.tmp 4]⟩
def F163 : Fnc := ⟨(.seq (.rg [p 2 (.mv (.k (.slice none 0 0)))])
 (.seq (.rg [p 5 (.mv (.t 0)),
 p 6 (.len (.t 5)),
 p 7 (.mk 1 8 [.int .i64 0] (.t 6) (.t 6)),
 p 3 (.mv (.t 7))])
 (.seq (.seq (.rg [p 4 (.mv (.k (.int .i64 0)))])
 (.block 0 (.loop (.seq (.seq (.rg [p 8 (.mv (.t 4)),
 p 9 (.mv (.t 0)),
 p 10 (.len (.t 9)),
 p 11 (.bin .lss (.t 8) (.t 10))])
 (.cond (.t 11) .skip
 (.exit 0)))
 (.seq (.block 1 (.rg [p 14 (.mv (.t 3)),
 p 15 (.mv (.t 4)),
 p 16 (.mv (.t 0)),
 p 17 (.mv (.t 4)),
 p 18 (.ia 1 (.t 16) (.t 17)),
 p 19 (.ld (.t 18)),
 p 20 (.ia 1 (.t 14) (.t 15)),
 ⟨none, .st (.t 20) (.t 19), none, false⟩]))
 (.rg [p 12 (.mv (.t 4)),
 p 13 (.bin .add (.t 12) (.k (.int .i64 1))),
 p 4 (.mv (.t 13))]))))))
 (.seq (.rg [p 21 (.mv (.t 3)),
 p 2 (.mv (.t 21))])
 .ret)))),
 [.tmp 2]⟩
def F167 : Fnc := ⟨(.seq (.rg [p 1 (.box (.t 0)),
 p 2 (.new [.slice none 0 0, .int .i64 0, .int .i64 0, .int .i64 0, .bool false, .bool false])])
 (.seq (.rg [p 3 (.new [.slice none 0 0, .int .i64 0, .int .i64 0, .int .i64 0, .bool false, .bool false])])
 (.seq (.rg [p 4 (.fa 0 (.t 1)),
 p 5 (.ld (.t 4)),
 p 6 (.call 170 [(.t 5)]),
 p 7 (.fa 0 (.t 3)),
 ⟨none, .st (.t 7) (.t 6), none, false⟩])
 (.seq (.rg [p 8 (.fa 1 (.t 1)),
 p 9 (.ld (.t 8)),
 p 10 (.fa 1 (.t 3)),
 ⟨none, .st (.t 10) (.t 9), none, false⟩])
 (.seq (.rg [p 11 (.fa 2 (.t 1)),
 p 12 (.ld (.t 11)),
 p 13 (.fa 2 (.t 3)),
 ⟨none, .st (.t 13) (.t 12), none, false⟩])
 (.seq (.rg [p 14 (.fa 3 (.t 1)),
 p 15 (.ld (.t 14)),
 p 16 (.fa 3 (.t 3)),
 ⟨none, .st (.t 16) (.t 15), none, false⟩])
 (.seq (.rg [p 17 (.fa 4 (.t 1)),
 p 18 (.ld (.t 17)),
 p 19 (.fa 4 (.t 3)),
 ⟨none, .st (.t 19) (.t 18), none, false⟩])
 (.seq (.rg [p 20 (.fa 5 (.t 1)),
 p 21 (.ld (.t 20)),
 p 22 (.fa 5 (.t 3)),
 ⟨none, .st (.t 22) (.t 21), none, false⟩])
 (.seq (.rg [p 23 (.ldn 6 (.t 3)),
 ⟨none, .stn 6 (.t 2) (.t 23), none, false⟩])
 .ret))))))))),
 [.celln 2 6]⟩
def F169 : Fnc := ⟨(.seq (.rg [p 1 (.box (.t 0)),
 p 2 (.new [.bool false, .int .i64 0, .int .i64 0, .int .i64 0, .bool false, .slice none 0 0])])
 (.seq (.rg [p 3 (.new [.bool false, .int .i64 0, .int .i64 0, .int .i64 0, .bool false, .slice none 0 0])])
 (.seq (.rg [p 4 (.fa 0 (.t 1)),
 p 5 (.ld (.t 4)),
 p 6 (.fa 0 (.t 3)),
 ⟨none, .st (.t 6) (.t 5), none, false⟩])
 (.seq (.rg [p 7 (.fa 1 (.t 1)),
 p 8 (.ld (.t 7)),
 p 9 (.fa 1 (.t 3)),
 ⟨none, .st (.t 9) (.t 8), none, false⟩])
 (.seq (.rg [p 10 (.fa 2 (.t 1)),
 p 11 (.ld (.t 10)),
 p 12 (.fa 2 (.t 3)),
 ⟨none, .st (.t 12) (.t 11), none, false⟩])
 (.seq (.rg [p 13 (.fa 3 (.t 1)),
 p 14 (.ld (.t 13)),
 p 15 (.fa 3 (.t 3)),
 ⟨none, .st (.t 15) (.t 14), none, false⟩])
 (.seq (.rg [p 16 (.fa 4 (.t 1)),
 p 17 (.ld (.t 16)),
 p 18 (.fa 4 (.t 3)),
 ⟨none, .st (.t 18) (.t 17), none, false⟩])
 (.seq (.rg [p 19 (.fa 5 (.t 1)),
 p 20 (.ld (.t 19)),
 p 21 (.call 163 [(.t 20)]),
 p 22 (.fa 5 (.t 3)),
 ⟨none, .st (.t 22) (.t 21), none, false⟩])
 (.seq (.rg [p 23 (.ldn 6 (.t 3)),
 ⟨none, .stn 6 (.t 2) (.t 23), none, false⟩])
 .ret))))))))),
 [.celln 2 6]⟩
def F170 : Fnc := ⟨(.seq (.rg [p 2 (.mv (.k (.slice none 0 0)))])
 (.seq (.rg [p 5 (.mv (.t 0)),
 p 6 (.len (.t 5)),
 p 7 (.mk 6 64 [.bool false, .int .i64 0, .int .i64 0, .int .i64 0, .bool false, .slice none 0 0] (.t 6) (.t 6)),
 p 3 (.mv (.t 7))])
 (.seq (.seq (.rg [p 4 (.mv (.k (.int .i64 0)))])
 (.block 0 (.loop (.seq (.seq (.rg [p 8 (.mv (.t 4)),
 p 9 (.mv (.t 0)),
 p 10 (.len (.t 9)),
 p 11 (.bin .lss (.t 8) (.t 10))])
 (.cond (.t 11) .skip
 (.exit 0)))
 (.seq (.block 1 (.rg [p 14 (.mv (.t 3)),
 p 15 (.mv (.t 4)),
 p 16 (.mv (.t 0)),
 p 17 (.mv (.t 4)),
 p 18 (.ia 6 (.t 16) (.t 17)),
 p 19 (.ldn 6 (.t 18)),
 p 20 (.call 169 [(.t 19)]),
 p 21 (.ia 6 (.t 14) (.t 15)),
 ⟨none, .stn 6 (.t 21) (.t 20), none, false⟩]))
 (.rg [p 12 (.mv (.t 4)),
 p 13 (.bin .add (.t 12) (.k (.int .i64 1))),
 p 4 (.mv (.t 13))]))))))
 (.seq (.rg [p 22 (.mv (.t 3)),
 p 2 (.mv (.t 22))])
 .ret)))),
 [.tmp 2]⟩
def F172 : Fnc := ⟨(.seq (.rg [p 4 (.mv (.k (.bool false)))])
 (.seq (.rg [p 5 (.mv (.t 1)),
 p 6 (.call 183 [(.t 5)]),
 p 7 (.bin .gtr (.t 6) (.k (.int .i64 0))),
 p 8 (.mv (.t 7)),
 ⟨(some 9), .mv (.t 0), (some (8, true)), false⟩,
 ⟨(some 10), .bin .geq (.t 9) (.k (.int .i64 0)), (some (8, true)), false⟩,
 p 11 (.pick (.t 8) (.t 10) (.k (.bool false))),
 p 12 (.mv (.t 11)),
 ⟨(some 13), .mv (.t 0), (some (12, true)), false⟩,
 ⟨(some 14), .mv (.t 1), (some (12, true)), false⟩,
 ⟨(some 15), .call 183 [(.t 14)], (some (12, true)), false⟩,
 ⟨(some 16), .bin .rem (.t 13) (.t 15), (some (12, true)), false⟩,
 ⟨(some 17), .bin .eql (.t 16) (.k (.int .i64 0)), (some (12, true)), false⟩,
 p 18 (.pick (.t 12) (.t 17) (.k (.bool false))),
 p 4 (.mv (.t 18))])
 .ret)),
 [.tmp 4]⟩
def F173 : Fnc := ⟨(.seq (.rg [p 2 (.mv (.k (.int .i64 0)))])
 (.seq (.seq (.rg [p 3 (.mv (.t 0)),
 p 4 (.call 230 [(.t 3), (.k (.int .i64 0)), (.k (.int .i64 3))]),
 p 5 (.not (.t 4))])
 (.cond (.t 5) (.seq (.rg [p 2 (.mv (.k (.int .i64 0)))])
 .ret)
 .skip))
 (.seq (.rg [p 6 (.bs 1 4 [.int .i64 0] [(0, (.k (.int .i64 1))), (1, (.k (.int .i64 4))), (2, (.k (.int .i64 4))), (3, (.k (.int .i64 8)))]),
 p 7 (.mv (.t 0)),
 p 8 (.ia 1 (.t 6) (.t 7)),
 p 9 (.ld (.t 8)),
 p 2 (.mv (.t 9))])
 .ret))),
 [.tmp 2]⟩
def F179 : Fnc := ⟨(.seq (.rg [p 6 (.mv (.k (.slice none 0 0)))])
 (.seq (.rg [p 8 (.bs 1 0 [.int .i64 0] []),
 p 7 (.mv (.t 8))])
 (.seq (.block 0 (.loop (.seq (.seq (.rg [p 9 (.mv (.t 7)),
 p 10 (.len (.t 9)),
 p 11 (.mv (.t 2)),
 p 12 (.call 173 [(.t 11)]),
 p 13 (.bin .lss (.t 10) (.t 12)),
 p 14 (.mv (.t 13)),
 ⟨(some 15), .mv (.t 0), (some (14, true)), false⟩,
 ⟨(some 16), .mv (.t 1), (some (14, true)), false⟩,
 ⟨(some 17), .mv (.t 2), (some (14, true)), false⟩,
 ⟨(some 18), .call 205 [(.t 15), (.t 16), (.t 17)], (some (14, true)), false⟩,
 ⟨(some 19), .bin .geq (.t 18) (.k (.int .i64 0)), (some (14, true)), false⟩,
 p 20 (.pick (.t 14) (.t 19) (.k (.bool false)))])
 (.cond (.t 20) .skip
 (.exit 0)))
 (.block 1 (.seq (.rg [p 21 (.mv (.t 7)),
 p 22 (.mv (.t 0)),
 p 23 (.bs 1 1 [.int .i64 0] [(0, (.t 22))]),
 p 24 (.app 1 8 (.t 21) (.t 23)),
 p 7 (.mv (.t 24))])
 (.rg [p 25 (.mv (.t 0)),
 p 26 (.mv (.t 1)),
 p 27 (.mv (.t 2)),
 p 28 (.call 205 [(.t 25), (.t 26), (.t 27)]),
 p 0 (.mv (.t 28))]))))))
 (.seq (.seq (.rg [p 29 (.mv (.t 7)),
 p 30 (.len (.t 29)),
 p 31 (.mv (.t 2)),
 p 32 (.call 173 [(.t 31)]),
 p 33 (.bin .lss (.t 30) (.t 32))])
 (.cond (.t 33) (.seq (.rg [p 34 (.bs 1 0 [.int .i64 0] []),
 p 6 (.mv (.t 34))])
 .ret)
 .skip))
 (.seq (.rg [p 35 (.mv (.t 7)),
 p 6 (.mv (.t 35))])
 .ret))))),
 [.tmp 6]⟩
def F180 : Fnc := ⟨(.seq (.rg [p 6 (.mv (.k (.bool false)))])
 (.seq (.rg [p 9 (.mv (.t 0)),
 p 10 (.mv (.t 1)),
 p 11 (.mv (.t 2)),
 p 12 (.call 179 [(.t 9), (.t 10), (.t 11)]),
 p 7 (.mv (.t 12))])
 (.seq (.seq (.rg [p 8 (.mv (.k (.int .i64 0)))])
 (.block 0 (.loop (.seq (.seq (.rg [p 13 (.mv (.t 8)),
 p 14 (.mv (.t 7)),
 p 15 (.len (.t 14)),
 p 16 (.bin .lss (.t 13) (.t 15))])
 (.cond (.t 16) .skip
 (.exit 0)))
 (.seq (.block 1 (.seq (.rg [⟨(some 19), .mv (.t 7), none, true⟩,
 ⟨(some 20), .mv (.t 8), none, true⟩,
 ⟨(some 21), .ia 1 (.t 19) (.t 20), none, true⟩,
 ⟨(some 22), .ld (.t 21), none, true⟩,
 ⟨(some 23), .bin .quo (.t 22) (.k (.int .i64 64)), none, true⟩,
 ⟨(some 24), .mv (.t 7), none, true⟩,
 ⟨(some 25), .ia 1 (.t 24) (.k (.int .i64 0)), none, true⟩,
 ⟨(some 26), .ld (.t 25), none, true⟩,
 ⟨(some 27), .bin .quo (.t 26) (.k (.int .i64 64)), none, true⟩,
 p 28 (.bin .neq (.t 23) (.t 27))])
 (.cond (.t 28) (.seq (.rg [p 6 (.mv (.k (.bool false)))])
 .ret)
 .skip)))
 (.rg [p 17 (.mv (.t 8)),
 p 18 (.bin .add (.t 17) (.k (.int .i64 1))),
 p 8 (.mv (.t 18))]))))))
 (.seq (.rg [p 29 (.mv (.t 7)),
 p 30 (.len (.t 29)),
 p 31 (.bin .gtr (.t 30) (.k (.int .i64 0))),
 p 6 (.mv (.t 31))])
 .ret)))),
 [.tmp 6]⟩
def F183 : Fnc := ⟨(.seq (.rg [p 2 (.mv (.k (.int .i64 0)))])
 (.seq (.seq (.rg [p 3 (.mv (.t 0)),
 p 4 (.call 230 [(.t 3), (.k (.int .i64 0)), (.k (.int .i64 2))]),
 p 5 (.not (.t 4))])
 (.cond (.t 5) (.seq (.rg [p 2 (.mv (.k (.int .i64 0)))])
 .ret)
 .skip))
 (.seq (.rg [p 6 (.mv (.t 0)),
 p 7 (.bin .shl (.k (.int .i64 1)) (.t 6)),
 p 2 (.mv (.t 7))])
 .ret))),
 [.tmp 2]⟩
def F201 : Fnc := ⟨(.seq (.rg [p 2 (.mv (.k (.int .i64 0)))])
 (.seq (.seq (.rg [p 3 (.mv (.t 0)),
 p 4 (.call 183 [(.t 3)]),
 p 5 (.bin .eql (.t 4) (.k (.int .i64 0)))])
 (.cond (.t 5) (.seq (.rg [p 2 (.mv (.k (.int .i64 0)))])
 .ret)
 .skip))
 (.seq (.rg [p 6 (.mv (.t 0)),
 p 7 (.call 183 [(.t 6)]),
 p 8 (.bin .mul (.k (.int .i64 8)) (.t 7)),
 p 9 (.bin .shl (.k (.int .i64 1)) (.t 8)),
 p 2 (.mv (.t 9))])
 .ret))),
 [.tmp 2]⟩
def F205 : Fnc := ⟨(.seq (.rg [p 6 (.mv (.k (.int .i64 0)))])
 (.seq (.rg [p 8 (.mv (.t 1)),
 p 9 (.call 183 [(.t 8)]),
 p 7 (.mv (.t 9))])
 (.seq (.seq (.rg [p 10 (.mv (.t 0)),
 p 11 (.mv (.t 1)),
 p 12 (.call 172 [(.t 10), (.t 11)]),
 p 13 (.not (.t 12)),
 p 14 (.mv (.t 13)),
 ⟨(some 15), .mv (.t 0), (some (14, false)), false⟩,
 ⟨(some 16), .call 230 [(.t 15), (.k (.int .i64 0)), (.k (.int .i64 511))], (some (14, false)), false⟩,
 ⟨(some 17), .not (.t 16), (some (14, false)), false⟩,
 p 18 (.pick (.t 14) (.k (.bool true)) (.t 17)),
 p 19 (.mv (.t 18)),
 ⟨(some 20), .mv (.t 2), (some (19, false)), false⟩,
 ⟨(some 21), .call 173 [(.t 20)], (some (19, false)), false⟩,
 ⟨(some 22), .bin .eql (.t 21) (.k (.int .i64 0)), (some (19, false)), false⟩,
 p 23 (.pick (.t 19) (.k (.bool true)) (.t 22))])
 (.cond (.t 23) (.seq (.rg [p 6 (.mv (.k (.int .i64 (-1))))])
 .ret)
 .skip))
 (.seq (.seq (.rg [p 24 (.mv (.t 2)),
 p 25 (.bin .eql (.t 24) (.k (.int .i64 2))),
 p 26 (.mv (.t 25)),
 ⟨(some 27), .mv (.t 0), (some (26, true)), false⟩,
 ⟨(some 28), .mv (.t 7), (some (26, true)), false⟩,
 ⟨(some 29), .bin .add (.t 27) (.t 28), (some (26, true)), false⟩,
 ⟨(some 30), .mv (.t 7), (some (26, true)), false⟩,
 ⟨(some 31), .bin .mul (.k (.int .i64 4)) (.t 30), (some (26, true)), false⟩,
 ⟨(some 32), .bin .rem (.t 29) (.t 31), (some (26, true)), false⟩,
 ⟨(some 33), .bin .eql (.t 32) (.k (.int .i64 0)), (some (26, true)), false⟩,
 p 34 (.pick (.t 26) (.t 33) (.k (.bool false)))])
 (.cond (.t 34) (.seq (.rg [p 35 (.mv (.t 0)),
 p 36 (.mv (.t 7)),
 p 37 (.bin .add (.t 35) (.t 36)),
 p 38 (.mv (.t 7)),
 p 39 (.bin .mul (.k (.int .i64 4)) (.t 38)),
 p 40 (.bin .sub (.t 37) (.t 39)),
 p 6 (.mv (.t 40))])
 .ret)
 .skip))
 (.seq (.rg [p 41 (.mv (.t 0)),
 p 42 (.mv (.t 7)),
 p 43 (.bin .add (.t 41) (.t 42)),
 p 6 (.mv (.t 43))])
 .ret))))),
 [.tmp 6]⟩
def F207 : Fnc := ⟨(.seq (.rg [p 1 (.box (.t 0)),
 p 2 (.mv (.k (.bool false)))])
 (.seq (.seq (.rg [p 4 (.fa 1 (.t 1)),
 p 5 (.ld (.t 4)),
 p 6 (.fa 2 (.t 1)),
 p 7 (.ld (.t 6)),
 p 8 (.fa 3 (.t 1)),
 p 9 (.ld (.t 8)),
 p 10 (.call 180 [(.t 5), (.t 7), (.t 9)]),
 p 11 (.not (.t 10))])
 (.cond (.t 11) (.seq (.rg [p 2 (.mv (.k (.bool false)))])
 .ret)
 .skip))
 (.seq (.seq (.rg [p 3 (.mv (.k (.int .i64 0)))])
 (.block 0 (.loop (.seq (.seq (.rg [p 12 (.mv (.t 3)),
 p 13 (.fa 5 (.t 1)),
 p 14 (.ld (.t 13)),
 p 15 (.len (.t 14)),
 p 16 (.bin .lss (.t 12) (.t 15))])
 (.cond (.t 16) .skip
 (.exit 0)))
 (.seq (.block 1 (.seq (.rg [⟨(some 19), .fa 5 (.t 1), none, true⟩,
 ⟨(some 20), .ld (.t 19), none, true⟩,
 ⟨(some 21), .mv (.t 3), none, true⟩,
 ⟨(some 22), .ia 1 (.t 20) (.t 21), none, true⟩,
 ⟨(some 23), .ld (.t 22), none, true⟩,
 ⟨(some 24), .fa 2 (.t 1), none, true⟩,
 ⟨(some 25), .ld (.t 24), none, true⟩,
 ⟨(some 26), .call 201 [(.t 25)], none, true⟩,
 ⟨(some 27), .bin .sub (.t 26) (.k (.int .i64 1)), none, true⟩,
 p 28 (.call 230 [(.t 23), (.k (.int .i64 0)), (.t 27)]),
 p 29 (.not (.t 28))])
 (.cond (.t 29) (.seq (.rg [p 2 (.mv (.k (.bool false)))])
 .ret)
 .skip)))
 (.rg [p 17 (.mv (.t 3)),
 p 18 (.bin .add (.t 17) (.k (.int .i64 1))),
 p 3 (.mv (.t 18))]))))))
 (.seq (.rg [p 30 (.fa 5 (.t 1)),
 p 31 (.ld (.t 30)),
 p 32 (.len (.t 31)),
 p 33 (.bin .eql (.t 32) (.k (.int .i64 0))),
 p 34 (.mv (.t 33)),
 ⟨(some 35), .fa 0 (.t 1), (some (34, true)), false⟩,
 ⟨(some 36), .ld (.t 35), (some (34, true)), false⟩,
 ⟨(some 37), .not (.t 36), (some (34, true)), false⟩,
 p 38 (.pick (.t 34) (.t 37) (.k (.bool false))),
 p 39 (.mv (.t 38)),
 ⟨(some 40), .fa 5 (.t 1), (some (39, false)), true⟩,
 ⟨(some 41), .ld (.t 40), (some (39, false)), true⟩,
 ⟨(some 42), .len (.t 41), (some (39, false)), true⟩,
 ⟨(some 43), .fa 3 (.t 1), (some (39, false)), true⟩,
 ⟨(some 44), .ld (.t 43), (some (39, false)), true⟩,
 ⟨(some 45), .call 173 [(.t 44)], (some (39, false)), true⟩,
 ⟨(some 46), .bin .eql (.t 42) (.t 45), (some (39, false)), false⟩,
 ⟨(some 47), .mv (.t 46), (some (39, false)), false⟩,
 ⟨(some 48), .fa 0 (.t 1), (some (47, true)), false⟩,
 ⟨(some 49), .ld (.t 48), (some (47, true)), false⟩,
 ⟨(some 50), .pick (.t 47) (.t 49) (.k (.bool false)), (some (39, false)), false⟩,
 p 51 (.pick (.t 39) (.k (.bool true)) (.t 50)),
 p 2 (.mv (.t 51))])
 .ret)))),
 [.tmp 2]⟩
def F220 : Fnc := ⟨(.seq (.rg [p 1 (.box (.t 0)),
 p 2 (.mv (.k (.int .i64 0)))])
 (.seq (.seq (.rg [p 3 (.fa 0 (.t 1)),
 p 4 (.ld (.t 3)),
 p 5 (.len (.t 4)),
 p 6 (.bin .eql (.t 5) (.k (.int .i64 0)))])
 (.cond (.t 6) (.seq (.rg [p 2 (.mv (.k (.int .i64 0)))])
 .ret)
 .skip))
 (.seq (.rg [p 7 (.fa 0 (.t 1)),
 p 8 (.ld (.t 7)),
 p 9 (.ia 6 (.t 8) (.k (.int .i64 0))),
 p 10 (.fa 3 (.t 9)),
 p 11 (.ld (.t 10)),
 p 12 (.call 173 [(.t 11)]),
 p 2 (.mv (.t 12))])
 .ret))),
 [.tmp 2]⟩
def F221 : Fnc := ⟨(.seq (.rg [p 1 (.box (.t 0)),
 p 2 (.mv (.k (.bool false)))])
 (.seq (.seq (.rg [p 3 (.mv (.k (.int .i64 0)))])
 (.block 0 (.loop (.seq (.seq (.rg [p 4 (.mv (.t 3)),
 p 5 (.fa 0 (.t 1)),
 p 6 (.ld (.t 5)),
 p 7 (.len (.t 6)),
 p 8 (.bin .lss (.t 4) (.t 7))])
 (.cond (.t 8) .skip
 (.exit 0)))
 (.seq (.block 1 (.seq (.rg [p 11 (.fa 0 (.t 1)),
 p 12 (.ld (.t 11)),
 p 13 (.mv (.t 3)),
 p 14 (.ia 6 (.t 12) (.t 13)),
 p 15 (.ldn 6 (.t 14)),
 p 16 (.call 207 [(.t 15)]),
 p 17 (.not (.t 16))])
 (.cond (.t 17) (.seq (.rg [p 2 (.mv (.k (.bool false)))])
 .ret)
 .skip)))
 (.rg [p 9 (.mv (.t 3)),
 p 10 (.bin .add (.t 9) (.k (.int .i64 1))),
 p 3 (.mv (.t 10))]))))))
 (.seq (.seq (.rg [p 18 (.fa 0 (.t 1)),
 p 19 (.ld (.t 18)),
 p 20 (.len (.t 19)),
 p 21 (.bin .gtr (.t 20) (.k (.int .i64 4))),
 p 22 (.mv (.t 21)),
 ⟨(some 23), .fa 3 (.t 1), (some (22, false)), false⟩,
 ⟨(some 24), .ld (.t 23), (some (22, false)), false⟩,
 ⟨(some 25), .bin .lss (.t 24) (.k (.int .i64 0)), (some (22, false)), false⟩,
 p 26 (.pick (.t 22) (.k (.bool true)) (.t 25))])
 (.cond (.t 26) (.seq (.rg [p 2 (.mv (.k (.bool false)))])
 .ret)
 .skip))
 (.seq (.seq (.rg [p 27 (.fa 0 (.t 1)),
 p 28 (.ld (.t 27)),
 p 29 (.len (.t 28)),
 p 30 (.bin .eql (.t 29) (.k (.int .i64 0)))])
 (.cond (.t 30) (.seq (.rg [p 31 (.fa 1 (.t 1)),
 p 32 (.ld (.t 31)),
 p 33 (.bin .eql (.t 32) (.k (.int .i64 0))),
 p 34 (.mv (.t 33)),
 ⟨(some 35), .fa 2 (.t 1), (some (34, true)), false⟩,
 ⟨(some 36), .ld (.t 35), (some (34, true)), false⟩,
 ⟨(some 37), .bin .eql (.t 36) (.k (.int .i64 0)), (some (34, true)), false⟩,
 p 38 (.pick (.t 34) (.t 37) (.k (.bool false))),
 p 39 (.mv (.t 38)),
 ⟨(some 40), .fa 3 (.t 1), (some (39, true)), false⟩,
 ⟨(some 41), .ld (.t 40), (some (39, true)), false⟩,
 ⟨(some 42), .bin .eql (.t 41) (.k (.int .i64 0)), (some (39, true)), false⟩,
 p 43 (.pick (.t 39) (.t 42) (.k (.bool false))),
 p 44 (.mv (.t 43)),
 ⟨(some 45), .fa 4 (.t 1), (some (44, true)), false⟩,
 ⟨(some 46), .ld (.t 45), (some (44, true)), false⟩,
 ⟨(some 47), .not (.t 46), (some (44, true)), false⟩,
 p 48 (.pick (.t 44) (.t 47) (.k (.bool false))),
 p 49 (.mv (.t 48)),
 ⟨(some 50), .fa 5 (.t 1), (some (49, true)), false⟩,
 ⟨(some 51), .ld (.t 50), (some (49, true)), false⟩,
 ⟨(some 52), .not (.t 51), (some (49, true)), false⟩,
 p 53 (.pick (.t 49) (.t 52) (.k (.bool false))),
 p 2 (.mv (.t 53))])
 .ret)
 .skip))
 (.seq (.rg [⟨(some 54), .fa 2 (.t 1), none, true⟩,
 ⟨(some 55), .ld (.t 54), none, true⟩,
 ⟨(some 56), .ldn 6 (.t 1), none, true⟩,
 ⟨(some 57), .call 220 [(.t 56)], none, true⟩,
 ⟨(some 58), .bin .sub (.t 57) (.k (.int .i64 1)), none, true⟩,
 p 59 (.call 230 [(.t 55), (.k (.int .i64 0)), (.t 58)]),
 p 60 (.mv (.t 59)),
 ⟨(some 61), .fa 1 (.t 1), (some (60, true)), true⟩,
 ⟨(some 62), .ld (.t 61), (some (60, true)), true⟩,
 ⟨(some 63), .fa 2 (.t 1), (some (60, true)), true⟩,
 ⟨(some 64), .ld (.t 63), (some (60, true)), true⟩,
 ⟨(some 65), .fa 2 (.t 1), (some (60, true)), true⟩,
 ⟨(some 66), .ld (.t 65), (some (60, true)), true⟩,
 ⟨(some 67), .bin .add (.t 66) (.k (.int .i64 2)), (some (60, true)), true⟩,
 ⟨(some 68), .ldn 6 (.t 1), (some (60, true)), true⟩,
 ⟨(some 69), .call 220 [(.t 68)], (some (60, true)), true⟩,
 ⟨(some 70), .mn [(.t 67), (.t 69)], (some (60, true)), true⟩,
 ⟨(some 71), .call 230 [(.t 62), (.t 64), (.t 70)], (some (60, true)), false⟩,
 p 72 (.pick (.t 60) (.t 71) (.k (.bool false))),
 p 2 (.mv (.t 72))])
 .ret))))),
 [.tmp 2]⟩
def F230 : Fnc := ⟨(.seq (.rg [p 6 (.mv (.k (.bool false)))])
 (.seq (.rg [p 7 (.mv (.t 0)),
 p 8 (.mv (.t 1)),
 p 9 (.bin .geq (.t 7) (.t 8)),
 p 10 (.mv (.t 9)),
 ⟨(some 11), .mv (.t 0), (some (10, true)), false⟩,
 ⟨(some 12), .mv (.t 2), (some (10, true)), false⟩,
 ⟨(some 13), .bin .leq (.t 11) (.t 12), (some (10, true)), false⟩,
 p 14 (.pick (.t 10) (.t 13) (.k (.bool false))),
 p 6 (.mv (.t 14))])
 .ret)),
 [.tmp 6]⟩
def F253 : Fnc := ⟨(.seq (.rg [p 2 (.mv (.k (.slice none 0 0)))])
 (.seq (.seq (.rg [p 3 (.mv (.t 0)),
 p 4 (.eqnil false (.t 3))])
 (.cond (.t 4) (.seq (.rg [p 2 (.mv (.k (.slice none 0 0)))])
 .ret)
 .skip))
 (.seq (.rg [p 5 (.bs 1 0 [.int .i64 0] []),
 p 6 (.mv (.t 0)),
 p 7 (.app 1 8 (.t 5) (.t 6)),
 p 2 (.mv (.t 7))])
 .ret))),
 [.tmp 2]⟩
def F257 : Fnc := ⟨(.seq (.rg [p 4 (.mv (.k (.bool false)))])
 (.seq (.rg [p 5 (.mv (.t 0)),
 p 6 (.mv (.t 1)),
 p 7 (.call 266 [(.t 5), (.t 6)]),
 p 8 (.bin .geq (.t 7) (.k (.int .i64 0))),
 p 4 (.mv (.t 8))])
 .ret)),
 [.tmp 4]⟩
def F260 : Fnc := ⟨(.seq (.rg [p 4 (.mv (.k (.bool false)))])
 (.seq (.rg [p 5 (.mv (.t 0)),
 p 6 (.mv (.t 1)),
 p 7 (.call 271 [(.t 5), (.t 6)]),
 p 8 (.bin .geq (.t 7) (.k (.int .i64 0))),
 p 4 (.mv (.t 8))])
 .ret)),
 [.tmp 4]⟩
def F266 : Fnc := ⟨(.seq (.rg [p 4 (.mv (.k (.int .i64 0)))])
 (.seq (.seq (.rg [p 6 (.mv (.t 0)),
 p 7 (.len (.t 6)),
 p 8 (.mv (.k (.int .i64 0)))])
 (.block 0 (.loop (.seq (.rg [p 9 (.bin .lss (.t 8) (.t 7))])
 (.seq (.cond (.t 9) .skip
 (.exit 0))
 (.seq (.block 1 (.seq (.rg [p 10 (.mv (.t 8)),
 p 5 (.mv (.t 10))])
 (.seq (.rg [p 11 (.mv (.t 1)),
 p 12 (.mv (.t 0)),
 p 13 (.mv (.t 5)),
 p 14 (.ia 1 (.t 12) (.t 13)),
 p 15 (.ld (.t 14)),
 p 16 (.calli (.t 11) [(.t 15)])])
 (.cond (.t 16) (.seq (.rg [p 17 (.mv (.t 5)),
 p 4 (.mv (.t 17))])
 .ret)
 .skip))))
 (.rg [p 18 (.bin .add (.t 8) (.k (.int .i64 1))),
 p 8 (.mv (.t 18))])))))))
 (.seq (.rg [p 4 (.mv (.k (.int .i64 (-1))))])
 .ret))),
 [.tmp 4]⟩
def F271 : Fnc := ⟨(.seq (.rg [p 4 (.mv (.k (.int .i64 0)))])
 (.seq (.seq (.rg [p 6 (.mv (.t 0)),
 p 7 (.len (.t 6)),
 p 8 (.mv (.k (.int .i64 0)))])
 (.block 0 (.loop (.seq (.rg [p 9 (.bin .lss (.t 8) (.t 7))])
 (.seq (.cond (.t 9) .skip
 (.exit 0))
 (.seq (.block 1 (.seq (.rg [p 10 (.mv (.t 8)),
 p 5 (.mv (.t 10))])
 (.seq (.rg [p 11 (.mv (.t 1)),
 p 12 (.mv (.t 0)),
 p 13 (.mv (.t 5)),
 p 14 (.ia 6 (.t 12) (.t 13)),
 p 15 (.ldn 6 (.t 14)),
 p 16 (.calli (.t 11) [(.t 15)])])
 (.cond (.t 16) (.seq (.rg [p 17 (.mv (.t 5)),
 p 4 (.mv (.t 17))])
 .ret)
 .skip))))
 (.rg [p 18 (.bin .add (.t 8) (.k (.int .i64 1))),
 p 8 (.mv (.t 18))])))))))
 (.seq (.rg [p 4 (.mv (.k (.int .i64 (-1))))])
 .ret))),
 [.tmp 4]⟩
def F337 : Fnc := ⟨(.seq (.rg [p 4 (.mv (.k (.int .i64 0)))])
 (.seq (.seq (.rg [p 5 (.mv (.k (.int .i64 0)))])
 (.block 0 (.loop (.seq (.seq (.rg [p 6 (.mv (.t 5)),
 p 7 (.mv (.t 0)),
 p 8 (.len (.t 7)),
 p 9 (.bin .lss (.t 6) (.t 8))])
 (.cond (.t 9) .skip
 (.exit 0)))
 (.seq (.block 1 (.seq (.rg [p 12 (.mv (.t 0)),
 p 13 (.mv (.t 5)),
 p 14 (.mv (.t 1)),
 p 15 (.ia 1 (.t 12) (.t 13)),
 ⟨none, .st (.t 15) (.t 14), none, false⟩])
 (.rg [p 16 (.mv (.t 1)),
 p 17 (.bin .add (.t 16) (.k (.int .i64 1))),
 p 1 (.mv (.t 17))])))
 (.rg [p 10 (.mv (.t 5)),
 p 11 (.bin .add (.t 10) (.k (.int .i64 1))),
 p 5 (.mv (.t 11))]))))))
 (.seq (.rg [p 18 (.mv (.t 1)),
 p 4 (.mv (.t 18))])
 .ret))),
 [.tmp 4]⟩
def F346 : Fnc := ⟨(.seq (.rg [p 1 (.box (.t 0)),
 p 2 (.mv (.k (.bool false)))])
 (.seq (.rg [p 3 (.mv (.k (.int .i64 1048576)))])
 (.seq (.rg [p 14 (.ldn 6 (.t 1)),
 p 15 (.mv (.t 3)),
 p 16 (.call 151 [(.t 14), (.t 15)]),
 p 3 (.mv (.t 16))])
 (.seq (.seq (.rg [p 17 (.mv (.t 3)),
 p 18 (.bin .lss (.t 17) (.k (.int .i64 0)))])
 (.cond (.t 18) (.seq (.rg [p 2 (.mv (.k (.bool true)))])
 .ret)
 .skip))
 (.seq (.rg [p 20 (.ldn 6 (.t 1)),
 p 21 (.call 167 [(.t 20)]),
 p 22 (.call 356 [(.t 21)]),
 p 19 (.mv (.t 22)),
 p 23 (.ext 0 (.t 19)),
 p 24 (.ext 1 (.t 19)),
 p 4 (.new [.slice none 0 0, .int .i64 0, .int .i64 0, .int .i64 0, .bool false, .bool false]),
 ⟨none, .stn 6 (.t 4) (.t 23), none, false⟩,
 p 5 (.mv (.t 24))])
 (.seq (.rg [p 25 (.ldn 6 (.t 1)),
 p 26 (.call 167 [(.t 25)]),
 p 6 (.new [.slice none 0 0, .int .i64 0, .int .i64 0, .int .i64 0, .bool false, .bool false]),
 ⟨none, .stn 6 (.t 6) (.t 26), none, false⟩])
 (.seq (.rg [p 28 (.ldn 6 (.t 6)),
 p 29 (.call 56 [(.t 28)]),
 p 27 (.mv (.t 29)),
 p 30 (.ext 0 (.t 27)),
 p 31 (.ext 1 (.t 27)),
 p 7 (.new [.slice none 0 0, .int .i64 0, .int .i64 0, .int .i64 0, .bool false, .bool false]),
 ⟨none, .stn 6 (.t 7) (.t 30), none, false⟩,
 p 8 (.mv (.t 31))])
 (.seq (.seq (.rg [p 32 (.ldn 6 (.t 7)),
 p 33 (.ldn 6 (.t 4)),
 p 34 (.call 136 [(.t 32), (.t 33)]),
 p 35 (.not (.t 34)),
 p 36 (.mv (.t 35)),
 ⟨(some 37), .mv (.t 8), (some (36, false)), false⟩,
 ⟨(some 38), .mv (.t 5), (some (36, false)), false⟩,
 ⟨(some 39), .eqb true (.t 37) (.t 38), (some (36, false)), false⟩,
 p 40 (.pick (.t 36) (.k (.bool true)) (.t 39))])
 (.cond (.t 40) (.seq (.rg [p 2 (.mv (.k (.bool false)))])
 .ret)
 .skip))
 (.seq (.seq (.rg [⟨(some 41), .ldn 6 (.t 6), none, true⟩,
 ⟨(some 42), .ldn 6 (.t 1), none, true⟩,
 ⟨(some 43), .call 167 [(.t 42)], none, true⟩,
 p 44 (.call 136 [(.t 41), (.t 43)]),
 p 45 (.not (.t 44))])
 (.cond (.t 45) (.seq (.rg [p 2 (.mv (.k (.bool false)))])
 .ret)
 .skip))
 (.seq (.rg [p 9 (.mv (.k (.int .i64 1)))])
 (.seq (.rg [p 46 (.ldn 6 (.t 6)),
 p 47 (.mv (.t 9)),
 p 48 (.call 358 [(.t 46), (.t 47)]),
 p 9 (.mv (.t 48))])
 (.seq (.seq (.rg [p 49 (.mv (.t 9)),
 p 50 (.bin .lss (.t 49) (.k (.int .i64 0))),
 p 51 (.mv (.t 50)),
 ⟨(some 52), .ldn 6 (.t 7), (some (51, false)), false⟩,
 ⟨(some 53), .ldn 6 (.t 4), (some (51, false)), false⟩,
 ⟨(some 54), .call 136 [(.t 52), (.t 53)], (some (51, false)), false⟩,
 ⟨(some 55), .not (.t 54), (some (51, false)), false⟩,
 p 56 (.pick (.t 51) (.k (.bool true)) (.t 55)),
 p 57 (.mv (.t 56)),
 ⟨(some 58), .mv (.t 8), (some (57, false)), false⟩,
 ⟨(some 59), .mv (.t 5), (some (57, false)), false⟩,
 ⟨(some 60), .eqb true (.t 58) (.t 59), (some (57, false)), false⟩,
 p 61 (.pick (.t 57) (.k (.bool true)) (.t 60))])
 (.cond (.t 61) (.seq (.rg [p 2 (.mv (.k (.bool false)))])
 .ret)
 .skip))
 (.seq (.rg [p 10 (.mv (.k (.int .i64 1)))])
 (.seq (.rg [p 62 (.ldn 6 (.t 7)),
 p 63 (.mv (.t 10)),
 p 64 (.call 358 [(.t 62), (.t 63)]),
 p 10 (.mv (.t 64))])
 (.seq (.rg [p 11 (.mv (.k (.int .i64 1)))])
 (.seq (.rg [p 65 (.ldn 6 (.t 7)),
 p 66 (.mv (.t 11)),
 p 67 (.call 359 [(.t 65), (.t 66)]),
 p 11 (.mv (.t 67))])
 (.seq (.seq (.rg [p 68 (.mv (.t 11)),
 p 69 (.bin .lss (.t 68) (.k (.int .i64 0)))])
 (.cond (.t 69) (.seq (.rg [p 2 (.mv (.k (.bool false)))])
 .ret)
 .skip))
 (.seq (.seq (.rg [p 70 (.mv (.t 11)),
 p 71 (.mv (.t 10)),
 p 72 (.bin .neq (.t 70) (.t 71))])
 (.cond (.t 72) (.seq (.rg [p 2 (.mv (.k (.bool false)))])
 .ret)
 .skip))
 (.seq (.rg [p 74 (.ldn 6 (.t 1)),
 p 75 (.call 167 [(.t 74)]),
 p 76 (.call 56 [(.t 75)]),
 p 73 (.mv (.t 76)),
 p 77 (.ext 0 (.t 73)),
 p 78 (.ext 1 (.t 73)),
 p 12 (.new [.slice none 0 0, .int .i64 0, .int .i64 0, .int .i64 0, .bool false, .bool false]),
 ⟨none, .stn 6 (.t 12) (.t 77), none, false⟩,
 p 13 (.mv (.t 78))])
 (.seq (.seq (.rg [p 79 (.ldn 6 (.t 12)),
 p 80 (.ldn 6 (.t 4)),
 p 81 (.call 136 [(.t 79), (.t 80)]),
 p 82 (.not (.t 81)),
 p 83 (.mv (.t 82)),
 ⟨(some 84), .mv (.t 13), (some (83, false)), false⟩,
 ⟨(some 85), .mv (.t 5), (some (83, false)), false⟩,
 ⟨(some 86), .eqb true (.t 84) (.t 85), (some (83, false)), false⟩,
 p 87 (.pick (.t 83) (.k (.bool true)) (.t 86))])
 (.cond (.t 87) (.seq (.rg [p 2 (.mv (.k (.bool false)))])
 .ret)
 .skip))
 (.seq (.rg [p 11 (.mv (.k (.int .i64 1)))])
 (.seq (.rg [p 88 (.ldn 6 (.t 7)),
 p 89 (.mv (.t 11)),
 p 90 (.call 359 [(.t 88), (.t 89)]),
 p 11 (.mv (.t 90))])
 (.seq (.seq (.rg [p 91 (.mv (.t 11)),
 p 92 (.bin .lss (.t 91) (.k (.int .i64 0)))])
 (.cond (.t 92) (.seq (.rg [p 2 (.mv (.k (.bool false)))])
 .ret)
 .skip))
 (.seq (.seq (.rg [p 93 (.mv (.t 11)),
 p 94 (.mv (.t 10)),
 p 95 (.bin .neq (.t 93) (.t 94))])
 (.cond (.t 95) (.seq (.rg [p 2 (.mv (.k (.bool false)))])
 .ret)
 .skip))
 (.seq (.rg [p 2 (.mv (.k (.bool true)))])
 .ret))))))))))))))))))))))))),
 [.tmp 2]⟩
def F356 : Fnc := ⟨(.seq (.rg [p 1 (.box (.t 0)),
 p 2 (.new [.slice none 0 0, .int .i64 0, .int .i64 0, .int .i64 0, .bool false, .bool false]),
 p 3 (.mv (.k (.bool false)))])
 (.seq (.rg [p 5 (.ldn 6 (.t 1)),
 p 6 (.call 373 [(.t 5)]),
 p 4 (.new [.slice none 0 0, .int .i64 0, .int .i64 0, .int .i64 0, .bool false, .bool false]),
 ⟨none, .stn 6 (.t 4) (.t 6), none, false⟩])
 (.seq (.seq (.rg [p 7 (.ldn 6 (.t 1)),
 p 8 (.call 221 [(.t 7)]),
 p 9 (.not (.t 8)),
 p 10 (.mv (.t 9)),
 ⟨(some 11), .fa 1 (.t 1), (some (10, false)), false⟩,
 ⟨(some 12), .ld (.t 11), (some (10, false)), false⟩,
 ⟨(some 13), .fa 2 (.t 1), (some (10, false)), false⟩,
 ⟨(some 14), .ld (.t 13), (some (10, false)), false⟩,
 ⟨(some 15), .bin .eql (.t 12) (.t 14), (some (10, false)), false⟩,
 p 16 (.pick (.t 10) (.k (.bool true)) (.t 15))])
 (.cond (.t 16) (.seq (.rg [p 17 (.ldn 6 (.t 4)),
 ⟨none, .stn 6 (.t 2) (.t 17), none, false⟩,
 p 3 (.mv (.k (.bool false)))])
 .ret)
 .skip))
 (.seq (.rg [p 18 (.fa 2 (.t 4)),
 p 19 (.ld (.t 18)),
 p 20 (.bin .add (.t 19) (.k (.int .i64 1))),
 p 21 (.fa 2 (.t 4)),
 ⟨none, .st (.t 21) (.t 20), none, false⟩])
 (.seq (.rg [p 22 (.fa 3 (.t 4)),
 ⟨none, .st (.t 22) (.k (.int .i64 0)), none, false⟩])
 (.seq (.rg [p 23 (.fa 4 (.t 4)),
 ⟨none, .st (.t 23) (.k (.bool false)), none, false⟩])
 (.seq (.seq (.rg [⟨(some 24), .fa 2 (.t 4), none, true⟩,
 ⟨(some 25), .ld (.t 24), none, true⟩,
 ⟨(some 26), .ldn 6 (.t 1), none, true⟩,
 ⟨(some 27), .call 220 [(.t 26)], none, true⟩,
 p 28 (.bin .eql (.t 25) (.t 27))])
 (.cond (.t 28) (.seq (.rg [p 29 (.fa 0 (.t 4)),
 p 30 (.ld (.t 29)),
 p 31 (.sl 6 (.t 30) (some (.k (.int .i64 1))) none none),
 p 32 (.bd [.slice none 0 0, .int .i64 0, .int .i64 0, .int .i64 0, .bool false, .bool false] [(0, 1, (.t 31))]),
 ⟨none, .stn 6 (.t 2) (.t 32), none, false⟩,
 p 3 (.mv (.k (.bool true)))])
 .ret)
 .skip))
 (.seq (.rg [p 33 (.ldn 6 (.t 4)),
 ⟨none, .stn 6 (.t 2) (.t 33), none, false⟩,
 p 3 (.mv (.k (.bool true)))])
 .ret)))))))),
 [.celln 2 6, .tmp 3]⟩
def F358 : Fnc := ⟨(.seq (.rg [p 2 (.box (.t 0)),
 p 4 (.mv (.k (.int .i64 0)))])
 (.seq (.rg [p 5 (.fa 0 (.t 2)),
 p 6 (.ld (.t 5)),
 p 7 (.mv (.t 1)),
 p 8 (.call 375 [(.t 6), (.t 7)]),
 p 1 (.mv (.t 8))])
 (.seq (.rg [p 9 (.mv (.t 1)),
 p 4 (.mv (.t 9))])
 .ret))),
 [.tmp 4]⟩
def F359 : Fnc := ⟨(.seq (.rg [p 2 (.box (.t 0)),
 p 4 (.mv (.k (.int .i64 0)))])
 (.seq (.rg [p 5 (.fa 0 (.t 2)),
 p 6 (.ld (.t 5)),
 p 7 (.mv (.t 1)),
 p 8 (.call 376 [(.t 6), (.t 7)]),
 p 1 (.mv (.t 8))])
 (.seq (.seq (.rg [p 9 (.mv (.t 1)),
 p 10 (.bin .lss (.t 9) (.k (.int .i64 0)))])
 (.cond (.t 10) (.seq (.rg [p 4 (.mv (.k (.int .i64 (-1))))])
 .ret)
 .skip))
 (.seq (.rg [p 11 (.mv (.t 1)),
 p 4 (.mv (.t 11))])
 .ret)))),
 [.tmp 4]⟩
def F373 : Fnc := ⟨(.seq (.rg [p 1 (.box (.t 0)),
 p 2 (.new [.slice none 0 0, .int .i64 0, .int .i64 0, .int .i64 0, .bool false, .bool false])])
 (.seq (.rg [p 5 (.bs 6 0 [.bool false, .int .i64 0, .int .i64 0, .int .i64 0, .bool false, .slice none 0 0] []),
 p 3 (.mv (.t 5))])
 (.seq (.seq (.rg [p 4 (.mv (.k (.int .i64 0)))])
 (.block 0 (.loop (.seq (.seq (.rg [p 6 (.mv (.t 4)),
 p 7 (.fa 0 (.t 1)),
 p 8 (.ld (.t 7)),
 p 9 (.len (.t 8)),
 p 10 (.bin .lss (.t 6) (.t 9))])
 (.cond (.t 10) .skip
 (.exit 0)))
 (.seq (.block 1 (.rg [p 13 (.mv (.t 3)),
 p 14 (.fa 0 (.t 1)),
 p 15 (.ld (.t 14)),
 p 16 (.mv (.t 4)),
 p 17 (.ia 6 (.t 15) (.t 16)),
 p 18 (.ldn 6 (.t 17)),
 p 19 (.call 374 [(.t 18)]),
 p 20 (.bs 6 1 [.bool false, .int .i64 0, .int .i64 0, .int .i64 0, .bool false, .slice none 0 0] [(0, (.t 19))]),
 p 21 (.app 6 64 (.t 13) (.t 20)),
 p 3 (.mv (.t 21))]))
 (.rg [p 11 (.mv (.t 4)),
 p 12 (.bin .add (.t 11) (.k (.int .i64 1))),
 p 4 (.mv (.t 12))]))))))
 (.seq (.rg [p 22 (.mv (.t 3)),
 p 23 (.fa 0 (.t 1)),
 ⟨none, .st (.t 23) (.t 22), none, false⟩])
 (.seq (.rg [p 24 (.ldn 6 (.t 1)),
 ⟨none, .stn 6 (.t 2) (.t 24), none, false⟩])
 .ret))))),
 [.celln 2 6]⟩
def F374 : Fnc := ⟨(.seq (.rg [p 1 (.box (.t 0)),
 p 2 (.new [.bool false, .int .i64 0, .int .i64 0, .int .i64 0, .bool false, .slice none 0 0])])
 (.seq (.rg [p 3 (.bs 1 0 [.int .i64 0] []),
 p 4 (.fa 5 (.t 1)),
 p 5 (.ld (.t 4)),
 p 6 (.app 1 8 (.t 3) (.t 5)),
 p 7 (.fa 5 (.t 1)),
 ⟨none, .st (.t 7) (.t 6), none, false⟩])
 (.seq (.rg [p 8 (.ldn 6 (.t 1)),
 ⟨none, .stn 6 (.t 2) (.t 8), none, false⟩])
 .ret))),
 [.celln 2 6]⟩
def F375 : Fnc := ⟨(.seq (.rg [p 4 (.mv (.k (.int .i64 0)))])
 (.seq (.seq (.rg [p 5 (.mv (.k (.int .i64 0)))])
 (.block 0 (.loop (.seq (.seq (.rg [p 6 (.mv (.t 5)),
 p 7 (.mv (.t 0)),
 p 8 (.len (.t 7)),
 p 9 (.bin .lss (.t 6) (.t 8))])
 (.cond (.t 9) .skip
 (.exit 0)))
 (.seq (.block 1 (.seq (.rg [p 12 (.mv (.t 0)),
 p 13 (.mv (.t 5)),
 p 14 (.mv (.t 1)),
 p 15 (.bin .rem (.t 14) (.k (.int .i64 3))),
 p 16 (.bin .eql (.t 15) (.k (.int .i64 0))),
 p 17 (.ia 6 (.t 12) (.t 13)),
 p 18 (.fa 0 (.t 17)),
 ⟨none, .st (.t 18) (.t 16), none, false⟩])
 (.seq (.rg [p 19 (.mv (.t 1)),
 p 20 (.bin .add (.t 19) (.k (.int .i64 1))),
 p 1 (.mv (.t 20))])
 (.seq (.rg [p 21 (.mv (.t 0)),
 p 22 (.mv (.t 5)),
 p 23 (.mv (.t 1)),
 p 24 (.ia 6 (.t 21) (.t 22)),
 p 25 (.fa 1 (.t 24)),
 ⟨none, .st (.t 25) (.t 23), none, false⟩])
 (.seq (.rg [p 26 (.mv (.t 1)),
 p 27 (.bin .add (.t 26) (.k (.int .i64 1))),
 p 1 (.mv (.t 27))])
 (.seq (.rg [p 28 (.mv (.t 0)),
 p 29 (.mv (.t 5)),
 p 30 (.mv (.t 1)),
 p 31 (.ia 6 (.t 28) (.t 29)),
 p 32 (.fa 2 (.t 31)),
 ⟨none, .st (.t 32) (.t 30), none, false⟩])
 (.seq (.rg [p 33 (.mv (.t 1)),
 p 34 (.bin .add (.t 33) (.k (.int .i64 1))),
 p 1 (.mv (.t 34))])
 (.seq (.rg [p 35 (.mv (.t 0)),
 p 36 (.mv (.t 5)),
 p 37 (.mv (.t 1)),
 p 38 (.ia 6 (.t 35) (.t 36)),
 p 39 (.fa 3 (.t 38)),
 ⟨none, .st (.t 39) (.t 37), none, false⟩])
 (.seq (.rg [p 40 (.mv (.t 1)),
 p 41 (.bin .add (.t 40) (.k (.int .i64 1))),
 p 1 (.mv (.t 41))])
 (.seq (.rg [p 42 (.mv (.t 0)),
 p 43 (.mv (.t 5)),
 p 44 (.mv (.t 1)),
 p 45 (.bin .rem (.t 44) (.k (.int .i64 3))),
 p 46 (.bin .eql (.t 45) (.k (.int .i64 0))),
 p 47 (.ia 6 (.t 42) (.t 43)),
 p 48 (.fa 4 (.t 47)),
 ⟨none, .st (.t 48) (.t 46), none, false⟩])
 (.seq (.rg [p 49 (.mv (.t 1)),
 p 50 (.bin .add (.t 49) (.k (.int .i64 1))),
 p 1 (.mv (.t 50))])
 (.rg [p 51 (.mv (.t 0)),
 p 52 (.mv (.t 5)),
 p 53 (.ia 6 (.t 51) (.t 52)),
 p 54 (.fa 5 (.t 53)),
 p 55 (.ld (.t 54)),
 p 56 (.mv (.t 1)),
 p 57 (.call 337 [(.t 55), (.t 56)]),
 p 1 (.mv (.t 57))]))))))))))))
 (.rg [p 10 (.mv (.t 5)),
 p 11 (.bin .add (.t 10) (.k (.int .i64 1))),
 p 5 (.mv (.t 11))]))))))
 (.seq (.rg [p 58 (.mv (.t 1)),
 p 4 (.mv (.t 58))])
 .ret))),
 [.tmp 4]⟩
def F376 : Fnc := ⟨(.seq (.rg [p 4 (.mv (.k (.int .i64 0)))])
 (.seq (.seq (.rg [p 5 (.mv (.k (.int .i64 0)))])
 (.block 0 (.loop (.seq (.seq (.rg [p 6 (.mv (.t 5)),
 p 7 (.mv (.t 0)),
 p 8 (.len (.t 7)),
 p 9 (.bin .lss (.t 6) (.t 8))])
 (.cond (.t 9) .skip
 (.exit 0)))
 (.seq (.block 1 (.seq (.seq (.rg [p 12 (.mv (.t 0)),
 p 13 (.mv (.t 5)),
 p 14 (.ia 6 (.t 12) (.t 13)),
 p 15 (.fa 0 (.t 14)),
 p 16 (.ld (.t 15)),
 p 17 (.mv (.t 1)),
 p 18 (.bin .rem (.t 17) (.k (.int .i64 3))),
 p 19 (.bin .eql (.t 18) (.k (.int .i64 0))),
 p 20 (.eqb true (.t 16) (.t 19))])
 (.cond (.t 20) (.seq (.rg [p 4 (.mv (.k (.int .i64 (-1))))])
 .ret)
 .skip))
 (.seq (.rg [p 21 (.mv (.t 1)),
 p 22 (.bin .add (.t 21) (.k (.int .i64 1))),
 p 1 (.mv (.t 22))])
 (.seq (.seq (.rg [p 23 (.mv (.t 0)),
 p 24 (.mv (.t 5)),
 p 25 (.ia 6 (.t 23) (.t 24)),
 p 26 (.fa 1 (.t 25)),
 p 27 (.ld (.t 26)),
 p 28 (.mv (.t 1)),
 p 29 (.bin .neq (.t 27) (.t 28))])
 (.cond (.t 29) (.seq (.rg [p 4 (.mv (.k (.int .i64 (-1))))])
 .ret)
 .skip))
 (.seq (.rg [p 30 (.mv (.t 1)),
 p 31 (.bin .add (.t 30) (.k (.int .i64 1))),
 p 1 (.mv (.t 31))])
 (.seq (.seq (.rg [p 32 (.mv (.t 0)),
 p 33 (.mv (.t 5)),
 p 34 (.ia 6 (.t 32) (.t 33)),
 p 35 (.fa 2 (.t 34)),
 p 36 (.ld (.t 35)),
 p 37 (.mv (.t 1)),
 p 38 (.bin .neq (.t 36) (.t 37))])
 (.cond (.t 38) (.seq (.rg [p 4 (.mv (.k (.int .i64 (-1))))])
 .ret)
 .skip))
 (.seq (.rg [p 39 (.mv (.t 1)),
 p 40 (.bin .add (.t 39) (.k (.int .i64 1))),
 p 1 (.mv (.t 40))])
 (.seq (.seq (.rg [p 41 (.mv (.t 0)),
 p 42 (.mv (.t 5)),
 p 43 (.ia 6 (.t 41) (.t 42)),
 p 44 (.fa 3 (.t 43)),
 p 45 (.ld (.t 44)),
 p 46 (.mv (.t 1)),
 p 47 (.bin .neq (.t 45) (.t 46))])
 (.cond (.t 47) (.seq (.rg [p 4 (.mv (.k (.int .i64 (-1))))])
 .ret)
 .skip))
 (.seq (.rg [p 48 (.mv (.t 1)),
 p 49 (.bin .add (.t 48) (.k (.int .i64 1))),
 p 1 (.mv (.t 49))])
 (.seq (.seq (.rg [p 50 (.mv (.t 0)),
 p 51 (.mv (.t 5)),
 p 52 (.ia 6 (.t 50) (.t 51)),
 p 53 (.fa 4 (.t 52)),
 p 54 (.ld (.t 53)),
 p 55 (.mv (.t 1)),
 p 56 (.bin .rem (.t 55) (.k (.int .i64 3))),
 p 57 (.bin .eql (.t 56) (.k (.int .i64 0))),
 p 58 (.eqb true (.t 54) (.t 57))])
 (.cond (.t 58) (.seq (.rg [p 4 (.mv (.k (.int .i64 (-1))))])
 .ret)
 .skip))
 (.seq (.rg [p 59 (.mv (.t 1)),
 p 60 (.bin .add (.t 59) (.k (.int .i64 1))),
 p 1 (.mv (.t 60))])
 (.seq (.rg [p 61 (.mv (.t 0)),
 p 62 (.mv (.t 5)),
 p 63 (.ia 6 (.t 61) (.t 62)),
 p 64 (.fa 5 (.t 63)),
 p 65 (.ld (.t 64)),
 p 66 (.mv (.t 1)),
 p 67 (.call 380 [(.t 65), (.t 66)]),
 p 1 (.mv (.t 67))])
 (.seq (.rg [p 68 (.mv (.t 1)),
 p 69 (.bin .lss (.t 68) (.k (.int .i64 0)))])
 (.cond (.t 69) (.seq (.rg [p 4 (.mv (.k (.int .i64 (-1))))])
 .ret)
 .skip))))))))))))))
 (.rg [p 10 (.mv (.t 5)),
 p 11 (.bin .add (.t 10) (.k (.int .i64 1))),
 p 5 (.mv (.t 11))]))))))
 (.seq (.rg [p 70 (.mv (.t 1)),
 p 4 (.mv (.t 70))])
 .ret))),
 [.tmp 4]⟩
def F380 : Fnc := ⟨(.seq (.rg [p 4 (.mv (.k (.int .i64 0)))])
 (.seq (.seq (.rg [p 5 (.mv (.k (.int .i64 0)))])
 (.block 0 (.loop (.seq (.seq (.rg [p 6 (.mv (.t 5)),
 p 7 (.mv (.t 0)),
 p 8 (.len (.t 7)),
 p 9 (.bin .lss (.t 6) (.t 8))])
 (.cond (.t 9) .skip
 (.exit 0)))
 (.seq (.block 1 (.seq (.seq (.rg [p 12 (.mv (.t 0)),
 p 13 (.mv (.t 5)),
 p 14 (.ia 1 (.t 12) (.t 13)),
 p 15 (.ld (.t 14)),
 p 16 (.mv (.t 1)),
 p 17 (.bin .neq (.t 15) (.t 16))])
 (.cond (.t 17) (.seq (.rg [p 4 (.mv (.k (.int .i64 (-1))))])
 .ret)
 .skip))
 (.rg [p 18 (.mv (.t 1)),
 p 19 (.bin .add (.t 18) (.k (.int .i64 1))),
 p 1 (.mv (.t 19))])))
 (.rg [p 10 (.mv (.t 5)),
 p 11 (.bin .add (.t 10) (.k (.int .i64 1))),
 p 5 (.mv (.t 11))]))))))
 (.seq (.rg [p 20 (.mv (.t 1)),
 p 4 (.mv (.t 20))])
 .ret))),
 [.tmp 4]⟩
end Go.Proofs.Ytdialnejieoelaa.AL
