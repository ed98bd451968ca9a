/- Functions in the small language, printed by program. -/
import Derived.Test.YtoppcdecolponaaGreatDoorAlS3
import Derived.KernelRfl
import Derived.Test.YtoppcdecolponaaGreatDoorWa4
namespace Go.Proofs.YtoppcdecolponaaGreatDoor.AL
open Go
def F21 : Fnc := ⟨(.seq (.rg [p 4 (.mv (.k (.bool false)))])
 (.seq (.rg [p 5 (.mv (.t 1)),
 p 6 (.call 103 [(.t 5), (.k (.int .i64 0)), (.k (.int .i64 2))]),
 p 7 (.mv (.t 6)),
 ⟨(some 8), .mv (.t 0), (some (7, true)), false⟩,
 ⟨(some 9), .bin .geq (.t 8) (.k (.int .i64 0)), (some (7, true)), false⟩,
 p 10 (.pick (.t 7) (.t 9) (.k (.bool false))),
 p 11 (.mv (.t 10)),
 ⟨(some 12), .mv (.t 0), (some (11, true)), false⟩,
 ⟨(some 13), .mv (.t 1), (some (11, true)), false⟩,
 ⟨(some 14), .call 33 [(.t 13)], (some (11, true)), false⟩,
 ⟨(some 15), .bin .rem (.t 12) (.t 14), (some (11, true)), false⟩,
 ⟨(some 16), .bin .eql (.t 15) (.k (.int .i64 0)), (some (11, true)), false⟩,
 p 17 (.pick (.t 11) (.t 16) (.k (.bool false))),
 p 4 (.mv (.t 17))])
 .ret)),
 [.tmp 4]⟩
def F22 : Fnc := ⟨(.seq (.rg [p 2 (.mv (.k (.int .i64 0)))])
 (.seq (.seq (.rg [p 3 (.mv (.t 0)),
 p 4 (.call 103 [(.t 3), (.k (.int .i64 0)), (.k (.int .i64 3))]),
 p 5 (.not (.t 4))])
 (.cond (.t 5) (.seq (.rg [p 2 (.mv (.k (.int .i64 0)))])
 .ret)
 .skip))
 (.seq (.rg [p 6 (.bs 1 4 [.int .i64 0] [(0, (.k (.int .i64 1))), (1, (.k (.int .i64 4))), (2, (.k (.int .i64 4))), (3, (.k (.int .i64 8)))]),
 p 7 (.mv (.t 0)),
 p 8 (.ia 1 (.t 6) (.t 7)),
 p 9 (.ld (.t 8)),
 p 2 (.mv (.t 9))])
 .ret))),
 [.tmp 2]⟩
def F29 : Fnc := ⟨(.seq (.rg [p 6 (.mv (.k (.slice none 0 0)))])
 (.seq (.rg [p 9 (.bs 1 0 [.int .i64 0] []),
 p 7 (.mv (.t 9))])
 (.seq (.seq (.rg [p 10 (.mv (.t 2)),
 p 11 (.call 22 [(.t 10)]),
 p 12 (.mv (.k (.int .i64 0)))])
 (.block 0 (.loop (.seq (.rg [p 13 (.bin .lss (.t 12) (.t 11))])
 (.seq (.cond (.t 13) .skip
 (.exit 0))
 (.seq (.block 1 (.seq (.rg [p 14 (.mv (.t 0)),
 p 15 (.mv (.t 1)),
 p 16 (.mv (.t 2)),
 p 17 (.call 60 [(.t 14), (.t 15), (.t 16)]),
 p 8 (.mv (.t 17))])
 (.seq (.seq (.rg [p 18 (.mv (.t 8)),
 p 19 (.bin .lss (.t 18) (.k (.int .i64 0)))])
 (.cond (.t 19) (.seq (.rg [p 6 (.mv (.k (.slice none 0 0)))])
 .ret)
 .skip))
 (.seq (.rg [p 20 (.mv (.t 7)),
 p 21 (.mv (.t 0)),
 p 22 (.bs 1 1 [.int .i64 0] [(0, (.t 21))]),
 p 23 (.app 1 8 (.t 20) (.t 22)),
 p 7 (.mv (.t 23))])
 (.rg [p 24 (.mv (.t 8)),
 p 0 (.mv (.t 24))])))))
 (.rg [p 25 (.bin .add (.t 12) (.k (.int .i64 1))),
 p 12 (.mv (.t 25))])))))))
 (.seq (.rg [p 26 (.mv (.t 7)),
 p 6 (.mv (.t 26))])
 .ret)))),
 [.tmp 6]⟩
def F30 : Fnc := ⟨(.seq (.rg [p 6 (.mv (.k (.bool false)))])
 (.seq (.rg [p 10 (.mv (.t 0)),
 p 11 (.mv (.t 1)),
 p 12 (.mv (.t 2)),
 p 13 (.call 29 [(.t 10), (.t 11), (.t 12)]),
 p 7 (.mv (.t 13))])
 (.seq (.seq (.rg [p 14 (.mv (.t 7)),
 p 15 (.len (.t 14)),
 p 16 (.mv (.k (.int .i64 0)))])
 (.block 0 (.loop (.seq (.rg [p 17 (.bin .lss (.t 16) (.t 15))])
 (.seq (.cond (.t 17) .skip
 (.exit 0))
 (.seq (.block 1 (.seq (.rg [p 18 (.ia 1 (.t 14) (.t 16)),
 p 19 (.ld (.t 18)),
 p 9 (.mv (.t 19))])
 (.seq (.rg [p 20 (.mv (.t 9)),
 p 21 (.bin .quo (.t 20) (.k (.int .i64 64))),
 p 22 (.mv (.t 7)),
 p 23 (.ia 1 (.t 22) (.k (.int .i64 0))),
 p 24 (.ld (.t 23)),
 p 25 (.bin .quo (.t 24) (.k (.int .i64 64))),
 p 26 (.bin .neq (.t 21) (.t 25))])
 (.cond (.t 26) (.seq (.rg [p 6 (.mv (.k (.bool false)))])
 .ret)
 .skip))))
 (.rg [p 27 (.bin .add (.t 16) (.k (.int .i64 1))),
 p 16 (.mv (.t 27))])))))))
 (.seq (.rg [p 28 (.mv (.t 7)),
 p 29 (.len (.t 28)),
 p 30 (.bin .gtr (.t 29) (.k (.int .i64 0))),
 p 6 (.mv (.t 30))])
 .ret)))),
 [.tmp 6]⟩
def F33 : Fnc := ⟨(.seq (.rg [p 2 (.mv (.k (.int .i64 0)))])
 (.seq (.seq (.rg [p 3 (.mv (.t 0)),
 p 4 (.call 103 [(.t 3), (.k (.int .i64 0)), (.k (.int .i64 2))]),
 p 5 (.not (.t 4))])
 (.cond (.t 5) (.seq (.rg [p 2 (.mv (.k (.int .i64 0)))])
 .ret)
 .skip))
 (.seq (.rg [p 6 (.mv (.t 0)),
 p 7 (.bin .shl (.k (.int .i64 1)) (.t 6)),
 p 2 (.mv (.t 7))])
 .ret))),
 [.tmp 2]⟩
def F38 : Fnc := ⟨(.seq (.rg [p 2 (.mv (.k (.string ⟨#[]⟩)))])
 (.seq (.rg [p 3 (.mv (.t 0)),
 p 4 (.call 272 [(.t 3)]),
 p 2 (.mv (.t 4))])
 .ret)),
 [.tmp 2]⟩
def F51 : Fnc := ⟨(.seq (.rg [p 2 (.mv (.k (.int .i64 0)))])
 (.seq (.seq (.rg [p 3 (.mv (.t 0)),
 p 4 (.call 33 [(.t 3)]),
 p 5 (.bin .eql (.t 4) (.k (.int .i64 0)))])
 (.cond (.t 5) (.seq (.rg [p 2 (.mv (.k (.int .i64 0)))])
 .ret)
 .skip))
 (.seq (.rg [p 6 (.mv (.t 0)),
 p 7 (.call 33 [(.t 6)]),
 p 8 (.bin .mul (.k (.int .i64 8)) (.t 7)),
 p 9 (.bin .shl (.k (.int .i64 1)) (.t 8)),
 p 2 (.mv (.t 9))])
 .ret))),
 [.tmp 2]⟩
def F60 : Fnc := ⟨(.seq (.rg [p 6 (.mv (.k (.int .i64 0)))])
 (.seq (.seq (.rg [p 9 (.mv (.t 0)),
 p 10 (.mv (.t 1)),
 p 11 (.call 21 [(.t 9), (.t 10)]),
 p 12 (.not (.t 11)),
 p 13 (.mv (.t 12)),
 ⟨(some 14), .mv (.t 0), (some (13, false)), false⟩,
 ⟨(some 15), .bin .geq (.t 14) (.k (.int .i64 512)), (some (13, false)), false⟩,
 p 16 (.pick (.t 13) (.k (.bool true)) (.t 15)),
 p 17 (.mv (.t 16)),
 ⟨(some 18), .mv (.t 2), (some (17, false)), false⟩,
 ⟨(some 19), .call 22 [(.t 18)], (some (17, false)), false⟩,
 ⟨(some 20), .bin .eql (.t 19) (.k (.int .i64 0)), (some (17, false)), false⟩,
 p 21 (.pick (.t 17) (.k (.bool true)) (.t 20))])
 (.cond (.t 21) (.seq (.rg [p 6 (.mv (.k (.int .i64 (-1))))])
 .ret)
 .skip))
 (.seq (.rg [p 22 (.mv (.t 0)),
 p 23 (.mv (.t 1)),
 p 24 (.call 33 [(.t 23)]),
 p 25 (.bin .add (.t 22) (.t 24)),
 p 26 (.mv (.t 1)),
 p 27 (.call 33 [(.t 26)]),
 p 28 (.bin .mul (.k (.int .i64 4)) (.t 27)),
 p 7 (.mv (.t 25)),
 p 8 (.mv (.t 28))])
 (.seq (.seq (.rg [p 29 (.mv (.t 2)),
 p 30 (.bin .eql (.t 29) (.k (.int .i64 2))),
 p 31 (.mv (.t 30)),
 ⟨(some 32), .mv (.t 7), (some (31, true)), false⟩,
 ⟨(some 33), .mv (.t 8), (some (31, true)), false⟩,
 ⟨(some 34), .bin .rem (.t 32) (.t 33), (some (31, true)), false⟩,
 ⟨(some 35), .bin .eql (.t 34) (.k (.int .i64 0)), (some (31, true)), false⟩,
 p 36 (.pick (.t 31) (.t 35) (.k (.bool false)))])
 (.cond (.t 36) (.rg [p 37 (.mv (.t 7)),
 p 38 (.mv (.t 8)),
 p 39 (.bin .sub (.t 37) (.t 38)),
 p 7 (.mv (.t 39))])
 .skip))
 (.seq (.rg [p 40 (.mv (.t 7)),
 p 6 (.mv (.t 40))])
 .ret))))),
 [.tmp 6]⟩
def F66 : Fnc := ⟨(.seq (.rg [p 1 (.box (.t 0)),
 p 2 (.mv (.k (.bool false)))])
 (.seq (.rg [p 3 (.mv (.k (.int .i64 0)))])
 (.seq (.seq (.rg [p 4 (.fa 0 (.t 1)),
 p 5 (.ld (.t 4))])
 (.cond (.t 5) (.rg [p 6 (.fa 3 (.t 1)),
 p 7 (.ld (.t 6)),
 p 8 (.call 22 [(.t 7)]),
 p 3 (.mv (.t 8))])
 .skip))
 (.seq (.rg [p 9 (.fa 1 (.t 1)),
 p 10 (.ld (.t 9)),
 p 11 (.fa 2 (.t 1)),
 p 12 (.ld (.t 11)),
 p 13 (.fa 3 (.t 1)),
 p 14 (.ld (.t 13)),
 p 15 (.call 30 [(.t 10), (.t 12), (.t 14)]),
 p 16 (.mv (.t 15)),
 ⟨(some 17), .fa 5 (.t 1), (some (16, true)), false⟩,
 ⟨(some 18), .ld (.t 17), (some (16, true)), false⟩,
 ⟨(some 19), .len (.t 18), (some (16, true)), false⟩,
 ⟨(some 20), .mv (.t 3), (some (16, true)), false⟩,
 ⟨(some 21), .bin .eql (.t 19) (.t 20), (some (16, true)), false⟩,
 p 22 (.pick (.t 16) (.t 21) (.k (.bool false))),
 p 23 (.mv (.t 22)),
 ⟨(some 24), .fa 5 (.t 1), (some (23, true)), false⟩,
 ⟨(some 25), .ld (.t 24), (some (23, true)), false⟩,
 ⟨(some 26), .fn 67 [(.t 1)], (some (23, true)), false⟩,
 ⟨(some 27), .call 257 [(.t 25), (.t 26)], (some (23, true)), false⟩,
 ⟨(some 28), .not (.t 27), (some (23, true)), false⟩,
 p 29 (.pick (.t 23) (.t 28) (.k (.bool false))),
 p 2 (.mv (.t 29))])
 .ret)))),
 [.tmp 2]⟩
def F67 : Fnc := ⟨(.seq (.rg [p 3 (.mv (.k (.bool false)))])
 (.seq (.rg [p 4 (.mv (.t 0)),
 p 5 (.fa 2 (.t 1)),
 p 6 (.ld (.t 5)),
 p 7 (.call 92 [(.t 4), (.t 6)]),
 p 8 (.not (.t 7)),
 p 3 (.mv (.t 8))])
 .ret)),
 [.tmp 3]⟩
def F84 : Fnc := ⟨(.seq (.rg [p 2 (.mv (.k (.slice none 0 0)))])
 (.seq (.rg [p 6 (.bs 1 0 [.string ⟨#[]⟩] []),
 p 3 (.mv (.t 6))])
 (.seq (.seq (.rg [p 7 (.mv (.t 0)),
 p 8 (.len (.t 7)),
 p 9 (.mv (.k (.int .i64 0)))])
 (.block 0 (.loop (.seq (.rg [p 10 (.bin .lss (.t 9) (.t 8))])
 (.seq (.cond (.t 10) .skip
 (.exit 0))
 (.seq (.block 1 (.seq (.rg [p 11 (.ia 1 (.t 7) (.t 9)),
 p 12 (.ld (.t 11)),
 p 5 (.mv (.t 12))])
 (.rg [p 13 (.mv (.t 3)),
 p 14 (.mv (.t 5)),
 p 15 (.call 38 [(.t 14)]),
 p 16 (.bs 1 1 [.string ⟨#[]⟩] [(0, (.t 15))]),
 p 17 (.app 1 16 (.t 13) (.t 16)),
 p 3 (.mv (.t 17))])))
 (.rg [p 18 (.bin .add (.t 9) (.k (.int .i64 1))),
 p 9 (.mv (.t 18))])))))))
 (.seq (.rg [p 19 (.mv (.t 3)),
 p 2 (.mv (.t 19))])
 .ret)))),
 [.tmp 2]⟩
def F92 : Fnc := ⟨(.seq (.rg [p 4 (.mv (.k (.bool false)))])
 (.seq (.rg [p 5 (.mv (.t 0)),
 p 6 (.mv (.t 1)),
 p 7 (.call 51 [(.t 6)]),
 p 8 (.bin .sub (.t 7) (.k (.int .i64 1))),
 p 9 (.call 103 [(.t 5), (.k (.int .i64 0)), (.t 8)]),
 p 4 (.mv (.t 9))])
 .ret)),
 [.tmp 4]⟩
def F103 : Fnc := ⟨(.seq (.rg [p 6 (.mv (.k (.bool false)))])
 (.seq (.rg [p 7 (.mv (.t 1)),
 p 8 (.mv (.t 0)),
 p 9 (.bin .leq (.t 7) (.t 8)),
 p 10 (.mv (.t 9)),
 ⟨(some 11), .mv (.t 0), (some (10, true)), false⟩,
 ⟨(some 12), .mv (.t 2), (some (10, true)), false⟩,
 ⟨(some 13), .bin .leq (.t 11) (.t 12), (some (10, true)), false⟩,
 p 14 (.pick (.t 10) (.t 13) (.k (.bool false))),
 p 6 (.mv (.t 14))])
 .ret)),
 [.tmp 6]⟩
def F132 : Fnc := ⟨(.seq (.rg [p 4 (.mv (.k (.bool false)))])
 (.seq (.seq (.rg [p 6 (.mv (.t 0)),
 p 7 (.len (.t 6)),
 p 8 (.mv (.t 1)),
 p 9 (.len (.t 8)),
 p 10 (.bin .neq (.t 7) (.t 9))])
 (.cond (.t 10) (.seq (.rg [p 4 (.mv (.k (.bool false)))])
 .ret)
 .skip))
 (.seq (.seq (.rg [p 5 (.mv (.k (.int .i64 0)))])
 (.block 0 (.loop (.seq (.seq (.rg [p 11 (.mv (.t 5)),
 p 12 (.mv (.t 0)),
 p 13 (.len (.t 12)),
 p 14 (.bin .lss (.t 11) (.t 13))])
 (.cond (.t 14) .skip
 (.exit 0)))
 (.seq (.block 1 (.seq (.rg [⟨(some 17), .mv (.t 0), none, true⟩,
 ⟨(some 18), .mv (.t 5), none, true⟩,
 ⟨(some 19), .ia 1 (.t 17) (.t 18), none, true⟩,
 ⟨(some 20), .ld (.t 19), none, true⟩,
 ⟨(some 21), .mv (.t 1), none, true⟩,
 ⟨(some 22), .mv (.t 5), none, true⟩,
 ⟨(some 23), .ia 1 (.t 21) (.t 22), none, true⟩,
 ⟨(some 24), .ld (.t 23), none, true⟩,
 p 25 (.bin .neq (.t 20) (.t 24))])
 (.cond (.t 25) (.seq (.rg [p 4 (.mv (.k (.bool false)))])
 .ret)
 .skip)))
 (.rg [p 15 (.mv (.t 5)),
 p 16 (.bin .add (.t 15) (.k (.int .i64 1))),
 p 5 (.mv (.t 16))]))))))
 (.seq (.rg [p 4 (.mv (.k (.bool true)))])
 .ret)))),
 [.tmp 4]⟩
def F138 : Fnc := ⟨(.seq (.rg [p 2 (.box (.t 0)),
 p 3 (.box (.t 1)),
 p 4 (.mv (.k (.bool false)))])
 (.seq (.seq (.rg [p 5 (.fa 0 (.t 2)),
 p 6 (.ld (.t 5)),
 p 7 (.fa 0 (.t 3)),
 p 8 (.ld (.t 7)),
 p 9 (.eqb true (.t 6) (.t 8))])
 (.cond (.t 9) (.seq (.rg [p 4 (.mv (.k (.bool false)))])
 .ret)
 .skip))
 (.seq (.seq (.rg [p 10 (.fa 1 (.t 2)),
 p 11 (.ld (.t 10)),
 p 12 (.fa 1 (.t 3)),
 p 13 (.ld (.t 12)),
 p 14 (.bin .neq (.t 11) (.t 13))])
 (.cond (.t 14) (.seq (.rg [p 4 (.mv (.k (.bool false)))])
 .ret)
 .skip))
 (.seq (.seq (.rg [p 15 (.fa 2 (.t 2)),
 p 16 (.ld (.t 15)),
 p 17 (.fa 2 (.t 3)),
 p 18 (.ld (.t 17)),
 p 19 (.bin .neq (.t 16) (.t 18))])
 (.cond (.t 19) (.seq (.rg [p 4 (.mv (.k (.bool false)))])
 .ret)
 .skip))
 (.seq (.seq (.rg [p 20 (.fa 3 (.t 2)),
 p 21 (.ld (.t 20)),
 p 22 (.fa 3 (.t 3)),
 p 23 (.ld (.t 22)),
 p 24 (.bin .neq (.t 21) (.t 23))])
 (.cond (.t 24) (.seq (.rg [p 4 (.mv (.k (.bool false)))])
 .ret)
 .skip))
 (.seq (.seq (.rg [p 25 (.fa 4 (.t 2)),
 p 26 (.ld (.t 25)),
 p 27 (.fa 4 (.t 3)),
 p 28 (.ld (.t 27)),
 p 29 (.eqb true (.t 26) (.t 28))])
 (.cond (.t 29) (.seq (.rg [p 4 (.mv (.k (.bool false)))])
 .ret)
 .skip))
 (.seq (.seq (.rg [p 30 (.fa 5 (.t 2)),
 p 31 (.ld (.t 30)),
 p 32 (.fa 5 (.t 3)),
 p 33 (.ld (.t 32)),
 p 34 (.call 132 [(.t 31), (.t 33)]),
 p 35 (.not (.t 34))])
 (.cond (.t 35) (.seq (.rg [p 4 (.mv (.k (.bool false)))])
 .ret)
 .skip))
 (.seq (.rg [p 4 (.mv (.k (.bool true)))])
 .ret)))))))),
 [.tmp 4]⟩
def F172 : Fnc := ⟨(.seq (.rg [p 4 (.mv (.k (.bool false)))])
 (.seq (.rg [p 5 (.mv (.t 1)),
 p 6 (.call 183 [(.t 5)]),
 p 7 (.bin .gtr (.t 6) (.k (.int .i64 0))),
 p 8 (.mv (.t 7)),
 ⟨(some 9), .mv (.t 0), (some (8, true)), false⟩,
 ⟨(some 10), .bin .geq (.t 9) (.k (.int .i64 0)), (some (8, true)), false⟩,
 p 11 (.pick (.t 8) (.t 10) (.k (.bool false))),
 p 12 (.mv (.t 11)),
 ⟨(some 13), .mv (.t 0), (some (12, true)), false⟩,
 ⟨(some 14), .mv (.t 1), (some (12, true)), false⟩,
 ⟨(some 15), .call 183 [(.t 14)], (some (12, true)), false⟩,
 ⟨(some 16), .bin .rem (.t 13) (.t 15), (some (12, true)), false⟩,
 ⟨(some 17), .bin .eql (.t 16) (.k (.int .i64 0)), (some (12, true)), false⟩,
 p 18 (.pick (.t 12) (.t 17) (.k (.bool false))),
 p 4 (.mv (.t 18))])
 .ret)),
 [.tmp 4]⟩
def F173 : Fnc := ⟨(.seq (.rg [p 2 (.mv (.k (.int .i64 0)))])
 (.seq (.seq (.rg [p 3 (.mv (.t 0)),
 p 4 (.call 230 [(.t 3), (.k (.int .i64 0)), (.k (.int .i64 3))]),
 p 5 (.not (.t 4))])
 (.cond (.t 5) (.seq (.rg [p 2 (.mv (.k (.int .i64 0)))])
 .ret)
 .skip))
 (.seq (.rg [p 6 (.bs 1 4 [.int .i64 0] [(0, (.k (.int .i64 1))), (1, (.k (.int .i64 4))), (2, (.k (.int .i64 4))), (3, (.k (.int .i64 8)))]),
 p 7 (.mv (.t 0)),
 p 8 (.ia 1 (.t 6) (.t 7)),
 p 9 (.ld (.t 8)),
 p 2 (.mv (.t 9))])
 .ret))),
 [.tmp 2]⟩
def F179 : Fnc := ⟨(.seq (.rg [p 6 (.mv (.k (.slice none 0 0)))])
 (.seq (.rg [p 8 (.bs 1 0 [.int .i64 0] []),
 p 7 (.mv (.t 8))])
 (.seq (.block 0 (.loop (.seq (.seq (.rg [p 9 (.mv (.t 7)),
 p 10 (.len (.t 9)),
 p 11 (.mv (.t 2)),
 p 12 (.call 173 [(.t 11)]),
 p 13 (.bin .lss (.t 10) (.t 12)),
 p 14 (.mv (.t 13)),
 ⟨(some 15), .mv (.t 0), (some (14, true)), false⟩,
 ⟨(some 16), .mv (.t 1), (some (14, true)), false⟩,
 ⟨(some 17), .mv (.t 2), (some (14, true)), false⟩,
 ⟨(some 18), .call 205 [(.t 15), (.t 16), (.t 17)], (some (14, true)), false⟩,
 ⟨(some 19), .bin .geq (.t 18) (.k (.int .i64 0)), (some (14, true)), false⟩,
 p 20 (.pick (.t 14) (.t 19) (.k (.bool false)))])
 (.cond (.t 20) .skip
 (.exit 0)))
 (.block 1 (.seq (.rg [p 21 (.mv (.t 7)),
 p 22 (.mv (.t 0)),
 p 23 (.bs 1 1 [.int .i64 0] [(0, (.t 22))]),
 p 24 (.app 1 8 (.t 21) (.t 23)),
 p 7 (.mv (.t 24))])
 (.rg [p 25 (.mv (.t 0)),
 p 26 (.mv (.t 1)),
 p 27 (.mv (.t 2)),
 p 28 (.call 205 [(.t 25), (.t 26), (.t 27)]),
 p 0 (.mv (.t 28))]))))))
 (.seq (.seq (.rg [p 29 (.mv (.t 7)),
 p 30 (.len (.t 29)),
 p 31 (.mv (.t 2)),
 p 32 (.call 173 [(.t 31)]),
 p 33 (.bin .lss (.t 30) (.t 32))])
 (.cond (.t 33) (.seq (.rg [p 34 (.bs 1 0 [.int .i64 0] []),
 p 6 (.mv (.t 34))])
 .ret)
 .skip))
 (.seq (.rg [p 35 (.mv (.t 7)),
 p 6 (.mv (.t 35))])
 .ret))))),
 [.tmp 6]⟩
def F180 : Fnc := ⟨(.seq (.rg [p 6 (.mv (.k (.bool false)))])
 (.seq (.rg [p 9 (.mv (.t 0)),
 p 10 (.mv (.t 1)),
 p 11 (.mv (.t 2)),
 p 12 (.call 179 [(.t 9), (.t 10), (.t 11)]),
 p 7 (.mv (.t 12))])
 (.seq (.seq (.rg [p 8 (.mv (.k (.int .i64 0)))])
 (.block 0 (.loop (.seq (.seq (.rg [p 13 (.mv (.t 8)),
 p 14 (.mv (.t 7)),
 p 15 (.len (.t 14)),
 p 16 (.bin .lss (.t 13) (.t 15))])
 (.cond (.t 16) .skip
 (.exit 0)))
 (.seq (.block 1 (.seq (.rg [⟨(some 19), .mv (.t 7), none, true⟩,
 ⟨(some 20), .mv (.t 8), none, true⟩,
 ⟨(some 21), .ia 1 (.t 19) (.t 20), none, true⟩,
 ⟨(some 22), .ld (.t 21), none, true⟩,
 ⟨(some 23), .bin .quo (.t 22) (.k (.int .i64 64)), none, true⟩,
 ⟨(some 24), .mv (.t 7), none, true⟩,
 ⟨(some 25), .ia 1 (.t 24) (.k (.int .i64 0)), none, true⟩,
 ⟨(some 26), .ld (.t 25), none, true⟩,
 ⟨(some 27), .bin .quo (.t 26) (.k (.int .i64 64)), none, true⟩,
 p 28 (.bin .neq (.t 23) (.t 27))])
 (.cond (.t 28) (.seq (.rg [p 6 (.mv (.k (.bool false)))])
 .ret)
 .skip)))
 (.rg [p 17 (.mv (.t 8)),
 p 18 (.bin .add (.t 17) (.k (.int .i64 1))),
 p 8 (.mv (.t 18))]))))))
 (.seq (.rg [p 29 (.mv (.t 7)),
 p 30 (.len (.t 29)),
 p 31 (.bin .gtr (.t 30) (.k (.int .i64 0))),
 p 6 (.mv (.t 31))])
 .ret)))),
 [.tmp 6]⟩
def F183 : Fnc := ⟨(.seq (.rg [p 2 (.mv (.k (.int .i64 0)))])
 (.seq (.seq (.rg [p 3 (.mv (.t 0)),
 p 4 (.call 230 [(.t 3), (.k (.int .i64 0)), (.k (.int .i64 2))]),
 p 5 (.not (.t 4))])
 (.cond (.t 5) (.seq (.rg [p 2 (.mv (.k (.int .i64 0)))])
 .ret)
 .skip))
 (.seq (.rg [p 6 (.mv (.t 0)),
 p 7 (.bin .shl (.k (.int .i64 1)) (.t 6)),
 p 2 (.mv (.t 7))])
 .ret))),
 [.tmp 2]⟩
def F187 : Fnc := ⟨(.seq (.rg [p 2 (.mv (.k (.string ⟨#[]⟩)))])
 (.seq (.seq (.rg [p 6 (.mv (.t 0)),
 p 7 (.bin .eql (.t 6) (.k (.int .i64 0)))])
 (.cond (.t 7) (.seq (.rg [p 2 (.mv (.k (.string ⟨#[48]⟩)))])
 .ret)
 .skip))
 (.seq (.rg [p 3 (.mv (.k (.string ⟨#[]⟩)))])
 (.seq (.rg [p 8 (.mv (.t 0)),
 p 9 (.bin .lss (.t 8) (.k (.int .i64 0))),
 p 4 (.mv (.t 9))])
 (.seq (.block 0 (.loop (.seq (.seq (.rg [p 10 (.mv (.t 0)),
 p 11 (.bin .neq (.t 10) (.k (.int .i64 0)))])
 (.cond (.t 11) .skip
 (.exit 0)))
 (.block 1 (.seq (.rg [p 12 (.mv (.t 0)),
 p 13 (.bin .rem (.t 12) (.k (.int .i64 10))),
 p 5 (.mv (.t 13))])
 (.seq (.seq (.rg [p 14 (.mv (.t 5)),
 p 15 (.bin .lss (.t 14) (.k (.int .i64 0)))])
 (.cond (.t 15) (.rg [p 16 (.mv (.t 5)),
 p 17 (.neg (.t 16)),
 p 5 (.mv (.t 17))])
 .skip))
 (.seq (.rg [p 18 (.mv (.t 5)),
 p 19 (.bin .add (.k (.int .i64 48)) (.t 18)),
 p 20 (.cvi .u8 (.t 19)),
 p 21 (.bs 1 1 [.int .u8 0] [(0, (.t 20))]),
 p 22 (.cvbs (.t 21)),
 p 23 (.mv (.t 3)),
 p 24 (.bin .add (.t 22) (.t 23)),
 p 3 (.mv (.t 24))])
 (.rg [p 25 (.mv (.t 0)),
 p 26 (.bin .quo (.t 25) (.k (.int .i64 10))),
 p 0 (.mv (.t 26))]))))))))
 (.seq (.seq (.rg [p 27 (.mv (.t 4))])
 (.cond (.t 27) (.seq (.rg [p 28 (.mv (.t 3)),
 p 29 (.bin .add (.k (.string ⟨#[45]⟩)) (.t 28)),
 p 2 (.mv (.t 29))])
 .ret)
 .skip))
 (.seq (.rg [p 30 (.mv (.t 3)),
 p 2 (.mv (.t 30))])
 .ret))))))),
 [.tmp 2]⟩
def F201 : Fnc := ⟨(.seq (.rg [p 2 (.mv (.k (.int .i64 0)))])
 (.seq (.seq (.rg [p 3 (.mv (.t 0)),
 p 4 (.call 183 [(.t 3)]),
 p 5 (.bin .eql (.t 4) (.k (.int .i64 0)))])
 (.cond (.t 5) (.seq (.rg [p 2 (.mv (.k (.int .i64 0)))])
 .ret)
 .skip))
 (.seq (.rg [p 6 (.mv (.t 0)),
 p 7 (.call 183 [(.t 6)]),
 p 8 (.bin .mul (.k (.int .i64 8)) (.t 7)),
 p 9 (.bin .shl (.k (.int .i64 1)) (.t 8)),
 p 2 (.mv (.t 9))])
 .ret))),
 [.tmp 2]⟩
def F205 : Fnc := ⟨(.seq (.rg [p 6 (.mv (.k (.int .i64 0)))])
 (.seq (.rg [p 8 (.mv (.t 1)),
 p 9 (.call 183 [(.t 8)]),
 p 7 (.mv (.t 9))])
 (.seq (.seq (.rg [p 10 (.mv (.t 0)),
 p 11 (.mv (.t 1)),
 p 12 (.call 172 [(.t 10), (.t 11)]),
 p 13 (.not (.t 12)),
 p 14 (.mv (.t 13)),
 ⟨(some 15), .mv (.t 0), (some (14, false)), false⟩,
 ⟨(some 16), .call 230 [(.t 15), (.k (.int .i64 0)), (.k (.int .i64 511))], (some (14, false)), false⟩,
 ⟨(some 17), .not (.t 16), (some (14, false)), false⟩,
 p 18 (.pick (.t 14) (.k (.bool true)) (.t 17)),
 p 19 (.mv (.t 18)),
 ⟨(some 20), .mv (.t 2), (some (19, false)), false⟩,
 ⟨(some 21), .call 173 [(.t 20)], (some (19, false)), false⟩,
 ⟨(some 22), .bin .eql (.t 21) (.k (.int .i64 0)), (some (19, false)), false⟩,
 p 23 (.pick (.t 19) (.k (.bool true)) (.t 22))])
 (.cond (.t 23) (.seq (.rg [p 6 (.mv (.k (.int .i64 (-1))))])
 .ret)
 .skip))
 (.seq (.seq (.rg [p 24 (.mv (.t 2)),
 p 25 (.bin .eql (.t 24) (.k (.int .i64 2))),
 p 26 (.mv (.t 25)),
 ⟨(some 27), .mv (.t 0), (some (26, true)), false⟩,
 ⟨(some 28), .mv (.t 7), (some (26, true)), false⟩,
 ⟨(some 29), .bin .add (.t 27) (.t 28), (some (26, true)), false⟩,
 ⟨(some 30), .mv (.t 7), (some (26, true)), false⟩,
 ⟨(some 31), .bin .mul (.k (.int .i64 4)) (.t 30), (some (26, true)), false⟩,
 ⟨(some 32), .bin .rem (.t 29) (.t 31), (some (26, true)), false⟩,
 ⟨(some 33), .bin .eql (.t 32) (.k (.int .i64 0)), (some (26, true)), false⟩,
 p 34 (.pick (.t 26) (.t 33) (.k (.bool false)))])
 (.cond (.t 34) (.seq (.rg [p 35 (.mv (.t 0)),
 p 36 (.mv (.t 7)),
 p 37 (.bin .add (.t 35) (.t 36)),
 p 38 (.mv (.t 7)),
 p 39 (.bin .mul (.k (.int .i64 4)) (.t 38)),
 p 40 (.bin .sub (.t 37) (.t 39)),
 p 6 (.mv (.t 40))])
 .ret)
 .skip))
 (.seq (.rg [p 41 (.mv (.t 0)),
 p 42 (.mv (.t 7)),
 p 43 (.bin .add (.t 41) (.t 42)),
 p 6 (.mv (.t 43))])
 .ret))))),
 [.tmp 6]⟩
def F207 : Fnc := ⟨(.seq (.rg [p 1 (.box (.t 0)),
 p 2 (.mv (.k (.bool false)))])
 (.seq (.seq (.rg [p 4 (.fa 1 (.t 1)),
 p 5 (.ld (.t 4)),
 p 6 (.fa 2 (.t 1)),
 p 7 (.ld (.t 6)),
 p 8 (.fa 3 (.t 1)),
 p 9 (.ld (.t 8)),
 p 10 (.call 180 [(.t 5), (.t 7), (.t 9)]),
 p 11 (.not (.t 10))])
 (.cond (.t 11) (.seq (.rg [p 2 (.mv (.k (.bool false)))])
 .ret)
 .skip))
 (.seq (.seq (.rg [p 3 (.mv (.k (.int .i64 0)))])
 (.block 0 (.loop (.seq (.seq (.rg [p 12 (.mv (.t 3)),
 p 13 (.fa 5 (.t 1)),
 p 14 (.ld (.t 13)),
 p 15 (.len (.t 14)),
 p 16 (.bin .lss (.t 12) (.t 15))])
 (.cond (.t 16) .skip
 (.exit 0)))
 (.seq (.block 1 (.seq (.rg [⟨(some 19), .fa 5 (.t 1), none, true⟩,
 ⟨(some 20), .ld (.t 19), none, true⟩,
 ⟨(some 21), .mv (.t 3), none, true⟩,
 ⟨(some 22), .ia 1 (.t 20) (.t 21), none, true⟩,
 ⟨(some 23), .ld (.t 22), none, true⟩,
 ⟨(some 24), .fa 2 (.t 1), none, true⟩,
 ⟨(some 25), .ld (.t 24), none, true⟩,
 ⟨(some 26), .call 201 [(.t 25)], none, true⟩,
 ⟨(some 27), .bin .sub (.t 26) (.k (.int .i64 1)), none, true⟩,
 p 28 (.call 230 [(.t 23), (.k (.int .i64 0)), (.t 27)]),
 p 29 (.not (.t 28))])
 (.cond (.t 29) (.seq (.rg [p 2 (.mv (.k (.bool false)))])
 .ret)
 .skip)))
 (.rg [p 17 (.mv (.t 3)),
 p 18 (.bin .add (.t 17) (.k (.int .i64 1))),
 p 3 (.mv (.t 18))]))))))
 (.seq (.rg [p 30 (.fa 5 (.t 1)),
 p 31 (.ld (.t 30)),
 p 32 (.len (.t 31)),
 p 33 (.bin .eql (.t 32) (.k (.int .i64 0))),
 p 34 (.mv (.t 33)),
 ⟨(some 35), .fa 0 (.t 1), (some (34, true)), false⟩,
 ⟨(some 36), .ld (.t 35), (some (34, true)), false⟩,
 ⟨(some 37), .not (.t 36), (some (34, true)), false⟩,
 p 38 (.pick (.t 34) (.t 37) (.k (.bool false))),
 p 39 (.mv (.t 38)),
 ⟨(some 40), .fa 5 (.t 1), (some (39, false)), true⟩,
 ⟨(some 41), .ld (.t 40), (some (39, false)), true⟩,
 ⟨(some 42), .len (.t 41), (some (39, false)), true⟩,
 ⟨(some 43), .fa 3 (.t 1), (some (39, false)), true⟩,
 ⟨(some 44), .ld (.t 43), (some (39, false)), true⟩,
 ⟨(some 45), .call 173 [(.t 44)], (some (39, false)), true⟩,
 ⟨(some 46), .bin .eql (.t 42) (.t 45), (some (39, false)), false⟩,
 ⟨(some 47), .mv (.t 46), (some (39, false)), false⟩,
 ⟨(some 48), .fa 0 (.t 1), (some (47, true)), false⟩,
 ⟨(some 49), .ld (.t 48), (some (47, true)), false⟩,
 ⟨(some 50), .pick (.t 47) (.t 49) (.k (.bool false)), (some (39, false)), false⟩,
 p 51 (.pick (.t 39) (.k (.bool true)) (.t 50)),
 p 2 (.mv (.t 51))])
 .ret)))),
 [.tmp 2]⟩
def F230 : Fnc := ⟨(.seq (.rg [p 6 (.mv (.k (.bool false)))])
 (.seq (.rg [p 7 (.mv (.t 0)),
 p 8 (.mv (.t 1)),
 p 9 (.bin .geq (.t 7) (.t 8)),
 p 10 (.mv (.t 9)),
 ⟨(some 11), .mv (.t 0), (some (10, true)), false⟩,
 ⟨(some 12), .mv (.t 2), (some (10, true)), false⟩,
 ⟨(some 13), .bin .leq (.t 11) (.t 12), (some (10, true)), false⟩,
 p 14 (.pick (.t 10) (.t 13) (.k (.bool false))),
 p 6 (.mv (.t 14))])
 .ret)),
 [.tmp 6]⟩
def F257 : Fnc := ⟨(.seq (.rg [p 4 (.mv (.k (.bool false)))])
 (.seq (.rg [p 5 (.mv (.t 0)),
 p 6 (.mv (.t 1)),
 p 7 (.call 266 [(.t 5), (.t 6)]),
 p 8 (.bin .geq (.t 7) (.k (.int .i64 0))),
 p 4 (.mv (.t 8))])
 .ret)),
 [.tmp 4]⟩
def F266 : Fnc := ⟨(.seq (.rg [p 4 (.mv (.k (.int .i64 0)))])
 (.seq (.seq (.rg [p 6 (.mv (.t 0)),
 p 7 (.len (.t 6)),
 p 8 (.mv (.k (.int .i64 0)))])
 (.block 0 (.loop (.seq (.rg [p 9 (.bin .lss (.t 8) (.t 7))])
 (.seq (.cond (.t 9) .skip
 (.exit 0))
 (.seq (.block 1 (.seq (.rg [p 10 (.mv (.t 8)),
 p 5 (.mv (.t 10))])
 (.seq (.rg [p 11 (.mv (.t 1)),
 p 12 (.mv (.t 0)),
 p 13 (.mv (.t 5)),
 p 14 (.ia 1 (.t 12) (.t 13)),
 p 15 (.ld (.t 14)),
 p 16 (.calli (.t 11) [(.t 15)])])
 (.cond (.t 16) (.seq (.rg [p 17 (.mv (.t 5)),
 p 4 (.mv (.t 17))])
 .ret)
 .skip))))
 (.rg [p 18 (.bin .add (.t 8) (.k (.int .i64 1))),
 p 8 (.mv (.t 18))])))))))
 (.seq (.rg [p 4 (.mv (.k (.int .i64 (-1))))])
 .ret))),
 [.tmp 4]⟩
def F329 : Fnc := ⟨(.seq (.rg [p 2 (.box (.t 0)),
 p 4 (.mv (.k (.int .i64 0)))])
 (.seq (.rg [p 5 (.fa 5 (.t 2)),
 p 6 (.ld (.t 5)),
 p 7 (.mv (.t 1)),
 p 8 (.call 337 [(.t 6), (.t 7)]),
 p 1 (.mv (.t 8))])
 (.seq (.rg [p 9 (.mv (.t 1)),
 p 4 (.mv (.t 9))])
 .ret))),
 [.tmp 4]⟩
def F337 : Fnc := ⟨(.seq (.rg [p 4 (.mv (.k (.int .i64 0)))])
 (.seq (.seq (.rg [p 5 (.mv (.k (.int .i64 0)))])
 (.block 0 (.loop (.seq (.seq (.rg [p 6 (.mv (.t 5)),
 p 7 (.mv (.t 0)),
 p 8 (.len (.t 7)),
 p 9 (.bin .lss (.t 6) (.t 8))])
 (.cond (.t 9) .skip
 (.exit 0)))
 (.seq (.block 1 (.seq (.rg [p 12 (.mv (.t 0)),
 p 13 (.mv (.t 5)),
 p 14 (.mv (.t 1)),
 p 15 (.ia 1 (.t 12) (.t 13)),
 ⟨none, .st (.t 15) (.t 14), none, false⟩])
 (.rg [p 16 (.mv (.t 1)),
 p 17 (.bin .add (.t 16) (.k (.int .i64 1))),
 p 1 (.mv (.t 17))])))
 (.rg [p 10 (.mv (.t 5)),
 p 11 (.bin .add (.t 10) (.k (.int .i64 1))),
 p 5 (.mv (.t 11))]))))))
 (.seq (.rg [p 18 (.mv (.t 1)),
 p 4 (.mv (.t 18))])
 .ret))),
 [.tmp 4]⟩
def F380 : Fnc := ⟨(.seq (.rg [p 4 (.mv (.k (.int .i64 0)))])
 (.seq (.seq (.rg [p 5 (.mv (.k (.int .i64 0)))])
 (.block 0 (.loop (.seq (.seq (.rg [p 6 (.mv (.t 5)),
 p 7 (.mv (.t 0)),
 p 8 (.len (.t 7)),
 p 9 (.bin .lss (.t 6) (.t 8))])
 (.cond (.t 9) .skip
 (.exit 0)))
 (.seq (.block 1 (.seq (.seq (.rg [p 12 (.mv (.t 0)),
 p 13 (.mv (.t 5)),
 p 14 (.ia 1 (.t 12) (.t 13)),
 p 15 (.ld (.t 14)),
 p 16 (.mv (.t 1)),
 p 17 (.bin .neq (.t 15) (.t 16))])
 (.cond (.t 17) (.seq (.rg [p 4 (.mv (.k (.int .i64 (-1))))])
 .ret)
 .skip))
 (.rg [p 18 (.mv (.t 1)),
 p 19 (.bin .add (.t 18) (.k (.int .i64 1))),
 p 1 (.mv (.t 19))])))
 (.rg [p 10 (.mv (.t 5)),
 p 11 (.bin .add (.t 10) (.k (.int .i64 1))),
 p 5 (.mv (.t 11))]))))))
 (.seq (.rg [p 20 (.mv (.t 1)),
 p 4 (.mv (.t 20))])
 .ret))),
 [.tmp 4]⟩
def F451 : Fnc := ⟨(.seq (.rg [p 2 (.mv (.k (.bool false)))])
 (.seq (.seq (.rg [p 11 (.mv (.t 0)),
 p 12 (.lens (.t 11)),
 p 13 (.bin .gtr (.t 12) (.k (.int .i64 1048576)))])
 (.cond (.t 13) (.seq (.rg [p 2 (.mv (.k (.bool true)))])
 .ret)
 .skip))
 (.seq (.rg [p 15 (.mv (.t 0)),
 p 16 (.call 453 [(.t 15)]),
 p 14 (.mv (.t 16)),
 p 17 (.ext 0 (.t 14)),
 p 18 (.ext 1 (.t 14)),
 p 3 (.new [.bool false, .int .i64 0, .int .i64 0, .int .i64 0, .bool false, .slice none 0 0]),
 ⟨none, .stn 6 (.t 3) (.t 17), none, false⟩,
 p 4 (.mv (.t 18))])
 (.seq (.rg [p 20 (.mv (.t 0)),
 p 21 (.call 454 [(.t 20)]),
 p 19 (.mv (.t 21)),
 p 22 (.ext 0 (.t 19)),
 p 23 (.ext 1 (.t 19)),
 p 5 (.new [.bool false, .int .i64 0, .int .i64 0, .int .i64 0, .bool false, .slice none 0 0]),
 ⟨none, .stn 6 (.t 5) (.t 22), none, false⟩,
 p 6 (.mv (.t 23))])
 (.seq (.seq (.rg [p 24 (.ldn 6 (.t 5)),
 p 25 (.ldn 6 (.t 3)),
 p 26 (.call 138 [(.t 24), (.t 25)]),
 p 27 (.not (.t 26)),
 p 28 (.mv (.t 27)),
 ⟨(some 29), .mv (.t 6), (some (28, false)), false⟩,
 ⟨(some 30), .mv (.t 4), (some (28, false)), false⟩,
 ⟨(some 31), .eqb true (.t 29) (.t 30), (some (28, false)), false⟩,
 p 32 (.pick (.t 28) (.k (.bool true)) (.t 31))])
 (.cond (.t 32) (.seq (.rg [p 2 (.mv (.k (.bool false)))])
 .ret)
 .skip))
 (.seq (.rg [p 7 (.mv (.k (.int .i64 1)))])
 (.seq (.rg [p 33 (.ldn 6 (.t 5)),
 p 34 (.mv (.t 7)),
 p 35 (.call 329 [(.t 33), (.t 34)]),
 p 7 (.mv (.t 35))])
 (.seq (.rg [p 8 (.mv (.k (.int .i64 1)))])
 (.seq (.rg [p 36 (.ldn 6 (.t 5)),
 p 37 (.mv (.t 8)),
 p 38 (.call 455 [(.t 36), (.t 37)]),
 p 8 (.mv (.t 38))])
 (.seq (.seq (.rg [p 39 (.mv (.t 8)),
 p 40 (.bin .lss (.t 39) (.k (.int .i64 0)))])
 (.cond (.t 40) (.seq (.rg [p 2 (.mv (.k (.bool false)))])
 .ret)
 .skip))
 (.seq (.seq (.rg [p 41 (.mv (.t 8)),
 p 42 (.mv (.t 7)),
 p 43 (.bin .neq (.t 41) (.t 42))])
 (.cond (.t 43) (.seq (.rg [p 2 (.mv (.k (.bool false)))])
 .ret)
 .skip))
 (.seq (.rg [p 45 (.mv (.t 0)),
 p 46 (.call 454 [(.t 45)]),
 p 44 (.mv (.t 46)),
 p 47 (.ext 0 (.t 44)),
 p 48 (.ext 1 (.t 44)),
 p 9 (.new [.bool false, .int .i64 0, .int .i64 0, .int .i64 0, .bool false, .slice none 0 0]),
 ⟨none, .stn 6 (.t 9) (.t 47), none, false⟩,
 p 10 (.mv (.t 48))])
 (.seq (.seq (.rg [p 49 (.ldn 6 (.t 9)),
 p 50 (.ldn 6 (.t 3)),
 p 51 (.call 138 [(.t 49), (.t 50)]),
 p 52 (.not (.t 51)),
 p 53 (.mv (.t 52)),
 ⟨(some 54), .mv (.t 10), (some (53, false)), false⟩,
 ⟨(some 55), .mv (.t 4), (some (53, false)), false⟩,
 ⟨(some 56), .eqb true (.t 54) (.t 55), (some (53, false)), false⟩,
 p 57 (.pick (.t 53) (.k (.bool true)) (.t 56))])
 (.cond (.t 57) (.seq (.rg [p 2 (.mv (.k (.bool false)))])
 .ret)
 .skip))
 (.seq (.rg [p 8 (.mv (.k (.int .i64 1)))])
 (.seq (.rg [p 58 (.ldn 6 (.t 5)),
 p 59 (.mv (.t 8)),
 p 60 (.call 455 [(.t 58), (.t 59)]),
 p 8 (.mv (.t 60))])
 (.seq (.seq (.rg [p 61 (.mv (.t 8)),
 p 62 (.bin .lss (.t 61) (.k (.int .i64 0)))])
 (.cond (.t 62) (.seq (.rg [p 2 (.mv (.k (.bool false)))])
 .ret)
 .skip))
 (.seq (.seq (.rg [p 63 (.mv (.t 8)),
 p 64 (.mv (.t 7)),
 p 65 (.bin .neq (.t 63) (.t 64))])
 (.cond (.t 65) (.seq (.rg [p 2 (.mv (.k (.bool false)))])
 .ret)
 .skip))
 (.seq (.rg [p 2 (.mv (.k (.bool true)))])
 .ret)))))))))))))))))),
 [.tmp 2]⟩
def F453 : Fnc := ⟨(.seq (.rg [p 2 (.new [.bool false, .int .i64 0, .int .i64 0, .int .i64 0, .bool false, .slice none 0 0]),
 p 3 (.mv (.k (.bool false)))])
 (.seq (.rg [p 7 (.mv (.t 0)),
 p 8 (.call 459 [(.t 7), (.k (.int .u8 32))]),
 p 4 (.mv (.t 8))])
 (.seq (.seq (.rg [p 9 (.mv (.t 4)),
 p 10 (.len (.t 9)),
 p 11 (.bin .lss (.t 10) (.k (.int .i64 4)))])
 (.cond (.t 11) (.seq (.rg [p 12 (.bd [.bool false, .int .i64 0, .int .i64 0, .int .i64 0, .bool false, .slice none 0 0] []),
 ⟨none, .stn 6 (.t 2) (.t 12), none, false⟩,
 p 3 (.mv (.k (.bool false)))])
 .ret)
 .skip))
 (.seq (.rg [⟨(some 13), .mv (.t 4), none, true⟩,
 ⟨(some 14), .ia 1 (.t 13) (.k (.int .i64 0)), none, true⟩,
 ⟨(some 15), .ld (.t 14), none, true⟩,
 ⟨(some 16), .bin .eql (.t 15) (.k (.string ⟨#[119, 114, 105, 116, 101]⟩)), none, true⟩,
 ⟨(some 17), .bs 1 3 [.string ⟨#[]⟩] [(0, (.k (.string ⟨#[98, 121, 116, 101]⟩))), (1, (.k (.string ⟨#[104, 97, 108, 102]⟩))), (2, (.k (.string ⟨#[119, 111, 114, 100]⟩)))], none, true⟩,
 ⟨(some 18), .mv (.t 4), none, true⟩,
 ⟨(some 19), .ia 1 (.t 18) (.k (.int .i64 1)), none, true⟩,
 ⟨(some 20), .ld (.t 19), none, true⟩,
 ⟨(some 21), .call 460 [(.t 17), (.t 20)], none, true⟩,
 ⟨(some 22), .bs 1 4 [.string ⟨#[]⟩] [(0, (.k (.string ⟨#[111, 110, 101]⟩))), (1, (.k (.string ⟨#[102, 111, 117, 114]⟩))), (2, (.k (.string ⟨#[119, 114, 97, 112]⟩))), (3, (.k (.string ⟨#[101, 105, 103, 104, 116]⟩)))], none, true⟩,
 ⟨(some 23), .mv (.t 4), none, true⟩,
 ⟨(some 24), .ia 1 (.t 23) (.k (.int .i64 2)), none, true⟩,
 ⟨(some 25), .ld (.t 24), none, true⟩,
 ⟨(some 26), .call 460 [(.t 22), (.t 25)], none, true⟩,
 ⟨(some 27), .bd [.bool false, .int .i64 0, .int .i64 0, .int .i64 0, .bool false, .slice none 0 0] [(0, 1, (.t 16)), (2, 1, (.t 21)), (3, 1, (.t 26))], none, true⟩,
 ⟨(some 5), .new [.bool false, .int .i64 0, .int .i64 0, .int .i64 0, .bool false, .slice none 0 0], none, true⟩,
 ⟨none, .stn 6 (.t 5) (.t 27), none, false⟩])
 (.seq (.rg [p 28 (.mv (.t 4)),
 p 29 (.ia 1 (.t 28) (.k (.int .i64 3))),
 p 30 (.ld (.t 29)),
 p 31 (.call 461 [(.t 30)]),
 p 32 (.fa 1 (.t 5)),
 ⟨none, .st (.t 32) (.t 31), none, false⟩])
 (.seq (.rg [p 33 (.mv (.t 4)),
 p 34 (.sl 1 (.t 33) (some (.k (.int .i64 4))) none none),
 p 4 (.mv (.t 34))])
 (.seq (.seq (.rg [p 35 (.mv (.t 4)),
 p 36 (.len (.t 35)),
 p 37 (.bin .gtr (.t 36) (.k (.int .i64 0))),
 p 38 (.mv (.t 37)),
 ⟨(some 39), .mv (.t 4), (some (38, true)), false⟩,
 ⟨(some 40), .ia 1 (.t 39) (.k (.int .i64 0)), (some (38, true)), false⟩,
 ⟨(some 41), .ld (.t 40), (some (38, true)), false⟩,
 ⟨(some 42), .bin .eql (.t 41) (.k (.string ⟨#[108, 111, 99, 107]⟩)), (some (38, true)), false⟩,
 p 43 (.pick (.t 38) (.t 42) (.k (.bool false)))])
 (.cond (.t 43) (.seq (.rg [p 44 (.fa 4 (.t 5)),
 ⟨none, .st (.t 44) (.k (.bool true)), none, false⟩])
 (.rg [p 45 (.mv (.t 4)),
 p 46 (.sl 1 (.t 45) (some (.k (.int .i64 1))) none none),
 p 4 (.mv (.t 46))]))
 .skip))
 (.seq (.seq (.rg [p 6 (.mv (.k (.int .i64 0)))])
 (.block 0 (.loop (.seq (.seq (.rg [p 47 (.mv (.t 6)),
 p 48 (.mv (.t 4)),
 p 49 (.len (.t 48)),
 p 50 (.bin .lss (.t 47) (.t 49))])
 (.cond (.t 50) .skip
 (.exit 0)))
 (.seq (.block 1 (.rg [⟨(some 53), .fa 5 (.t 5), none, true⟩,
 ⟨(some 54), .ld (.t 53), none, true⟩,
 ⟨(some 55), .mv (.t 4), none, true⟩,
 ⟨(some 56), .mv (.t 6), none, true⟩,
 ⟨(some 57), .ia 1 (.t 55) (.t 56), none, true⟩,
 ⟨(some 58), .ld (.t 57), none, true⟩,
 ⟨(some 59), .call 461 [(.t 58)], none, true⟩,
 ⟨(some 60), .bs 1 1 [.int .i64 0] [(0, (.t 59))], none, true⟩,
 p 61 (.app 1 8 (.t 54) (.t 60)),
 p 62 (.fa 5 (.t 5)),
 ⟨none, .st (.t 62) (.t 61), none, false⟩]))
 (.rg [p 51 (.mv (.t 6)),
 p 52 (.bin .add (.t 51) (.k (.int .i64 1))),
 p 6 (.mv (.t 52))]))))))
 (.seq (.seq (.rg [p 63 (.ldn 6 (.t 5)),
 p 64 (.call 462 [(.t 63)]),
 p 65 (.mv (.t 0)),
 p 66 (.bin .neq (.t 64) (.t 65))])
 (.cond (.t 66) (.seq (.rg [p 67 (.bd [.bool false, .int .i64 0, .int .i64 0, .int .i64 0, .bool false, .slice none 0 0] []),
 ⟨none, .stn 6 (.t 2) (.t 67), none, false⟩,
 p 3 (.mv (.k (.bool false)))])
 .ret)
 .skip))
 (.seq (.rg [p 68 (.ldn 6 (.t 5)),
 ⟨none, .stn 6 (.t 2) (.t 68), none, false⟩,
 p 3 (.mv (.k (.bool true)))])
 .ret)))))))))),
 [.celln 2 6, .tmp 3]⟩
def F454 : Fnc := ⟨(.seq (.rg [p 2 (.new [.bool false, .int .i64 0, .int .i64 0, .int .i64 0, .bool false, .slice none 0 0]),
 p 3 (.mv (.k (.bool false)))])
 (.seq (.rg [p 11 (.mv (.t 0)),
 p 12 (.call 463 [(.t 11), (.k (.string ⟨#[32]⟩))]),
 p 4 (.mv (.t 12))])
 (.seq (.seq (.rg [p 13 (.mv (.t 4)),
 p 14 (.len (.t 13)),
 p 15 (.bin .lss (.t 14) (.k (.int .i64 4)))])
 (.cond (.t 15) (.seq (.rg [p 16 (.bd [.bool false, .int .i64 0, .int .i64 0, .int .i64 0, .bool false, .slice none 0 0] []),
 ⟨none, .stn 6 (.t 2) (.t 16), none, false⟩,
 p 3 (.mv (.k (.bool false)))])
 .ret)
 .skip))
 (.seq (.rg [⟨(some 17), .mv (.t 4), none, true⟩,
 ⟨(some 18), .ia 1 (.t 17) (.k (.int .i64 0)), none, true⟩,
 ⟨(some 19), .ld (.t 18), none, true⟩,
 ⟨(some 20), .bin .eql (.t 19) (.k (.string ⟨#[119, 114, 105, 116, 101]⟩)), none, true⟩,
 ⟨(some 21), .call 465 [], none, true⟩,
 ⟨(some 22), .mv (.t 4), none, true⟩,
 ⟨(some 23), .ia 1 (.t 22) (.k (.int .i64 1)), none, true⟩,
 ⟨(some 24), .ld (.t 23), none, true⟩,
 ⟨(some 25), .call 464 [(.t 21), (.t 24)], none, true⟩,
 ⟨(some 26), .call 466 [], none, true⟩,
 ⟨(some 27), .mv (.t 4), none, true⟩,
 ⟨(some 28), .ia 1 (.t 27) (.k (.int .i64 2)), none, true⟩,
 ⟨(some 29), .ld (.t 28), none, true⟩,
 ⟨(some 30), .call 464 [(.t 26), (.t 29)], none, true⟩,
 ⟨(some 31), .bd [.bool false, .int .i64 0, .int .i64 0, .int .i64 0, .bool false, .slice none 0 0] [(0, 1, (.t 20)), (2, 1, (.t 25)), (3, 1, (.t 30))], none, true⟩,
 ⟨(some 32), .mv (.t 4), none, true⟩,
 ⟨(some 33), .sl 1 (.t 32) (some (.k (.int .i64 4))) none none, none, true⟩,
 ⟨(some 5), .new [.bool false, .int .i64 0, .int .i64 0, .int .i64 0, .bool false, .slice none 0 0], none, true⟩,
 ⟨none, .stn 6 (.t 5) (.t 31), none, true⟩,
 p 6 (.mv (.t 33))])
 (.seq (.seq (.rg [p 34 (.mv (.t 6)),
 p 35 (.len (.t 34)),
 p 36 (.bin .gtr (.t 35) (.k (.int .i64 0))),
 p 37 (.mv (.t 36)),
 ⟨(some 38), .mv (.t 6), (some (37, true)), false⟩,
 ⟨(some 39), .ia 1 (.t 38) (.k (.int .i64 0)), (some (37, true)), false⟩,
 ⟨(some 40), .ld (.t 39), (some (37, true)), false⟩,
 ⟨(some 41), .bin .eql (.t 40) (.k (.string ⟨#[108, 111, 99, 107]⟩)), (some (37, true)), false⟩,
 p 42 (.pick (.t 37) (.t 41) (.k (.bool false)))])
 (.cond (.t 42) (.rg [⟨(some 43), .mv (.t 6), none, true⟩,
 ⟨(some 44), .sl 1 (.t 43) (some (.k (.int .i64 1))) none none, none, true⟩,
 ⟨(some 45), .fa 4 (.t 5), none, true⟩,
 ⟨none, .st (.t 45) (.k (.bool true)), none, true⟩,
 p 6 (.mv (.t 44))])
 .skip))
 (.seq (.rg [p 47 (.mv (.t 4)),
 p 48 (.ia 1 (.t 47) (.k (.int .i64 3))),
 p 49 (.ld (.t 48)),
 p 50 (.call 408 [(.t 49), (.k (.int .i64 18))]),
 p 46 (.mv (.t 50)),
 p 51 (.ext 0 (.t 46)),
 p 52 (.ext 1 (.t 46)),
 p 7 (.mv (.t 51)),
 p 8 (.mv (.t 52))])
 (.seq (.rg [p 54 (.mv (.t 6)),
 p 55 (.call 467 [(.t 54)]),
 p 53 (.mv (.t 55)),
 p 56 (.ext 0 (.t 53)),
 p 57 (.ext 1 (.t 53)),
 p 9 (.mv (.t 56)),
 p 10 (.mv (.t 57))])
 (.seq (.rg [p 58 (.mv (.t 7)),
 p 59 (.mv (.t 9)),
 p 60 (.fa 1 (.t 5)),
 ⟨none, .st (.t 60) (.t 58), none, false⟩,
 p 61 (.fa 5 (.t 5)),
 ⟨none, .st (.t 61) (.t 59), none, false⟩])
 (.seq (.seq (.rg [p 62 (.mv (.t 8)),
 p 63 (.not (.t 62)),
 p 64 (.mv (.t 63)),
 ⟨(some 65), .mv (.t 10), (some (64, false)), false⟩,
 ⟨(some 66), .not (.t 65), (some (64, false)), false⟩,
 p 67 (.pick (.t 64) (.k (.bool true)) (.t 66)),
 p 68 (.mv (.t 67)),
 ⟨(some 69), .ldn 6 (.t 5), (some (68, false)), false⟩,
 ⟨(some 70), .call 66 [(.t 69)], (some (68, false)), false⟩,
 ⟨(some 71), .not (.t 70), (some (68, false)), false⟩,
 p 72 (.pick (.t 68) (.k (.bool true)) (.t 71)),
 p 73 (.mv (.t 72)),
 ⟨(some 74), .ldn 6 (.t 5), (some (73, false)), false⟩,
 ⟨(some 75), .call 457 [(.t 74)], (some (73, false)), false⟩,
 ⟨(some 76), .mv (.t 0), (some (73, false)), false⟩,
 ⟨(some 77), .bin .neq (.t 75) (.t 76), (some (73, false)), false⟩,
 p 78 (.pick (.t 73) (.k (.bool true)) (.t 77))])
 (.cond (.t 78) (.seq (.rg [p 79 (.bd [.bool false, .int .i64 0, .int .i64 0, .int .i64 0, .bool false, .slice none 0 0] []),
 ⟨none, .stn 6 (.t 2) (.t 79), none, false⟩,
 p 3 (.mv (.k (.bool false)))])
 .ret)
 .skip))
 (.seq (.rg [p 80 (.ldn 6 (.t 5)),
 ⟨none, .stn 6 (.t 2) (.t 80), none, false⟩,
 p 3 (.mv (.k (.bool true)))])
 .ret)))))))))),
 [.celln 2 6, .tmp 3]⟩
def F455 : Fnc := ⟨(.seq (.rg [p 2 (.box (.t 0)),
 p 4 (.mv (.k (.int .i64 0)))])
 (.seq (.rg [p 5 (.fa 5 (.t 2)),
 p 6 (.ld (.t 5)),
 p 7 (.mv (.t 1)),
 p 8 (.call 380 [(.t 6), (.t 7)]),
 p 1 (.mv (.t 8))])
 (.seq (.seq (.rg [p 9 (.mv (.t 1)),
 p 10 (.bin .lss (.t 9) (.k (.int .i64 0)))])
 (.cond (.t 10) (.seq (.rg [p 4 (.mv (.k (.int .i64 (-1))))])
 .ret)
 .skip))
 (.seq (.rg [p 11 (.mv (.t 1)),
 p 4 (.mv (.t 11))])
 .ret)))),
 [.tmp 4]⟩
def F457 : Fnc := ⟨(.seq (.rg [p 1 (.box (.t 0)),
 p 2 (.mv (.k (.string ⟨#[]⟩)))])
 (.seq (.seq (.rg [p 4 (.ldn 6 (.t 1)),
 p 5 (.call 66 [(.t 4)]),
 p 6 (.not (.t 5))])
 (.cond (.t 6) (.seq (.rg [p 2 (.mv (.k (.string ⟨#[]⟩)))])
 .ret)
 .skip))
 (.seq (.rg [⟨(some 7), .fa 0 (.t 1), none, true⟩,
 ⟨(some 8), .ld (.t 7), none, true⟩,
 ⟨(some 9), .call 468 [(.t 8)], none, true⟩,
 ⟨(some 10), .call 465 [], none, true⟩,
 ⟨(some 11), .fa 2 (.t 1), none, true⟩,
 ⟨(some 12), .ld (.t 11), none, true⟩,
 ⟨(some 13), .ia 1 (.t 10) (.t 12), none, true⟩,
 ⟨(some 14), .ld (.t 13), none, true⟩,
 ⟨(some 15), .call 466 [], none, true⟩,
 ⟨(some 16), .fa 3 (.t 1), none, true⟩,
 ⟨(some 17), .ld (.t 16), none, true⟩,
 ⟨(some 18), .ia 1 (.t 15) (.t 17), none, true⟩,
 ⟨(some 19), .ld (.t 18), none, true⟩,
 ⟨(some 20), .fa 1 (.t 1), none, true⟩,
 ⟨(some 21), .ld (.t 20), none, true⟩,
 ⟨(some 22), .call 38 [(.t 21)], none, true⟩,
 p 23 (.bs 1 4 [.string ⟨#[]⟩] [(0, (.t 9)), (1, (.t 14)), (2, (.t 19)), (3, (.t 22))]),
 p 3 (.mv (.t 23))])
 (.seq (.seq (.rg [p 24 (.fa 4 (.t 1)),
 p 25 (.ld (.t 24))])
 (.cond (.t 25) (.rg [p 26 (.mv (.t 3)),
 p 27 (.bs 1 1 [.string ⟨#[]⟩] [(0, (.k (.string ⟨#[108, 111, 99, 107]⟩)))]),
 p 28 (.app 1 16 (.t 26) (.t 27)),
 p 3 (.mv (.t 28))])
 .skip))
 (.seq (.rg [p 29 (.mv (.t 3)),
 p 30 (.fa 5 (.t 1)),
 p 31 (.ld (.t 30)),
 p 32 (.call 84 [(.t 31)]),
 p 33 (.app 1 16 (.t 29) (.t 32)),
 p 34 (.call 407 [(.t 33), (.k (.string ⟨#[32]⟩))]),
 p 2 (.mv (.t 34))])
 .ret))))),
 [.tmp 2]⟩
def F459 : Fnc := ⟨(.seq (.rg [p 4 (.mv (.k (.slice none 0 0)))])
 (.seq (.rg [p 8 (.bs 1 0 [.string ⟨#[]⟩] []),
 p 5 (.mv (.t 8))])
 (.seq (.rg [p 6 (.mv (.k (.int .i64 0)))])
 (.seq (.seq (.rg [p 7 (.mv (.k (.int .i64 0)))])
 (.block 0 (.loop (.seq (.seq (.rg [p 9 (.mv (.t 7)),
 p 10 (.mv (.t 0)),
 p 11 (.lens (.t 10)),
 p 12 (.bin .lss (.t 9) (.t 11))])
 (.cond (.t 12) .skip
 (.exit 0)))
 (.seq (.block 1 (.seq (.rg [p 15 (.mv (.t 0)),
 p 16 (.mv (.t 7)),
 p 17 (.ix (.t 15) (.t 16)),
 p 18 (.mv (.t 1)),
 p 19 (.bin .eql (.t 17) (.t 18))])
 (.cond (.t 19) (.seq (.rg [p 20 (.mv (.t 5)),
 p 21 (.mv (.t 0)),
 p 22 (.mv (.t 6)),
 p 23 (.mv (.t 7)),
 p 24 (.sls (.t 21) (some (.t 22)) (some (.t 23))),
 p 25 (.bs 1 1 [.string ⟨#[]⟩] [(0, (.t 24))]),
 p 26 (.app 1 16 (.t 20) (.t 25)),
 p 5 (.mv (.t 26))])
 (.rg [p 27 (.mv (.t 7)),
 p 28 (.bin .add (.t 27) (.k (.int .i64 1))),
 p 6 (.mv (.t 28))]))
 .skip)))
 (.rg [p 13 (.mv (.t 7)),
 p 14 (.bin .add (.t 13) (.k (.int .i64 1))),
 p 7 (.mv (.t 14))]))))))
 (.seq (.rg [p 29 (.mv (.t 5)),
 p 30 (.mv (.t 0)),
 p 31 (.mv (.t 6)),
 p 32 (.sls (.t 30) (some (.t 31)) none),
 p 33 (.bs 1 1 [.string ⟨#[]⟩] [(0, (.t 32))]),
 p 34 (.app 1 16 (.t 29) (.t 33)),
 p 4 (.mv (.t 34))])
 .ret))))),
 [.tmp 4]⟩
def F460 : Fnc := ⟨(.seq (.rg [p 4 (.mv (.k (.int .i64 0)))])
 (.seq (.seq (.rg [p 5 (.mv (.k (.int .i64 0)))])
 (.block 0 (.loop (.seq (.seq (.rg [p 6 (.mv (.t 5)),
 p 7 (.mv (.t 0)),
 p 8 (.len (.t 7)),
 p 9 (.bin .lss (.t 6) (.t 8))])
 (.cond (.t 9) .skip
 (.exit 0)))
 (.seq (.block 1 (.seq (.rg [p 12 (.mv (.t 0)),
 p 13 (.mv (.t 5)),
 p 14 (.ia 1 (.t 12) (.t 13)),
 p 15 (.ld (.t 14)),
 p 16 (.mv (.t 1)),
 p 17 (.bin .eql (.t 15) (.t 16))])
 (.cond (.t 17) (.seq (.rg [p 18 (.mv (.t 5)),
 p 4 (.mv (.t 18))])
 .ret)
 .skip)))
 (.rg [p 10 (.mv (.t 5)),
 p 11 (.bin .add (.t 10) (.k (.int .i64 1))),
 p 5 (.mv (.t 11))]))))))
 (.seq (.rg [p 4 (.mv (.k (.int .i64 (-1))))])
 .ret))),
 [.tmp 4]⟩
def F461 : Fnc := ⟨(.seq (.rg [p 2 (.mv (.k (.int .i64 0)))])
 (.seq (.rg [p 3 (.mv (.k (.int .i64 1)))])
 (.seq (.seq (.rg [p 6 (.mv (.t 0)),
 p 7 (.lens (.t 6)),
 p 8 (.bin .gtr (.t 7) (.k (.int .i64 0))),
 p 9 (.mv (.t 8)),
 ⟨(some 10), .mv (.t 0), (some (9, true)), false⟩,
 ⟨(some 11), .ix (.t 10) (.k (.int .i64 0)), (some (9, true)), false⟩,
 ⟨(some 12), .bin .eql (.t 11) (.k (.int .u8 45)), (some (9, true)), false⟩,
 p 13 (.pick (.t 9) (.t 12) (.k (.bool false)))])
 (.cond (.t 13) (.seq (.rg [p 3 (.mv (.k (.int .i64 (-1))))])
 (.rg [p 14 (.mv (.t 0)),
 p 15 (.sls (.t 14) (some (.k (.int .i64 1))) none),
 p 0 (.mv (.t 15))]))
 .skip))
 (.seq (.rg [p 4 (.mv (.k (.int .i64 0)))])
 (.seq (.seq (.rg [p 5 (.mv (.k (.int .i64 0)))])
 (.block 0 (.loop (.seq (.seq (.rg [p 16 (.mv (.t 5)),
 p 17 (.mv (.t 0)),
 p 18 (.lens (.t 17)),
 p 19 (.bin .lss (.t 16) (.t 18))])
 (.cond (.t 19) .skip
 (.exit 0)))
 (.seq (.block 1 (.seq (.seq (.rg [p 22 (.mv (.t 0)),
 p 23 (.mv (.t 5)),
 p 24 (.ix (.t 22) (.t 23)),
 p 25 (.bin .lss (.t 24) (.k (.int .u8 48))),
 p 26 (.mv (.t 25)),
 ⟨(some 27), .mv (.t 0), (some (26, false)), false⟩,
 ⟨(some 28), .mv (.t 5), (some (26, false)), false⟩,
 ⟨(some 29), .ix (.t 27) (.t 28), (some (26, false)), false⟩,
 ⟨(some 30), .bin .gtr (.t 29) (.k (.int .u8 57)), (some (26, false)), false⟩,
 p 31 (.pick (.t 26) (.k (.bool true)) (.t 30)),
 p 32 (.mv (.t 31)),
 ⟨(some 33), .mv (.t 0), (some (32, false)), false⟩,
 ⟨(some 34), .lens (.t 33), (some (32, false)), false⟩,
 ⟨(some 35), .bin .gtr (.t 34) (.k (.int .i64 18)), (some (32, false)), false⟩,
 p 36 (.pick (.t 32) (.k (.bool true)) (.t 35))])
 (.cond (.t 36) (.seq (.rg [p 2 (.mv (.k (.int .i64 0)))])
 .ret)
 .skip))
 (.rg [p 37 (.mv (.t 4)),
 p 38 (.bin .mul (.t 37) (.k (.int .i64 10))),
 p 39 (.mv (.t 0)),
 p 40 (.mv (.t 5)),
 p 41 (.ix (.t 39) (.t 40)),
 p 42 (.cvi .i64 (.t 41)),
 p 43 (.bin .add (.t 38) (.t 42)),
 p 44 (.bin .sub (.t 43) (.k (.int .i64 48))),
 p 4 (.mv (.t 44))])))
 (.rg [p 20 (.mv (.t 5)),
 p 21 (.bin .add (.t 20) (.k (.int .i64 1))),
 p 5 (.mv (.t 21))]))))))
 (.seq (.rg [p 45 (.mv (.t 3)),
 p 46 (.mv (.t 4)),
 p 47 (.bin .mul (.t 45) (.t 46)),
 p 2 (.mv (.t 47))])
 .ret)))))),
 [.tmp 2]⟩
def F462 : Fnc := ⟨(.seq (.rg [p 1 (.box (.t 0)),
 p 2 (.mv (.k (.string ⟨#[]⟩)))])
 (.seq (.seq (.rg [p 5 (.ldn 6 (.t 1)),
 p 6 (.call 207 [(.t 5)]),
 p 7 (.not (.t 6))])
 (.cond (.t 7) (.seq (.rg [p 2 (.mv (.k (.string ⟨#[]⟩)))])
 .ret)
 .skip))
 (.seq (.rg [p 3 (.mv (.k (.string ⟨#[114, 101, 97, 100]⟩)))])
 (.seq (.seq (.rg [p 8 (.fa 0 (.t 1)),
 p 9 (.ld (.t 8))])
 (.cond (.t 9) (.rg [p 3 (.mv (.k (.string ⟨#[119, 114, 105, 116, 101]⟩)))])
 .skip))
 (.seq (.rg [⟨(some 10), .mv (.t 3), none, true⟩,
 ⟨(some 11), .bin .add (.t 10) (.k (.string ⟨#[32]⟩)), none, true⟩,
 ⟨(some 12), .bs 1 3 [.string ⟨#[]⟩] [(0, (.k (.string ⟨#[98, 121, 116, 101]⟩))), (1, (.k (.string ⟨#[104, 97, 108, 102]⟩))), (2, (.k (.string ⟨#[119, 111, 114, 100]⟩)))], none, true⟩,
 ⟨(some 13), .fa 2 (.t 1), none, true⟩,
 ⟨(some 14), .ld (.t 13), none, true⟩,
 ⟨(some 15), .ia 1 (.t 12) (.t 14), none, true⟩,
 ⟨(some 16), .ld (.t 15), none, true⟩,
 ⟨(some 17), .bin .add (.t 11) (.t 16), none, true⟩,
 ⟨(some 18), .bin .add (.t 17) (.k (.string ⟨#[32]⟩)), none, true⟩,
 ⟨(some 19), .bs 1 4 [.string ⟨#[]⟩] [(0, (.k (.string ⟨#[111, 110, 101]⟩))), (1, (.k (.string ⟨#[102, 111, 117, 114]⟩))), (2, (.k (.string ⟨#[119, 114, 97, 112]⟩))), (3, (.k (.string ⟨#[101, 105, 103, 104, 116]⟩)))], none, true⟩,
 ⟨(some 20), .fa 3 (.t 1), none, true⟩,
 ⟨(some 21), .ld (.t 20), none, true⟩,
 ⟨(some 22), .ia 1 (.t 19) (.t 21), none, true⟩,
 ⟨(some 23), .ld (.t 22), none, true⟩,
 ⟨(some 24), .bin .add (.t 18) (.t 23), none, true⟩,
 ⟨(some 25), .bin .add (.t 24) (.k (.string ⟨#[32]⟩)), none, true⟩,
 ⟨(some 26), .fa 1 (.t 1), none, true⟩,
 ⟨(some 27), .ld (.t 26), none, true⟩,
 ⟨(some 28), .call 187 [(.t 27)], none, true⟩,
 p 29 (.bin .add (.t 25) (.t 28)),
 p 3 (.mv (.t 29))])
 (.seq (.seq (.rg [p 30 (.fa 4 (.t 1)),
 p 31 (.ld (.t 30))])
 (.cond (.t 31) (.rg [p 32 (.mv (.t 3)),
 p 33 (.bin .add (.t 32) (.k (.string ⟨#[32, 108, 111, 99, 107]⟩))),
 p 3 (.mv (.t 33))])
 .skip))
 (.seq (.seq (.rg [p 4 (.mv (.k (.int .i64 0)))])
 (.block 0 (.loop (.seq (.seq (.rg [p 34 (.mv (.t 4)),
 p 35 (.fa 5 (.t 1)),
 p 36 (.ld (.t 35)),
 p 37 (.len (.t 36)),
 p 38 (.bin .lss (.t 34) (.t 37))])
 (.cond (.t 38) .skip
 (.exit 0)))
 (.seq (.block 1 (.rg [p 41 (.mv (.t 3)),
 p 42 (.bin .add (.t 41) (.k (.string ⟨#[32]⟩))),
 p 43 (.fa 5 (.t 1)),
 p 44 (.ld (.t 43)),
 p 45 (.mv (.t 4)),
 p 46 (.ia 1 (.t 44) (.t 45)),
 p 47 (.ld (.t 46)),
 p 48 (.call 187 [(.t 47)]),
 p 49 (.bin .add (.t 42) (.t 48)),
 p 3 (.mv (.t 49))]))
 (.rg [p 39 (.mv (.t 4)),
 p 40 (.bin .add (.t 39) (.k (.int .i64 1))),
 p 4 (.mv (.t 40))]))))))
 (.seq (.rg [p 50 (.mv (.t 3)),
 p 2 (.mv (.t 50))])
 .ret)))))))),
 [.tmp 2]⟩
def F463 : Fnc := ⟨(.seq (.rg [p 4 (.mv (.k (.slice none 0 0)))])
 (.seq (.rg [p 5 (.mv (.t 0)),
 p 6 (.mv (.t 1)),
 p 7 (.call 470 [(.t 5), (.t 6), (.k (.int .i64 0)), (.k (.int .i64 (-1)))]),
 p 4 (.mv (.t 7))])
 .ret)),
 [.tmp 4]⟩
def F464 : Fnc := ⟨(.seq (.rg [p 4 (.mv (.k (.int .i64 0)))])
 (.seq (.seq (.rg [p 6 (.mv (.t 0)),
 p 7 (.len (.t 6)),
 p 8 (.mv (.k (.int .i64 0)))])
 (.block 0 (.loop (.seq (.rg [p 9 (.bin .lss (.t 8) (.t 7))])
 (.seq (.cond (.t 9) .skip
 (.exit 0))
 (.seq (.block 1 (.seq (.rg [p 10 (.mv (.t 8)),
 p 5 (.mv (.t 10))])
 (.seq (.rg [p 11 (.mv (.t 1)),
 p 12 (.mv (.t 0)),
 p 13 (.mv (.t 5)),
 p 14 (.ia 1 (.t 12) (.t 13)),
 p 15 (.ld (.t 14)),
 p 16 (.bin .eql (.t 11) (.t 15))])
 (.cond (.t 16) (.seq (.rg [p 17 (.mv (.t 5)),
 p 4 (.mv (.t 17))])
 .ret)
 .skip))))
 (.rg [p 18 (.bin .add (.t 8) (.k (.int .i64 1))),
 p 8 (.mv (.t 18))])))))))
 (.seq (.rg [p 4 (.mv (.k (.int .i64 (-1))))])
 .ret))),
 [.tmp 4]⟩
def F465 : Fnc := ⟨(.seq (.rg [p 0 (.mv (.k (.slice none 0 0)))])
 (.seq (.rg [p 1 (.bs 1 3 [.string ⟨#[]⟩] [(0, (.k (.string ⟨#[98, 121, 116, 101]⟩))), (1, (.k (.string ⟨#[104, 97, 108, 102]⟩))), (2, (.k (.string ⟨#[119, 111, 114, 100]⟩)))]),
 p 0 (.mv (.t 1))])
 .ret)),
 [.tmp 0]⟩
def F466 : Fnc := ⟨(.seq (.rg [p 0 (.mv (.k (.slice none 0 0)))])
 (.seq (.rg [p 1 (.bs 1 4 [.string ⟨#[]⟩] [(0, (.k (.string ⟨#[111, 110, 101]⟩))), (1, (.k (.string ⟨#[102, 111, 117, 114]⟩))), (2, (.k (.string ⟨#[119, 114, 97, 112]⟩))), (3, (.k (.string ⟨#[101, 105, 103, 104, 116]⟩)))]),
 p 0 (.mv (.t 1))])
 .ret)),
 [.tmp 0]⟩
def F467 : Fnc := ⟨(.seq (.rg [p 2 (.mv (.k (.slice none 0 0))),
 p 3 (.mv (.k (.bool false)))])
 (.seq (.rg [p 9 (.bs 1 0 [.int .i64 0] []),
 p 4 (.mv (.t 9))])
 (.seq (.seq (.rg [p 10 (.mv (.t 0)),
 p 11 (.len (.t 10)),
 p 12 (.mv (.k (.int .i64 0)))])
 (.block 0 (.loop (.seq (.rg [p 13 (.bin .lss (.t 12) (.t 11))])
 (.seq (.cond (.t 13) .skip
 (.exit 0))
 (.seq (.block 1 (.seq (.rg [p 14 (.ia 1 (.t 10) (.t 12)),
 p 15 (.ld (.t 14)),
 p 6 (.mv (.t 15))])
 (.seq (.rg [p 17 (.mv (.t 6)),
 p 18 (.call 408 [(.t 17), (.k (.int .i64 18))]),
 p 16 (.mv (.t 18)),
 p 19 (.ext 0 (.t 16)),
 p 20 (.ext 1 (.t 16)),
 p 7 (.mv (.t 19)),
 p 8 (.mv (.t 20))])
 (.seq (.seq (.rg [p 21 (.mv (.t 8)),
 p 22 (.not (.t 21))])
 (.cond (.t 22) (.seq (.rg [p 2 (.mv (.k (.slice none 0 0))),
 p 3 (.mv (.k (.bool false)))])
 .ret)
 .skip))
 (.rg [p 23 (.mv (.t 4)),
 p 24 (.mv (.t 7)),
 p 25 (.bs 1 1 [.int .i64 0] [(0, (.t 24))]),
 p 26 (.app 1 8 (.t 23) (.t 25)),
 p 4 (.mv (.t 26))])))))
 (.rg [p 27 (.bin .add (.t 12) (.k (.int .i64 1))),
 p 12 (.mv (.t 27))])))))))
 (.seq (.rg [p 28 (.mv (.t 4)),
 p 2 (.mv (.t 28)),
 p 3 (.mv (.k (.bool true)))])
 .ret)))),
 [.tmp 2, .tmp 3]⟩
def F468 : Fnc := ⟨(.seq (.rg [p 2 (.mv (.k (.string ⟨#[]⟩)))])
 (.seq (.seq (.rg [p 3 (.mv (.t 0))])
 (.cond (.t 3) (.seq (.rg [p 2 (.mv (.k (.string ⟨#[119, 114, 105, 116, 101]⟩)))])
 .ret)
 .skip))
 (.seq (.rg [p 2 (.mv (.k (.string ⟨#[114, 101, 97, 100]⟩)))])
 .ret))),
 [.tmp 2]⟩
def F470 : Fnc := ⟨(.seq (.rg [p 8 (.mv (.k (.slice none 0 0)))])
 (.seq (.seq (.rg [p 12 (.mv (.t 3)),
 p 13 (.bin .eql (.t 12) (.k (.int .i64 0)))])
 (.cond (.t 13) (.seq (.rg [p 8 (.mv (.k (.slice none 0 0)))])
 .ret)
 .skip))
 (.seq (.seq (.rg [p 14 (.mv (.t 1)),
 p 15 (.bin .eql (.t 14) (.k (.string ⟨#[]⟩)))])
 (.cond (.t 15) (.seq (.rg [p 16 (.mv (.t 0)),
 p 17 (.mv (.t 3)),
 p 18 (.call 471 [(.t 16), (.t 17)]),
 p 8 (.mv (.t 18))])
 .ret)
 .skip))
 (.seq (.seq (.rg [p 19 (.mv (.t 3)),
 p 20 (.bin .lss (.t 19) (.k (.int .i64 0)))])
 (.cond (.t 20) (.rg [p 21 (.mv (.t 0)),
 p 22 (.mv (.t 1)),
 p 23 (.call 472 [(.t 21), (.t 22)]),
 p 24 (.bin .add (.t 23) (.k (.int .i64 1))),
 p 3 (.mv (.t 24))])
 .skip))
 (.seq (.rg [p 25 (.mv (.t 3)),
 p 26 (.mv (.t 0)),
 p 27 (.lens (.t 26)),
 p 28 (.bin .add (.t 27) (.k (.int .i64 1))),
 p 29 (.mn [(.t 25), (.t 28)]),
 p 3 (.mv (.t 29))])
 (.seq (.rg [p 30 (.mv (.t 3)),
 p 31 (.mk 1 16 [.string ⟨#[]⟩] (.t 30) (.t 30)),
 p 9 (.mv (.t 31))])
 (.seq (.rg [p 32 (.mv (.t 3)),
 p 33 (.bin .sub (.t 32) (.k (.int .i64 1))),
 p 3 (.mv (.t 33))])
 (.seq (.rg [p 10 (.mv (.k (.int .i64 0)))])
 (.seq (.block 0 (.loop (.seq (.seq (.rg [p 34 (.mv (.t 10)),
 p 35 (.mv (.t 3)),
 p 36 (.bin .lss (.t 34) (.t 35))])
 (.cond (.t 36) .skip
 (.exit 0)))
 (.block 1 (.seq (.rg [p 37 (.mv (.t 0)),
 p 38 (.mv (.t 1)),
 p 39 (.call 473 [(.t 37), (.t 38)]),
 p 11 (.mv (.t 39))])
 (.seq (.seq (.rg [p 40 (.mv (.t 11)),
 p 41 (.bin .lss (.t 40) (.k (.int .i64 0)))])
 (.cond (.t 41) (.exit 0)
 .skip))
 (.seq (.rg [p 42 (.mv (.t 9)),
 p 43 (.mv (.t 10)),
 p 44 (.mv (.t 0)),
 p 45 (.mv (.t 11)),
 p 46 (.mv (.t 2)),
 p 47 (.bin .add (.t 45) (.t 46)),
 p 48 (.sls (.t 44) none (some (.t 47))),
 p 49 (.ia 1 (.t 42) (.t 43)),
 ⟨none, .st (.t 49) (.t 48), none, false⟩])
 (.seq (.rg [p 50 (.mv (.t 0)),
 p 51 (.mv (.t 11)),
 p 52 (.mv (.t 1)),
 p 53 (.lens (.t 52)),
 p 54 (.bin .add (.t 51) (.t 53)),
 p 55 (.sls (.t 50) (some (.t 54)) none),
 p 0 (.mv (.t 55))])
 (.rg [p 56 (.mv (.t 10)),
 p 57 (.bin .add (.t 56) (.k (.int .i64 1))),
 p 10 (.mv (.t 57))])))))))))
 (.seq (.rg [p 58 (.mv (.t 9)),
 p 59 (.mv (.t 10)),
 p 60 (.mv (.t 0)),
 p 61 (.ia 1 (.t 58) (.t 59)),
 ⟨none, .st (.t 61) (.t 60), none, false⟩])
 (.seq (.rg [p 62 (.mv (.t 9)),
 p 63 (.mv (.t 10)),
 p 64 (.bin .add (.t 63) (.k (.int .i64 1))),
 p 65 (.sl 1 (.t 62) none (some (.t 64)) none),
 p 8 (.mv (.t 65))])
 .ret))))))))))),
 [.tmp 8]⟩
end Go.Proofs.YtoppcdecolponaaGreatDoor.AL
namespace Go.Proofs.YtoppcdecolponaaGreatDoor.AL
open Go
def prgT : List (Nat × Fnc) := [(21, F21),
 (22, F22),
 (29, F29),
 (30, F30),
 (33, F33),
 (38, F38),
 (51, F51),
 (60, F60),
 (66, F66),
 (67, F67),
 (84, F84),
 (92, F92),
 (103, F103),
 (132, F132),
 (138, F138),
 (172, F172),
 (173, F173),
 (179, F179),
 (180, F180),
 (183, F183),
 (187, F187),
 (201, F201),
 (205, F205),
 (207, F207),
 (230, F230),
 (257, F257),
 (266, F266),
 (329, F329),
 (337, F337),
 (380, F380),
 (451, F451),
 (453, F453),
 (454, F454),
 (455, F455),
 (457, F457),
 (459, F459),
 (460, F460),
 (461, F461),
 (462, F462),
 (463, F463),
 (464, F464),
 (465, F465),
 (466, F466),
 (467, F467),
 (468, F468),
 (470, F470)]
def prg : Prg := fun f => prgT.lookup f
theorem g21 : prg 21 = some F21 := by kernel_rfl
theorem g22 : prg 22 = some F22 := by kernel_rfl
theorem g29 : prg 29 = some F29 := by kernel_rfl
theorem g30 : prg 30 = some F30 := by kernel_rfl
theorem g33 : prg 33 = some F33 := by kernel_rfl
theorem g38 : prg 38 = some F38 := by kernel_rfl
theorem g51 : prg 51 = some F51 := by kernel_rfl
theorem g60 : prg 60 = some F60 := by kernel_rfl
theorem g66 : prg 66 = some F66 := by kernel_rfl
theorem g67 : prg 67 = some F67 := by kernel_rfl
theorem g84 : prg 84 = some F84 := by kernel_rfl
theorem g92 : prg 92 = some F92 := by kernel_rfl
theorem g103 : prg 103 = some F103 := by kernel_rfl
theorem g132 : prg 132 = some F132 := by kernel_rfl
theorem g138 : prg 138 = some F138 := by kernel_rfl
theorem g172 : prg 172 = some F172 := by kernel_rfl
theorem g173 : prg 173 = some F173 := by kernel_rfl
theorem g179 : prg 179 = some F179 := by kernel_rfl
theorem g180 : prg 180 = some F180 := by kernel_rfl
theorem g183 : prg 183 = some F183 := by kernel_rfl
theorem g187 : prg 187 = some F187 := by kernel_rfl
theorem g201 : prg 201 = some F201 := by kernel_rfl
theorem g205 : prg 205 = some F205 := by kernel_rfl
theorem g207 : prg 207 = some F207 := by kernel_rfl
theorem g230 : prg 230 = some F230 := by kernel_rfl
theorem g257 : prg 257 = some F257 := by kernel_rfl
theorem g266 : prg 266 = some F266 := by kernel_rfl
theorem g329 : prg 329 = some F329 := by kernel_rfl
theorem g337 : prg 337 = some F337 := by kernel_rfl
theorem g380 : prg 380 = some F380 := by kernel_rfl
theorem g451 : prg 451 = some F451 := by kernel_rfl
theorem g453 : prg 453 = some F453 := by kernel_rfl
theorem g454 : prg 454 = some F454 := by kernel_rfl
theorem g455 : prg 455 = some F455 := by kernel_rfl
theorem g457 : prg 457 = some F457 := by kernel_rfl
theorem g459 : prg 459 = some F459 := by kernel_rfl
theorem g460 : prg 460 = some F460 := by kernel_rfl
theorem g461 : prg 461 = some F461 := by kernel_rfl
theorem g462 : prg 462 = some F462 := by kernel_rfl
theorem g463 : prg 463 = some F463 := by kernel_rfl
theorem g464 : prg 464 = some F464 := by kernel_rfl
theorem g465 : prg 465 = some F465 := by kernel_rfl
theorem g466 : prg 466 = some F466 := by kernel_rfl
theorem g467 : prg 467 = some F467 := by kernel_rfl
theorem g468 : prg 468 = some F468 := by kernel_rfl
theorem g470 : prg 470 = some F470 := by kernel_rfl
theorem prg_ok : prgT.all (fun p => p.2.body.ok) = true := by kernel_rfl
end Go.Proofs.YtoppcdecolponaaGreatDoor.AL
namespace Go.Proofs.YtoppcdecolponaaGreatDoor.AL
open Go
set_option linter.unusedVariables false
set_option linter.unusedSimpArgs false
set_option maxRecDepth 4096
theorem c_230 (a b c : Int) : CV prg 230 [.w (.int .i64 a), .w (.int .i64 b), .w (.int .i64 c)] (fun res => res = .w (.bool (inB a b c))) := by
 refine cv_in g230 (Eb [0, 1, 2] rfl (Ef (Eg (Ea (Ee rfl) (Ed (Ec (Eb [0, 1, 2] rfl (Ef (Eg (Ea (Ee rfl) (Ea (Ee rfl) ?_)))))))))))
 refine Ea (o_geq rfl rfl) (Ea (Ee rfl) ?_)
 first | refine s_gDT rfl ?_ ?_ | refine s_gB rfl ?_ ?_
 intro h1
 try rw [nnp] at h1
 refine Ea (Ee rfl) (s_gT rfl (Ea (Ee rfl) (s_gT rfl (Ea (o_leq rfl rfl) (Ea (Eu rfl rfl) (Ea (Ee rfl) (Ed (Ec (Eb [6] rfl (Ek (Eo rfl rfl ?_)))))))))))
 rotate_left
 intro h1
 try rw [nnp] at h1
 refine Ei rfl (Ei rfl (Ei rfl (Ea (o_pickF rfl rfl) (Ea (Ee rfl) (Ed (Ec (Eb [6] rfl (Ek (Eo rfl rfl ?_)))))))))
 rotate_left
 all_goals
  simp_all [inB] <;> omega
theorem c_103 (a b c : Int) : CV prg 103 [.w (.int .i64 a), .w (.int .i64 b), .w (.int .i64 c)] (fun res => res = .w (.bool (inB a b c))) := by
 refine cv_in g103 (Eb [0, 1, 2] rfl (Ef (Eg (Ea (Ee rfl) (Ed (Ec (Eb [0, 1, 2] rfl (Ef (Eg (Ea (Ee rfl) (Ea (Ee rfl) ?_)))))))))))
 refine Ea (o_leq rfl rfl) (Ea (Ee rfl) ?_)
 first | refine s_gDT rfl ?_ ?_ | refine s_gB rfl ?_ ?_
 intro h1
 try rw [nnp] at h1
 refine Ea (Ee rfl) (s_gT rfl (Ea (Ee rfl) (s_gT rfl (Ea (o_leq rfl rfl) (Ea (Eu rfl rfl) (Ea (Ee rfl) (Ed (Ec (Eb [6] rfl (Ek (Eo rfl rfl ?_)))))))))))
 rotate_left
 intro h1
 try rw [nnp] at h1
 refine Ei rfl (Ei rfl (Ei rfl (Ea (o_pickF rfl rfl) (Ea (Ee rfl) (Ed (Ec (Eb [6] rfl (Ek (Eo rfl rfl ?_)))))))))
 rotate_left
 all_goals
  simp_all [inB] <;> omega
def Conf.small (x : Conf) : Prop := x.masters.length ≤ 1048576
def Conf.sz (x : Conf) : Nat := x.masters.length
theorem Conf.small_of {x : Conf} (h : x.sz ≤ 1048576) : x.small := by unfold Conf.small; unfold Conf.sz at h; omega
def Done.beq (x y : Done) : Bool := ((x.cycle == y.cycle) && ((x.who == y.who) && ((x.write == y.write) && ((x.addr == y.addr) && ((x.size == y.size) && ((x.value == y.value) && ((x.resp == y.resp) && true)))))))
theorem Done.of_beq {x y : Done} (h : Done.beq x y = true) : x = y := by
 cases x; cases y; simp_all [Done.beq]
theorem Done.no_beq {x y : Done} (h : Done.beq x y = false) : x ≠ y := by
 rintro rfl; simp [Done.beq] at h
theorem Done.beq_dec (x y : Done) : Done.beq x y = decide (x = y) := by
 cases h : Done.beq x y
 · exact (decide_eq_false (Done.no_beq h)).symm
 · exact (decide_eq_true (Done.of_beq h)).symm
def folOk (p : Done × Done) : Bool := (p.1.write == p.2.write) && decide (p.1.addr = p.2.addr) && decide (p.1.size = p.2.size) && !(p.1.write && decide (p.1.resp = 0) && decide (p.1.value ≠ p.2.value))
def follows (l w : List Done) : Bool := decide (l.length ≤ w.length) && (l.zip w).all folOk
def Req.small (x : Req) : Prop := x.data.length ≤ 1048576
def Req.sz (x : Req) : Nat := x.data.length
theorem Req.small_of {x : Req} (h : x.sz ≤ 1048576) : x.small := by unfold Req.small; unfold Req.sz at h; omega
def Mst.small (x : Mst) : Prop := x.queue.length ≤ 1048576 ∧ (∀ y, y ∈ x.queue → Req.small y)
def Mst.sz (x : Mst) : Nat := x.queue.length + sumL Req.sz x.queue
theorem Mst.small_of {x : Mst} (h : x.sz ≤ 1048576) : x.small := ⟨by unfold Mst.sz at h; omega, fun y hy => Req.small_of (by have := sumL_mem Req.sz hy; unfold Mst.sz at h; omega)⟩
theorem c_132 (xs ys : List Int) (hl : xs.length ≤ 1048576) : CV prg 132 [.sl 1 (xs.map iR), .sl 1 (ys.map iR)] (fun res => res = .w (.bool (decide (xs = ys)))) := by
 refine cv_in g132 (Eb [0, 1] rfl (Ef (Eg (Ea (Ee rfl) (Ed (Ec (Eb [0, 1] rfl (Ef (Ef (Eg (Ea (Ee rfl) ?_)))))))))))
 first | refine Ea (o_lenM rfl) ?_ | refine Ea (o_len rfl) ?_
 refine Ea (Ee rfl) ?_
 first | refine Ea (o_lenM rfl) ?_ | refine Ea (o_len rfl) ?_
 refine Ea (o_neq rfl rfl) (Ed (Ec (Eb [0, 1, 10] rfl ?_)))
 first | refine Em rfl ?_ ?_ | refine Ej rfl ?_ ?_
 intro h1
 try rw [nnp] at h1
 refine Ef (Eg (Ea (Ee rfl) (Ed (Ec (Eb [4] rfl (Ek (En (Eo rfl rfl ?_))))))))
 rotate_left
 intro h1
 try rw [nnp] at h1
 refine Ep (Ec (Eb [0, 1] rfl (Ef (Ef (Eg (Ea (Ee rfl) (Ed (Ec (Eb [0, 1, 5] rfl (S_block (S_loop0 (ι := Nat) (fun i => i ≤ xs.length ∧ xs.take i = ys.take i ∧ xs.length = ys.length) (fun i => [(5, .w (.int .i64 (i : Int)))]) (fun i => xs.length - i) 0 ⟨by simp, by simp, by omega⟩ rfl ⟨rfl, trivial⟩ (fun _ _ => rfl) rfl ?_)))))))))))
 intro i hi
 refine Eb [0, 1, 5] rfl (Ef (Ef (Eg (Ea (Ee rfl) (Ea (Ee rfl) ?_)))))
 first | refine Ea (o_lenM rfl) ?_ | refine Ea (o_len rfl) ?_
 refine Ea (o_lss rfl rfl) (Ed (Ec (Eb [0, 1, 5, 14] rfl ?_)))
 first | refine Em rfl ?_ ?_ | refine Ej rfl ?_ ?_
 intro h2
 try rw [nnp] at h2
 refine Ep (Ec (Eb [0, 1, 5] rfl (Ef (S_block (Ef (Eg (Ea (Ee rfl) (Ea (Ee rfl) (s_iaM rfl rfl (by omega) ?_)))))))))
 intro y3 e3
 try simp only [Int.toNat_natCast, Int.toNat_zero] at e3
 refine Ea (o_ld rfl rfl) (Ea (Ee rfl) (Ea (Ee rfl) (s_iaM rfl rfl (by omega) ?_)))
 intro y4 e4
 try simp only [Int.toNat_natCast, Int.toNat_zero] at e4
 refine Ea (o_ld rfl rfl) (Ea (o_neq rfl rfl) (Ed (Ec (Eb [0, 1, 5, 25] rfl ?_))))
 first | refine Em rfl ?_ ?_ | refine Ej rfl ?_ ?_
 intro h5
 try rw [nnp] at h5
 refine Ef (Eg (Ea (Ee rfl) (Ed (Ec (Eb [4] rfl (Ek (q_blkR (En (q_loopR (q_blkR (En ?_)))))))))))
 refine Eo rfl rfl ?_
 rotate_left
 intro h5
 try rw [nnp] at h5
 refine Ep (q_blkN (Ec (Eb [0, 1, 5] rfl (Eg (Ea (Ee rfl) ?_)))))
 first | refine Ea (o_addn rfl rfl (by omega)) ?_ | refine Ea (o_add rfl rfl) ?_
 refine Ea (Ee rfl) (Ed (q_loopN ?_))
 · refine ⟨i + 1, ⟨by omega, eq_take (by assumption) (by assumption) hi.2.1 ?_, hi.2.2⟩, by omega, hasOf ⟨rfl, trivial⟩ rfl⟩
   assumption
 intro h2
 try rw [nnp] at h2
 refine s_exit (q_seqX (q_loopX (q_blkH (Ec (Eb [] rfl (Ef (Eg (Ea (Ee rfl) (Ed (Ec (Eb [4] rfl ?_)))))))))))
 refine Ek (Eo rfl rfl ?_)
 rotate_left
 all_goals
  first | exact (decide_eq_false (ne_at (by assumption) (by assumption) (by assumption))).symm | exact (decide_eq_true (eq_end hi.2.1 (by omega) hi.2.2)).symm | exact (decide_eq_false (fun e => by subst e; simp_all)).symm
theorem c_138 (x y : Req) (hs : x.small) : CV prg 138 [.agg x.r, .agg y.r] (fun res => res = .w (.bool (decide (x = y)))) := by
 refine cv_in g138 (Eb [0, 1] rfl (Ef (Eg (Ea (o_box rfl rfl rfl) (Ea (o_box rfl rfl rfl) (Ea (Ee rfl) (Ed (Ec (Eb [2, 3] rfl (Ef (Ef ?_)))))))))))
 refine Eg (Ea (o_faC rfl) (Ea (o_ldC rfl rfl rfl) (Ea (o_faC rfl) (Ea (o_ldC rfl rfl rfl) (Ea (o_eqb rfl rfl) (Ed (Ec (Eb [2, 3, 9] rfl ?_))))))))
 first | refine s_condNB rfl ?_ ?_ | refine Ej rfl ?_ ?_
 intro h1
 try rw [nnp] at h1
 refine Ef (Eg (Ea (Ee rfl) (Ed (Ec (Eb [4] rfl (Ek (En (Eo rfl rfl ?_))))))))
 rotate_left
 intro h1
 try rw [nnp] at h1
 refine Ep (Ec (Eb [2, 3] rfl (Ef (Ef (Eg (Ea (o_faC rfl) (Ea (o_ldC rfl rfl rfl) (Ea (o_faC rfl) (Ea (o_ldC rfl rfl rfl) (Ea (o_neq rfl rfl) (Ed ?_)))))))))))
 refine Ec (Eb [2, 3, 14] rfl ?_)
 first | refine Em rfl ?_ ?_ | refine Ej rfl ?_ ?_
 intro h2
 try rw [nnp] at h2
 refine Ef (Eg (Ea (Ee rfl) (Ed (Ec (Eb [4] rfl (Ek (En (Eo rfl rfl ?_))))))))
 rotate_left
 intro h2
 try rw [nnp] at h2
 refine Ep (Ec (Eb [2, 3] rfl (Ef (Ef (Eg (Ea (o_faC rfl) (Ea (o_ldC rfl rfl rfl) (Ea (o_faC rfl) (Ea (o_ldC rfl rfl rfl) (Ea (o_neq rfl rfl) (Ed ?_)))))))))))
 refine Ec (Eb [2, 3, 19] rfl ?_)
 first | refine Em rfl ?_ ?_ | refine Ej rfl ?_ ?_
 intro h3
 try rw [nnp] at h3
 refine Ef (Eg (Ea (Ee rfl) (Ed (Ec (Eb [4] rfl (Ek (En (Eo rfl rfl ?_))))))))
 rotate_left
 intro h3
 try rw [nnp] at h3
 refine Ep (Ec (Eb [2, 3] rfl (Ef (Ef (Eg (Ea (o_faC rfl) (Ea (o_ldC rfl rfl rfl) (Ea (o_faC rfl) (Ea (o_ldC rfl rfl rfl) (Ea (o_neq rfl rfl) (Ed ?_)))))))))))
 refine Ec (Eb [2, 3, 24] rfl ?_)
 first | refine Em rfl ?_ ?_ | refine Ej rfl ?_ ?_
 intro h4
 try rw [nnp] at h4
 refine Ef (Eg (Ea (Ee rfl) (Ed (Ec (Eb [4] rfl (Ek (En (Eo rfl rfl ?_))))))))
 rotate_left
 intro h4
 try rw [nnp] at h4
 refine Ep (Ec (Eb [2, 3] rfl (Ef (Ef (Eg (Ea (o_faC rfl) (Ea (o_ldC rfl rfl rfl) (Ea (o_faC rfl) (Ea (o_ldC rfl rfl rfl) (Ea (o_eqb rfl rfl) (Ed ?_)))))))))))
 refine Ec (Eb [2, 3, 29] rfl ?_)
 first | refine s_condNB rfl ?_ ?_ | refine Ej rfl ?_ ?_
 intro h5
 try rw [nnp] at h5
 refine Ef (Eg (Ea (Ee rfl) (Ed (Ec (Eb [4] rfl (Ek (En (Eo rfl rfl ?_))))))))
 rotate_left
 intro h5
 try rw [nnp] at h5
 refine Ep (Ec (Eb [2, 3] rfl (Ef (Ef (Eg (Ea (o_faC rfl) (Ea (o_ldC rfl rfl rfl) (Ea (o_faC rfl) (Ea (o_ldC rfl rfl rfl) ?_)))))))))
 first | refine Er rfl rfl (c_132 _ _ hs) ?_ | refine s_callL rfl rfl (by simp) (c_132 _ _ hs) rfl ?_
 refine Ea (o_not rfl) (Ed (Ec (Eb [35] rfl ?_)))
 first | refine Em rfl ?_ ?_ | refine s_condN rfl ?_ ?_ | refine s_condNB rfl ?_ ?_ | refine Ej rfl ?_ ?_
 intro h6
 try rw [nnp] at h6
 refine Ef (Eg (Ea (Ee rfl) (Ed (Ec (Eb [4] rfl (Ek (En (Eo rfl rfl ?_))))))))
 rotate_left
 intro h6
 try rw [nnp] at h6
 refine Ep (Ec (Eb [] rfl (Ef (Eg (Ea (Ee rfl) (Ed (Ec (Eb [4] rfl (Ek (Eo rfl rfl ?_))))))))))
 rotate_left
 all_goals
  cases x; cases y; simp_all
def roundStep (c : Conf) (s : Int) (i : Nat) : Int := IntKind.wrap .i64 (s + IntKind.wrap .i64 (c.turn i * c.slot))
def Conf.round (c : Conf) : Int := if c.ok then (List.range c.masters.length).foldl (roundStep c) (IntKind.wrap .i64 (c.cost * c.masters.length)) else 0
def Conf.bound (c : Conf) (beats : Int) : Int := if c.ok && inB beats 1 8 then
 IntKind.wrap .i64 (IntKind.wrap .i64 (IntKind.wrap .i64 (2 * IntKind.wrap .i64 (IntKind.wrap .i64 (beats * IntKind.wrap .i64 (IntKind.wrap .i64 (IntKind.wrap .i64 (2 * c.round) + c.maxSplit) + c.cost)) + c.caps)) + IntKind.wrap .i64 (2 * c.slot)) + 10) else 0
def Wrr.back (w : Wrr) (c : Conf) (who : Int) : Wrr := if w.ok c && decide (who = w.pos) then { w with credit := min (IntKind.wrap .i64 (w.credit + 1)) (c.turn who) } else w
def Post.small (x : Post) : Prop := x.req.small
def Post.sz (x : Post) : Nat := x.req.sz
theorem Post.small_of {x : Post} (h : x.sz ≤ 1048576) : x.small := Req.small_of (by unfold Post.sz at h; omega)
def Script.small (x : Script) : Prop := x.posts.length ≤ 1048576 ∧ (∀ y, y ∈ x.posts → Post.small y) ∧ x.waits.length ≤ 1048576 ∧ x.says.length ≤ 1048576
def Script.sz (x : Script) : Nat := x.posts.length + sumL Post.sz x.posts + x.waits.length + x.says.length
theorem Script.small_of {x : Script} (h : x.sz ≤ 1048576) : x.small := ⟨by unfold Script.sz at h; omega, fun y hy => Post.small_of (by have := sumL_mem Post.sz hy; unfold Script.sz at h; omega), by unfold Script.sz at h; omega, by unfold Script.sz at h; omega⟩
def Dev.small (x : Dev) : Prop := x.regs.length ≤ 1048576 ∧ x.fifo.length ≤ 1048576
def Dev.sz (x : Dev) : Nat := x.regs.length + x.fifo.length
theorem Dev.small_of {x : Dev} (h : x.sz ≤ 1048576) : x.small := ⟨by unfold Dev.sz at h; omega, by unfold Dev.sz at h; omega⟩
def Model.small (x : Model) : Prop := x.ram.length ≤ 1048576 ∧ x.dev.small
def Model.sz (x : Model) : Nat := x.ram.length + x.dev.sz
theorem Model.small_of {x : Model} (h : x.sz ≤ 1048576) : x.small := ⟨by unfold Model.sz at h; omega, Dev.small_of (by unfold Model.sz at h; omega)⟩
def Bus.small (x : Bus) : Prop := x.conf.small ∧ x.ms.length ≤ 1048576 ∧ (∀ y, y ∈ x.ms → Mst.small y) ∧ x.buckets.length ≤ 1048576 ∧ x.splits.length ≤ 1048576 ∧ x.model.small ∧ x.log.length ≤ 1048576
def Bus.sz (x : Bus) : Nat := x.conf.sz + x.ms.length + sumL Mst.sz x.ms + x.buckets.length + x.splits.length + x.model.sz + x.log.length
theorem Bus.small_of {x : Bus} (h : x.sz ≤ 1048576) : x.small := ⟨Conf.small_of (by unfold Bus.sz at h; omega), by unfold Bus.sz at h; omega, fun y hy => Mst.small_of (by have := sumL_mem Mst.sz hy; unfold Bus.sz at h; omega), by unfold Bus.sz at h; omega, by unfold Bus.sz at h; omega, Model.small_of (by unfold Bus.sz at h; omega), by unfold Bus.sz at h; omega⟩
def MConf.beq (x y : MConf) : Bool := ((x.weight == y.weight) && ((x.prio == y.prio) && ((x.every == y.every) && ((x.cap == y.cap) && true))))
theorem MConf.of_beq {x y : MConf} (h : MConf.beq x y = true) : x = y := by
 cases x; cases y; simp_all [MConf.beq]
theorem MConf.no_beq {x y : MConf} (h : MConf.beq x y = false) : x ≠ y := by
 rintro rfl; simp [MConf.beq] at h
theorem MConf.beq_dec (x y : MConf) : MConf.beq x y = decide (x = y) := by
 cases h : MConf.beq x y
 · exact (decide_eq_false (MConf.no_beq h)).symm
 · exact (decide_eq_true (MConf.of_beq h)).symm
def Bucket.beq (x y : Bucket) : Bool := ((x.tokens == y.tokens) && ((x.count == y.count) && true))
theorem Bucket.of_beq {x y : Bucket} (h : Bucket.beq x y = true) : x = y := by
 cases x; cases y; simp_all [Bucket.beq]
theorem Bucket.no_beq {x y : Bucket} (h : Bucket.beq x y = false) : x ≠ y := by
 rintro rfl; simp [Bucket.beq] at h
theorem Bucket.beq_dec (x y : Bucket) : Bucket.beq x y = decide (x = y) := by
 cases h : Bucket.beq x y
 · exact (decide_eq_false (Bucket.no_beq h)).symm
 · exact (decide_eq_true (Bucket.of_beq h)).symm
def Beat.beq (x y : Beat) : Bool := ((x.live == y.live) && ((x.who == y.who) && ((x.num == y.num) && ((x.first == y.first) && ((x.via == y.via) && ((x.left == y.left) && ((x.resp == y.resp) && ((x.second == y.second) && true))))))))
theorem Beat.of_beq {x y : Beat} (h : Beat.beq x y = true) : x = y := by
 cases x; cases y; simp_all [Beat.beq]
theorem Beat.no_beq {x y : Beat} (h : Beat.beq x y = false) : x ≠ y := by
 rintro rfl; simp [Beat.beq] at h
theorem Beat.beq_dec (x y : Beat) : Beat.beq x y = decide (x = y) := by
 cases h : Beat.beq x y
 · exact (decide_eq_false (Beat.no_beq h)).symm
 · exact (decide_eq_true (Beat.of_beq h)).symm
def Wrr.beq (x y : Wrr) : Bool := ((x.pos == y.pos) && ((x.credit == y.credit) && true))
theorem Wrr.of_beq {x y : Wrr} (h : Wrr.beq x y = true) : x = y := by
 cases x; cases y; simp_all [Wrr.beq]
theorem Wrr.no_beq {x y : Wrr} (h : Wrr.beq x y = false) : x ≠ y := by
 rintro rfl; simp [Wrr.beq] at h
theorem Wrr.beq_dec (x y : Wrr) : Wrr.beq x y = decide (x = y) := by
 cases h : Wrr.beq x y
 · exact (decide_eq_false (Wrr.no_beq h)).symm
 · exact (decide_eq_true (Wrr.of_beq h)).symm
structure Bus.parts (x y : Bus) : Prop where
 conf : x.conf = y.conf
 now : x.now = y.now
 ms : x.ms = y.ms
 arb : x.arb = y.arb
 buckets : x.buckets = y.buckets
 splits : x.splits = y.splits
 holder : x.holder = y.holder
 kept : x.kept = y.kept
 last : x.last = y.last
 addr : x.addr = y.addr
 data : x.data = y.data
 model : x.model = y.model
 picks : x.picks = y.picks
 log : x.log = y.log
def bytes (size : Int) : Int := if inB size 0 2 then (if size = 0 then 1 else if size = 1 then 2 else 4) else 0
def limit (size : Int) : Int := if inB size 0 2 then (if size = 0 then 256 else if size = 1 then 65536 else 4294967296) else 0
def beatsN (b : Int) : Int := if b = 0 then 1 else if b = 3 then 8 else 4
def beats (b : Int) : Int := if inB b 0 3 then beatsN b else 0
theorem in3 {x : Int} (h : inB x 0 2 = true) : x = 0 ∨ x = 1 ∨ x = 2 := by have := inB_t h; omega
theorem in4 {x : Int} (h : inB x 0 3 = true) : x = 0 ∨ x = 1 ∨ x = 2 ∨ x = 3 := by have := inB_t h; omega
theorem bytes_leaf {x : Int} (h : inB x 0 2 = true) : IntKind.wrap .i64 (1 * 2 ^ (min x.toNat IntKind.i64.bits)) = bytes x := by
 unfold bytes; rw [if_pos h]; rcases in3 h with rfl | rfl | rfl <;> decide
theorem bytes_pos {x : Int} (h : inB x 0 2 = true) : bytes x = 1 ∨ bytes x = 2 ∨ bytes x = 4 := by
 unfold bytes; rw [if_pos h]; rcases in3 h with rfl | rfl | rfl <;> simp
theorem bytes_no {x : Int} (h : inB x 0 2 = false) : bytes x = 0 := by unfold bytes; rw [if_neg (by simp [h])]
theorem bytes_z {x : Int} : bytes x = 0 ∧ inB x 0 2 = false ∨ inB x 0 2 = true ∧ (bytes x = 1 ∨ bytes x = 2 ∨ bytes x = 4) := by
 cases h : inB x 0 2 with
 | false => exact .inl ⟨bytes_no h, rfl⟩
 | true => exact .inr ⟨rfl, bytes_pos h⟩
theorem limit_leaf {x : Int} (h : ¬ bytes x = 0) : IntKind.wrap .i64 (1 * 2 ^ (min (IntKind.wrap .i64 (8 * bytes x)).toNat IntKind.i64.bits)) = limit x := by
 rcases bytes_z (x := x) with ⟨h1, _⟩ | ⟨h1, _⟩
 · exact absurd h1 h
 · unfold limit bytes; rw [if_pos h1, if_pos h1]; rcases in3 h1 with rfl | rfl | rfl <;> decide
theorem limit_no {x : Int} (h : bytes x = 0) : limit x = 0 := by
 rcases bytes_z (x := x) with ⟨_, h1⟩ | ⟨_, h1⟩
 · unfold limit; rw [if_neg (by simp [h1])]
 · omega
theorem limit_bd (x : Int) : 0 ≤ limit x ∧ limit x ≤ 4294967296 := by
 unfold limit
 split
 · rename_i h; rcases in3 h with rfl | rfl | rfl <;> simp
 · simp
theorem beats_row {b : Int} {t : IntKind} (h : inB b 0 3 = true) : [[V.w (.int .i64 1)], [V.w (.int .i64 4)], [V.w (.int .i64 4)], [V.w (.int .i64 8)]][b.toNat]? = some [V.w (.int .i64 (beatsN b))] := by
 rcases in4 h with rfl | rfl | rfl | rfl <;> rfl
theorem beats_bd (b : Int) : 0 ≤ beats b ∧ beats b ≤ 8 := by
 unfold beats
 split
 · rename_i h; rcases in4 h with rfl | rfl | rfl | rfl <;> simp [beatsN]
 · simp
def aligned (a size : Int) : Bool := inB size 0 2 && decide (0 ≤ a) && decide (a.tmod (bytes size) = 0)
def nextA (a size burst : Int) : Int :=
 if aligned a size && decide (a < 512) && decide (beats burst ≠ 0) then
  (if burst = 2 ∧ (a + bytes size).tmod (4 * bytes size) = 0 then a + bytes size - 4 * bytes size else a + bytes size)
 else -1
theorem c_33 (size : Int) : CV prg 33 [.w (.int .i64 size)] (fun res => res = .w (.int .i64 (bytes size))) := by
 refine cv_in g33 (Eb [0] rfl (Ef (Eg (Ea (Ee rfl) (Ed (Ec (Eb [0] rfl (Ef (Ef (Eg (Ea (Ee rfl) ?_)))))))))))
 refine Er rfl rfl (c_103 ..) (Ea (o_not rfl) (Ed (Ec (Eb [0, 5] rfl ?_))))
 first | refine Em rfl ?_ ?_ | refine s_condN rfl ?_ ?_ | refine s_condNB rfl ?_ ?_ | refine Ej rfl ?_ ?_
 intro h1
 try rw [nnp] at h1
 try have h1' := inB_t h1
 refine Ef (Eg (Ea (Ee rfl) (Ed (Ec (Eb [2] rfl (Ek (En (ret_leafIR rfl rfl ?_))))))))
 rotate_left
 intro h1
 try rw [nnp] at h1
 try have h1' := inB_t h1
 refine Ep (Ec (Eb [0] rfl (Ef (Eg (Ea (Ee rfl) (Ea (o_shl rfl rfl (by omega)) (Ea (Ee rfl) (Ed (Ec (Eb [2] rfl (Ek ?_)))))))))))
 refine ret_leafIR rfl rfl ?_
 rotate_left
 all_goals
  first | exact bytes_leaf (by assumption) | exact (bytes_no (by assumption)).symm
theorem c_183 (size : Int) : CV prg 183 [.w (.int .i64 size)] (fun res => res = .w (.int .i64 (bytes size))) := by
 refine cv_in g183 (Eb [0] rfl (Ef (Eg (Ea (Ee rfl) (Ed (Ec (Eb [0] rfl (Ef (Ef (Eg (Ea (Ee rfl) ?_)))))))))))
 refine Er rfl rfl (c_230 ..) (Ea (o_not rfl) (Ed (Ec (Eb [0, 5] rfl ?_))))
 first | refine Em rfl ?_ ?_ | refine s_condN rfl ?_ ?_ | refine s_condNB rfl ?_ ?_ | refine Ej rfl ?_ ?_
 intro h1
 try rw [nnp] at h1
 try have h1' := inB_t h1
 refine Ef (Eg (Ea (Ee rfl) (Ed (Ec (Eb [2] rfl (Ek (En (ret_leafIR rfl rfl ?_))))))))
 rotate_left
 intro h1
 try rw [nnp] at h1
 try have h1' := inB_t h1
 refine Ep (Ec (Eb [0] rfl (Ef (Eg (Ea (Ee rfl) (Ea (o_shl rfl rfl (by omega)) (Ea (Ee rfl) (Ed (Ec (Eb [2] rfl (Ek ?_)))))))))))
 refine ret_leafIR rfl rfl ?_
 rotate_left
 all_goals
  first | exact bytes_leaf (by assumption) | exact (bytes_no (by assumption)).symm
theorem c_22 (b : Int) : CV prg 22 [.w (.int .i64 b)] (fun res => res = .w (.int .i64 (beats b))) := by
 refine cv_in g22 (Eb [0] rfl (Ef (Eg (Ea (Ee rfl) (Ed (Ec (Eb [0] rfl (Ef (Ef (Eg (Ea (Ee rfl) ?_)))))))))))
 refine Er rfl rfl (c_103 ..) (Ea (o_not rfl) (Ed (Ec (Eb [0, 5] rfl ?_))))
 first | refine Em rfl ?_ ?_ | refine s_condN rfl ?_ ?_ | refine s_condNB rfl ?_ ?_ | refine Ej rfl ?_ ?_
 intro h1
 try rw [nnp] at h1
 try have h1' := inB_t h1
 refine Ef (Eg (Ea (Ee rfl) (Ed (Ec (Eb [2] rfl (Ek (En (ret_leafIR rfl rfl ?_))))))))
 rotate_left
 intro h1
 try rw [nnp] at h1
 try have h1' := inB_t h1
 refine Ep (Ec (Eb [0] rfl (Ef (Eg (Ea (o_bs rfl rfl rfl rfl) (Ea (Ee rfl) (Ea (o_iaL rfl rfl rfl rfl (by simp; omega)) (Ea (o_ldA rfl rfl rfl (beats_row (t := .i64) (by assumption)) rfl) (Ea (Ee rfl) (Ed (Ec ?_)))))))))))
 refine Eb [2] rfl (Ek (ret_leafIR rfl rfl ?_))
 rotate_left
 all_goals
  simp_all [beats]
theorem c_173 (b : Int) : CV prg 173 [.w (.int .i64 b)] (fun res => res = .w (.int .i64 (beats b))) := by
 refine cv_in g173 (Eb [0] rfl (Ef (Eg (Ea (Ee rfl) (Ed (Ec (Eb [0] rfl (Ef (Ef (Eg (Ea (Ee rfl) ?_)))))))))))
 refine Er rfl rfl (c_230 ..) (Ea (o_not rfl) (Ed (Ec (Eb [0, 5] rfl ?_))))
 first | refine Em rfl ?_ ?_ | refine s_condN rfl ?_ ?_ | refine s_condNB rfl ?_ ?_ | refine Ej rfl ?_ ?_
 intro h1
 try rw [nnp] at h1
 try have h1' := inB_t h1
 refine Ef (Eg (Ea (Ee rfl) (Ed (Ec (Eb [2] rfl (Ek (En (ret_leafIR rfl rfl ?_))))))))
 rotate_left
 intro h1
 try rw [nnp] at h1
 try have h1' := inB_t h1
 refine Ep (Ec (Eb [0] rfl (Ef (Eg (Ea (o_bs rfl rfl rfl rfl) (Ea (Ee rfl) (Ea (o_iaL rfl rfl rfl rfl (by simp; omega)) (Ea (o_ldA rfl rfl rfl (beats_row (t := .i64) (by assumption)) rfl) (Ea (Ee rfl) (Ed (Ec ?_)))))))))))
 refine Eb [2] rfl (Ek (ret_leafIR rfl rfl ?_))
 rotate_left
 all_goals
  simp_all [beats]
theorem c_51 (size : Int) : CV prg 51 [.w (.int .i64 size)] (fun res => res = .w (.int .i64 (limit size))) := by
 have hz := bytes_z (x := size)
 refine cv_in g51 (Eb [0] rfl (Ef (Eg (Ea (Ee rfl) (Ed (Ec (Eb [0] rfl (Ef (Ef (Eg (Ea (Ee rfl) ?_)))))))))))
 refine Er rfl rfl (c_33 ..) (Ea (o_eql rfl rfl) (Ed (Ec (Eb [0, 5] rfl ?_))))
 first | refine Em rfl ?_ ?_ | refine Ej rfl ?_ ?_
 intro h1
 try rw [nnp] at h1
 refine Ef (Eg (Ea (Ee rfl) (Ed (Ec (Eb [2] rfl (Ek (En (ret_leafIR rfl rfl ?_))))))))
 rotate_left
 intro h1
 try rw [nnp] at h1
 refine Ep (Ec (Eb [0] rfl (Ef (Eg (Ea (Ee rfl) (Er rfl rfl (c_33 ..) (Ea (o_mul rfl rfl) (Ea (o_shl rfl rfl (by rw [wrap_in _ (by omega)]; omega)) (Ea (Ee rfl) (Ed (Ec ?_)))))))))))
 refine Eb [2] rfl (Ek (ret_leafIR rfl rfl ?_))
 rotate_left
 all_goals
  first | exact limit_leaf (by assumption) | exact (limit_no (by assumption)).symm
theorem c_201 (size : Int) : CV prg 201 [.w (.int .i64 size)] (fun res => res = .w (.int .i64 (limit size))) := by
 have hz := bytes_z (x := size)
 refine cv_in g201 (Eb [0] rfl (Ef (Eg (Ea (Ee rfl) (Ed (Ec (Eb [0] rfl (Ef (Ef (Eg (Ea (Ee rfl) ?_)))))))))))
 refine Er rfl rfl (c_183 ..) (Ea (o_eql rfl rfl) (Ed (Ec (Eb [0, 5] rfl ?_))))
 first | refine Em rfl ?_ ?_ | refine Ej rfl ?_ ?_
 intro h1
 try rw [nnp] at h1
 refine Ef (Eg (Ea (Ee rfl) (Ed (Ec (Eb [2] rfl (Ek (En (ret_leafIR rfl rfl ?_))))))))
 rotate_left
 intro h1
 try rw [nnp] at h1
 refine Ep (Ec (Eb [0] rfl (Ef (Eg (Ea (Ee rfl) (Er rfl rfl (c_183 ..) (Ea (o_mul rfl rfl) (Ea (o_shl rfl rfl (by rw [wrap_in _ (by omega)]; omega)) (Ea (Ee rfl) (Ed (Ec ?_)))))))))))
 refine Eb [2] rfl (Ek (ret_leafIR rfl rfl ?_))
 rotate_left
 all_goals
  first | exact limit_leaf (by assumption) | exact (limit_no (by assumption)).symm
theorem c_92 (v size : Int) : CV prg 92 [.w (.int .i64 v), .w (.int .i64 size)] (fun res => res = .w (.bool (inB v 0 (limit size - 1)))) := by
 have hz := limit_bd size
 refine cv_in g92 (Eb [0, 1] rfl (Ef (Eg (Ea (Ee rfl) (Ed (Ec (Eb [0, 1] rfl (Ef (Eg (Ea (Ee rfl) (Ea (Ee rfl) ?_)))))))))))
 refine Er rfl rfl (c_51 ..) ?_
 first | refine Ea (o_subn rfl rfl (by omega)) ?_ | refine Ea (o_sub rfl rfl) ?_
 refine Er rfl rfl (c_103 ..) (Ea (Ee rfl) (Ed (Ec (Eb [4] rfl (Ek (Eo rfl rfl ?_))))))
 rotate_left
 all_goals
  rfl
theorem c_21 (a size : Int) : CV prg 21 [.w (.int .i64 a), .w (.int .i64 size)] (fun res => res = .w (.bool (aligned a size))) := by
 have hz := bytes_z (x := size)
 refine cv_in g21 (Eb [0, 1] rfl (Ef (Eg (Ea (Ee rfl) (Ed (Ec (Eb [0, 1] rfl (Ef (Eg (Ea (Ee rfl) (Er rfl rfl (c_103 ..) ?_)))))))))))
 refine Ea (Ee rfl) ?_
 first | refine s_gDT rfl ?_ ?_ | refine s_gNDT rfl ?_ ?_ | refine s_gNT rfl ?_ ?_ | refine s_gB rfl ?_ ?_
 intro h1
 try rw [nnp] at h1
 try (have h1' := hz; rw [h1] at h1'; simp at h1')
 refine Ea (Ee rfl) (s_gT rfl (Ea (o_geq rfl rfl) (Ea (Eu rfl rfl) (Ea (Ee rfl) ?_))))
 first | refine s_gDT rfl ?_ ?_ | refine s_gB rfl ?_ ?_
 intro h2
 try rw [nnp] at h2
 try (have h2' := hz; rw [h2] at h2'; simp at h2')
 refine Ea (Ee rfl) (s_gT rfl (Ea (Ee rfl) (s_gT rfl (Er rfl rfl (c_33 ..) (s_gT rfl ?_)))))
 first | refine Ea (o_rem rfl rfl (by decide)) ?_ | refine Ea (o_rem rfl rfl (by omega)) ?_
 refine s_gT rfl (Ea (o_eql rfl rfl) (Ea (Eu rfl rfl) (Ea (Ee rfl) (Ed (Ec (Eb [4] rfl (Ek (Eo rfl rfl ?_))))))))
 rotate_left
 intro h2
 try rw [nnp] at h2
 try (have h2' := hz; rw [h2] at h2'; simp at h2')
 refine Ei rfl (Ei rfl (Ei rfl (Ei rfl (Ei rfl (Ea (o_pickF rfl rfl) (Ea (Ee rfl) (Ed (Ec (Eb [4] rfl (Ek (Eo rfl rfl ?_)))))))))))
 rotate_left
 intro h1
 try rw [nnp] at h1
 try (have h1' := hz; rw [h1] at h1'; simp at h1')
 refine Ei rfl (Ei rfl (Ea (o_pickF rfl rfl) (Ea (Ee rfl) (Ei rfl (Ei rfl (Ei rfl (Ei rfl (Ei rfl (Ea (o_pickF rfl rfl) (Ea (Ee rfl) (Ed ?_)))))))))))
 refine Ec (Eb [4] rfl (Ek (Eo rfl rfl ?_)))
 rotate_left
 all_goals
  first | (simp_all [aligned]; done) | (simp_all [aligned] <;> omega)
theorem c_172 (a size : Int) : CV prg 172 [.w (.int .i64 a), .w (.int .i64 size)] (fun res => res = .w (.bool (aligned a size))) := by
 have hz := bytes_z (x := size)
 refine cv_in g172 (Eb [0, 1] rfl (Ef (Eg (Ea (Ee rfl) (Ed (Ec (Eb [0, 1] rfl (Ef (Eg (Ea (Ee rfl) (Er rfl rfl (c_183 ..) ?_)))))))))))
 refine Ea (o_gtr rfl rfl) (Ea (Ee rfl) ?_)
 first | refine s_gDT rfl ?_ ?_ | refine s_gB rfl ?_ ?_
 intro h1
 try rw [nnp] at h1
 refine Ea (Ee rfl) (s_gT rfl (Ea (o_geq rfl rfl) (Ea (Eu rfl rfl) (Ea (Ee rfl) ?_))))
 first | refine s_gDT rfl ?_ ?_ | refine s_gB rfl ?_ ?_
 intro h2
 try rw [nnp] at h2
 refine Ea (Ee rfl) (s_gT rfl (Ea (Ee rfl) (s_gT rfl (Er rfl rfl (c_183 ..) (s_gT rfl ?_)))))
 first | refine Ea (o_rem rfl rfl (by decide)) ?_ | refine Ea (o_rem rfl rfl (by omega)) ?_
 refine s_gT rfl (Ea (o_eql rfl rfl) (Ea (Eu rfl rfl) (Ea (Ee rfl) (Ed (Ec (Eb [4] rfl (Ek (Eo rfl rfl ?_))))))))
 rotate_left
 intro h2
 try rw [nnp] at h2
 refine Ei rfl (Ei rfl (Ei rfl (Ei rfl (Ei rfl (Ea (o_pickF rfl rfl) (Ea (Ee rfl) (Ed (Ec (Eb [4] rfl (Ek (Eo rfl rfl ?_)))))))))))
 rotate_left
 intro h1
 try rw [nnp] at h1
 refine Ei rfl (Ei rfl (Ea (o_pickF rfl rfl) (Ea (Ee rfl) (Ei rfl (Ei rfl (Ei rfl (Ei rfl (Ei rfl (Ea (o_pickF rfl rfl) (Ea (Ee rfl) (Ed ?_)))))))))))
 refine Ec (Eb [4] rfl (Ek (Eo rfl rfl ?_)))
 rotate_left
 all_goals
  first | (rcases hz with ⟨h8, h9⟩ | ⟨h8, h9⟩ <;> simp_all [aligned]; done) | (rcases hz with ⟨h8, h9⟩ | ⟨h8, h9⟩ <;> simp_all [aligned] <;> omega)
theorem aligned_t {a s : Int} (h : aligned a s = true) : inB s 0 2 = true ∧ 0 ≤ a ∧ (bytes s = 1 ∨ bytes s = 2 ∨ bytes s = 4) := by
 simp only [aligned, Bool.and_eq_true, decide_eq_true_eq] at h
 exact ⟨h.1.1, h.1.2, bytes_pos h.1.1⟩
theorem c_60 (a size burst : Int) : CV prg 60 [.w (.int .i64 a), .w (.int .i64 size), .w (.int .i64 burst)] (fun res => res = .w (.int .i64 (nextA a size burst))) := by
 refine cv_in g60 (Eb [0, 1, 2] rfl (Ef (Eg (Ea (Ee rfl) (Ed (Ec (Eb [0, 1, 2] rfl (Ef (Ef (Eg (Ea (Ee rfl) ?_)))))))))))
 refine Ea (Ee rfl) (Er rfl rfl (c_21 ..) (Ea (o_not rfl) (Ea (Ee rfl) ?_)))
 first | refine s_gDF rfl ?_ ?_ | refine s_gNDF rfl ?_ ?_ | refine s_gNF rfl ?_ ?_ | refine s_gB rfl ?_ ?_
 intro h1
 try rw [nnp] at h1
 try have h1' := aligned_t h1
 try have h1' := inB_t h1
 try have h1' := inB_f h1
 refine Ea (Ee rfl) (s_gT rfl (Ea (o_geq rfl rfl) (Ea (o_pickF rfl rfl) (Ea (Ee rfl) ?_))))
 first | refine s_gDF rfl ?_ ?_ | refine s_gB rfl ?_ ?_
 intro h2
 try rw [nnp] at h2
 try have h2' := aligned_t h2
 try have h2' := inB_t h2
 try have h2' := inB_f h2
 refine Ea (Ee rfl) (s_gT rfl (Er rfl rfl (c_22 ..) (s_gT rfl (Ea (o_eql rfl rfl) (Ea (o_pickF rfl rfl) (Ed (Ec (Eb [0, 1, 2, 21] rfl ?_))))))))
 first | refine Em rfl ?_ ?_ | refine Ej rfl ?_ ?_
 intro h3
 try rw [nnp] at h3
 try have h3' := aligned_t h3
 try have h3' := inB_t h3
 try have h3' := inB_f h3
 refine Ef (Eg (Ea (Ee rfl) (Ed (Ec (Eb [6] rfl (Ek (En (ret_leafIR rfl rfl ?_))))))))
 rotate_left
 intro h3
 try rw [nnp] at h3
 try have h3' := aligned_t h3
 try have h3' := inB_t h3
 try have h3' := inB_f h3
 refine Ep (Ec (Eb [0, 1, 2] rfl (Ef (Eg (Ea (Ee rfl) (Ea (Ee rfl) (Er rfl rfl (c_33 ..) ?_)))))))
 first | refine Ea (o_addn rfl rfl (by omega)) ?_ | refine Ea (o_add rfl rfl) ?_
 refine Ea (Ee rfl) (Er rfl rfl (c_33 ..) ?_)
 first | refine Ea (o_muln rfl rfl (by omega)) ?_ | refine Ea (o_mul rfl rfl) ?_
 refine Ea (Ee rfl) (Ea (Ee rfl) (Ed (Ec (Eb [2, 7, 8] rfl (Ef (Ef (Eg (Ea (Ee rfl) (Ea (o_eql rfl rfl) (Ea (Ee rfl) ?_))))))))))
 first | refine s_gDT rfl ?_ ?_ | refine s_gB rfl ?_ ?_
 intro h4
 try rw [nnp] at h4
 try have h4' := aligned_t h4
 try have h4' := inB_t h4
 try have h4' := inB_f h4
 refine Ea (Ee rfl) (s_gT rfl (Ea (Ee rfl) (s_gT rfl ?_)))
 first | refine Ea (o_rem rfl rfl (by decide)) ?_ | refine Ea (o_rem rfl rfl (by omega)) ?_
 refine s_gT rfl (Ea (o_eql rfl rfl) (Ea (Eu rfl rfl) (Ed (Ec (Eb [7, 8, 36] rfl ?_)))))
 first | refine Em rfl ?_ ?_ | refine Ej rfl ?_ ?_
 intro h5
 try rw [nnp] at h5
 try have h5' := aligned_t h5
 try have h5' := inB_t h5
 try have h5' := inB_f h5
 refine Eg (Ea (Ee rfl) (Ea (Ee rfl) ?_))
 first | refine Ea (o_subn rfl rfl (by omega)) ?_ | refine Ea (o_sub rfl rfl) ?_
 refine Ea (Ee rfl) (Ed (Ec (Eb [7] rfl (Ef (Eg (Ea (Ee rfl) (Ea (Ee rfl) (Ed (Ec (Eb [6] rfl (Ek ?_)))))))))))
 refine ret_leafIR rfl rfl ?_
 rotate_left
 intro h5
 try rw [nnp] at h5
 try have h5' := aligned_t h5
 try have h5' := inB_t h5
 try have h5' := inB_f h5
 refine Ep (Ec (Eb [7] rfl (Ef (Eg (Ea (Ee rfl) (Ea (Ee rfl) (Ed (Ec (Eb [6] rfl (Ek (ret_leafIR rfl rfl ?_)))))))))))
 rotate_left
 intro h4
 try rw [nnp] at h4
 try have h4' := aligned_t h4
 try have h4' := inB_t h4
 try have h4' := inB_f h4
 refine Ei rfl (Ei rfl (Ei rfl (Ei rfl (Ea (o_pickF rfl rfl) (Ed (Ec (Eb [7, 8, 36] rfl (s_condF rfl (Ep (Ec (Eb [7] rfl ?_)))))))))))
 refine Ef (Eg (Ea (Ee rfl) (Ea (Ee rfl) (Ed (Ec (Eb [6] rfl (Ek (ret_leafIR rfl rfl ?_))))))))
 rotate_left
 intro h2
 try rw [nnp] at h2
 try have h2' := aligned_t h2
 try have h2' := inB_t h2
 try have h2' := inB_f h2
 refine Ei rfl (Ei rfl (Ei rfl (Ea (Eu rfl rfl) (Ed (Ec (Eb [0, 1, 2, 21] rfl (s_condT rfl (Ef (Eg (Ea (Ee rfl) (Ed ?_)))))))))))
 refine Ec (Eb [6] rfl (Ek (En (ret_leafIR rfl rfl ?_))))
 rotate_left
 intro h1
 try rw [nnp] at h1
 try have h1' := aligned_t h1
 try have h1' := inB_t h1
 try have h1' := inB_f h1
 refine Ei rfl (Ei rfl (Ea (Eu rfl rfl) (Ea (Ee rfl) (Ei rfl (Ei rfl (Ei rfl (Ea (Eu rfl rfl) (Ed (Ec (Eb [0, 1, 2, 21] rfl (s_condT rfl ?_)))))))))))
 refine Ef (Eg (Ea (Ee rfl) (Ed (Ec (Eb [6] rfl (Ek (En (ret_leafIR rfl rfl ?_))))))))
 rotate_left
 all_goals
  first | (simp_all [nextA]; done) | (simp_all [nextA] <;> omega)
theorem c_205 (a size burst : Int) : CV prg 205 [.w (.int .i64 a), .w (.int .i64 size), .w (.int .i64 burst)] (fun res => res = .w (.int .i64 (nextA a size burst))) := by
 refine cv_in g205 (Eb [0, 1, 2] rfl (Ef (Eg (Ea (Ee rfl) (Ed (Ec (Eb [0, 1, 2] rfl (Ef (Eg (Ea (Ee rfl) (Er rfl rfl (c_183 ..) ?_)))))))))))
 refine Ea (Ee rfl) (Ed (Ec (Eb [0, 1, 2, 7] rfl (Ef (Ef (Eg (Ea (Ee rfl) (Ea (Ee rfl) (Er rfl rfl (c_172 ..) (Ea (o_not rfl) (Ea (Ee rfl) ?_)))))))))))
 first | refine s_gDF rfl ?_ ?_ | refine s_gNDF rfl ?_ ?_ | refine s_gNF rfl ?_ ?_ | refine s_gB rfl ?_ ?_
 intro h1
 try rw [nnp] at h1
 try have h1' := aligned_t h1
 try have h1' := inB_t h1
 try have h1' := inB_f h1
 refine Ea (Ee rfl) (s_gT rfl (Er rfl rfl (c_230 ..) (s_gT rfl (Ea (o_not rfl) (Ea (o_pickF rfl rfl) (Ea (Ee rfl) ?_))))))
 first | refine s_gDF rfl ?_ ?_ | refine s_gNDF rfl ?_ ?_ | refine s_gNF rfl ?_ ?_ | refine s_gB rfl ?_ ?_
 intro h2
 try rw [nnp] at h2
 try have h2' := aligned_t h2
 try have h2' := inB_t h2
 try have h2' := inB_f h2
 refine Ea (Ee rfl) (s_gT rfl (Er rfl rfl (c_173 ..) (s_gT rfl (Ea (o_eql rfl rfl) (Ea (o_pickF rfl rfl) (Ed (Ec (Eb [0, 2, 7, 23] rfl ?_))))))))
 first | refine Em rfl ?_ ?_ | refine Ej rfl ?_ ?_
 intro h3
 try rw [nnp] at h3
 try have h3' := aligned_t h3
 try have h3' := inB_t h3
 try have h3' := inB_f h3
 refine Ef (Eg (Ea (Ee rfl) (Ed (Ec (Eb [6] rfl (Ek (En (ret_leafIR rfl rfl ?_))))))))
 rotate_left
 intro h3
 try rw [nnp] at h3
 try have h3' := aligned_t h3
 try have h3' := inB_t h3
 try have h3' := inB_f h3
 refine Ep (Ec (Eb [0, 2, 7] rfl (Ef (Ef (Eg (Ea (Ee rfl) (Ea (o_eql rfl rfl) (Ea (Ee rfl) ?_))))))))
 first | refine s_gDT rfl ?_ ?_ | refine s_gB rfl ?_ ?_
 intro h4
 try rw [nnp] at h4
 try have h4' := aligned_t h4
 try have h4' := inB_t h4
 try have h4' := inB_f h4
 refine Ea (Ee rfl) (s_gT rfl (Ea (Ee rfl) (s_gT rfl ?_)))
 first | refine Ea (o_addn rfl rfl (by omega)) ?_ | refine Ea (o_add rfl rfl) ?_
 refine s_gT rfl (Ea (Ee rfl) (s_gT rfl ?_))
 first | refine Ea (o_muln rfl rfl (by omega)) ?_ | refine Ea (o_mul rfl rfl) ?_
 refine s_gT rfl ?_
 first | refine Ea (o_rem rfl rfl (by decide)) ?_ | refine Ea (o_rem rfl rfl (by omega)) ?_
 refine s_gT rfl (Ea (o_eql rfl rfl) (Ea (Eu rfl rfl) (Ed (Ec (Eb [0, 7, 34] rfl ?_)))))
 first | refine Em rfl ?_ ?_ | refine Ej rfl ?_ ?_
 intro h5
 try rw [nnp] at h5
 try have h5' := aligned_t h5
 try have h5' := inB_t h5
 try have h5' := inB_f h5
 refine Ef (Eg (Ea (Ee rfl) (Ea (Ee rfl) ?_)))
 first | refine Ea (o_addn rfl rfl (by omega)) ?_ | refine Ea (o_add rfl rfl) ?_
 refine Ea (Ee rfl) ?_
 first | refine Ea (o_muln rfl rfl (by omega)) ?_ | refine Ea (o_mul rfl rfl) ?_
 first | refine Ea (o_subn rfl rfl (by omega)) ?_ | refine Ea (o_sub rfl rfl) ?_
 refine Ea (Ee rfl) (Ed (Ec (Eb [6] rfl (Ek (En (ret_leafIR rfl rfl ?_))))))
 rotate_left
 intro h5
 try rw [nnp] at h5
 try have h5' := aligned_t h5
 try have h5' := inB_t h5
 try have h5' := inB_f h5
 refine Ep (Ec (Eb [0, 7] rfl (Ef (Eg (Ea (Ee rfl) (Ea (Ee rfl) ?_))))))
 first | refine Ea (o_addn rfl rfl (by omega)) ?_ | refine Ea (o_add rfl rfl) ?_
 refine Ea (Ee rfl) (Ed (Ec (Eb [6] rfl (Ek (ret_leafIR rfl rfl ?_)))))
 rotate_left
 intro h4
 try rw [nnp] at h4
 try have h4' := aligned_t h4
 try have h4' := inB_t h4
 try have h4' := inB_f h4
 iterate 7 refine Ei rfl ?_
 refine Ea (o_pickF rfl rfl) (Ed (Ec (Eb [0, 7, 34] rfl (s_condF rfl (Ep (Ec (Eb [0, 7] rfl (Ef (Eg (Ea (Ee rfl) (Ea (Ee rfl) ?_)))))))))))
 first | refine Ea (o_addn rfl rfl (by omega)) ?_ | refine Ea (o_add rfl rfl) ?_
 refine Ea (Ee rfl) (Ed (Ec (Eb [6] rfl (Ek (ret_leafIR rfl rfl ?_)))))
 rotate_left
 intro h2
 try rw [nnp] at h2
 try have h2' := aligned_t h2
 try have h2' := inB_t h2
 try have h2' := inB_f h2
 refine Ei rfl (Ei rfl (Ei rfl (Ea (Eu rfl rfl) (Ed (Ec (Eb [0, 2, 7, 23] rfl (s_condT rfl (Ef (Eg (Ea (Ee rfl) (Ed ?_)))))))))))
 refine Ec (Eb [6] rfl (Ek (En (ret_leafIR rfl rfl ?_))))
 rotate_left
 intro h1
 try rw [nnp] at h1
 try have h1' := aligned_t h1
 try have h1' := inB_t h1
 try have h1' := inB_f h1
 refine Ei rfl (Ei rfl (Ei rfl (Ea (Eu rfl rfl) (Ea (Ee rfl) (Ei rfl (Ei rfl (Ei rfl (Ea (Eu rfl rfl) (Ed (Ec (Eb [0, 2, 7, 23] rfl ?_)))))))))))
 refine s_condT rfl (Ef (Eg (Ea (Ee rfl) (Ed (Ec (Eb [6] rfl (Ek (En (ret_leafIR rfl rfl ?_)))))))))
 rotate_left
 all_goals
  first | (simp_all [nextA]; done) | (simp_all [nextA] <;> omega)
def bl (s b : Int) : Nat → Int → Option (List Int)
 | 0, _ => some []
 | n + 1, a => if nextA a s b < 0 then none else (bl s b n (nextA a s b)).map (a :: ·)
def burstL (a s b : Int) : List Int := (bl s b (beats b).toNat a).getD []
theorem bl_step {s b a c : Int} {n i : Nat} {pre : List Int} (h : bl s b n a = (bl s b (n - i) c).map (pre ++ ·)) (hi : i < n) (hn : ¬ nextA c s b < 0) : bl s b n a = (bl s b (n - (i + 1)) (nextA c s b)).map ((pre ++ [c]) ++ ·) := by
 rw [h]
 have e : n - i = (n - (i + 1)) + 1 := by omega
 rw [e, bl, if_neg hn]
 cases bl s b (n - (i + 1)) (nextA c s b) <;> simp
theorem bl_none {s b a c : Int} {i : Nat} {pre : List Int} (h : bl s b (beats b).toNat a = (bl s b ((beats b).toNat - i) c).map (pre ++ ·)) (hi : i < (beats b).toNat) (hn : nextA c s b < 0) : burstL a s b = [] := by
 unfold burstL
 rw [h]
 have e : (beats b).toNat - i = ((beats b).toNat - (i + 1)) + 1 := by omega
 rw [e, bl, if_pos hn]; rfl
theorem bl_end {s b a c : Int} {i : Nat} {pre : List Int} (h : bl s b (beats b).toNat a = (bl s b ((beats b).toNat - i) c).map (pre ++ ·)) (hi : (beats b).toNat ≤ i) : burstL a s b = pre := by
 unfold burstL
 rw [h, show (beats b).toNat - i = 0 by omega, bl]; simp
theorem bl_len (s b : Int) : ∀ (n : Nat) (a : Int) l, bl s b n a = some l → l.length = n
 | 0, a, l, h => by simp [bl] at h; subst h; rfl
 | n + 1, a, l, h => by
   simp only [bl] at h
   split at h
   · cases h
   · cases e : bl s b n (nextA a s b) with
     | none => rw [e] at h; cases h
     | some r => rw [e] at h; cases h; simp [bl_len s b n _ r e]
theorem burstL_len (a s b : Int) : (burstL a s b).length = 0 ∨ (burstL a s b).length = (beats b).toNat := by
 unfold burstL
 cases e : bl s b (beats b).toNat a with
 | none => exact .inl rfl
 | some l => exact .inr (bl_len s b _ _ _ e)
theorem burstL_le (a s b : Int) : (burstL a s b).length ≤ 8 := by
 have h1 := burstL_len a s b
 have h2 := beats_bd b
 omega
theorem iR_app (pre : List Int) (c : Int) : (pre ++ [c]).map iR = pre.map iR ++ [[V.w (.int .i64 c)]] := by rw [List.map_append]; rfl
theorem c_29 (a s b : Int) : CV prg 29 [.w (.int .i64 a), .w (.int .i64 s), .w (.int .i64 b)] (fun res => res = .sl 1 ((burstL a s b).map iR)) := by
 have hb := beats_bd b
 refine cv_in g29 (Eb [0, 1, 2] rfl (Ef (Eg (Ea (Ee rfl) (Ed (Ec (Eb [0, 1, 2] rfl (Ef (Eg (Ea (o_bs rfl rfl rfl rfl) (Ea (Ee rfl) ?_)))))))))))
 refine Ed (Ec (Eb [0, 1, 2, 7] rfl (Ef (Ef (Eg (Ea (Ee rfl) (Er rfl rfl (c_22 ..) (Ea (Ee rfl) (Ed (Ec (Eb [0, 1, 2, 7, 11, 12] rfl ?_)))))))))))
 refine S_block (S_loop (ι := (Nat × List Int × Int)) (fun p => p.1 ≤ (beats b).toNat ∧ p.2.1.length = p.1 ∧ bl s b (beats b).toNat a = (bl s b ((beats b).toNat - p.1) p.2.2).map (p.2.1 ++ ·)) (fun p => [(12, .w (.int .i64 (p.1 : Int))), (7, .ls 0 (p.2.1.map iR).length), (0, .w (.int .i64 p.2.2))]) (fun p => [.arr 1 (p.2.1.map iR)]) (fun p => (beats b).toNat - p.1) 1 (0, [], a) ⟨by simp, rfl, by simp⟩ rfl (hasOf ⟨rfl, rfl, rfl, trivial⟩ rfl) rfl (fun _ _ => rfl) (fun _ _ => ⟨rfl, rfl⟩) ?_)
 rintro ⟨i, pre, c⟩ hi
 obtain ⟨hi1, hi2, hi3⟩ := hi
 simp only at hi1 hi2 hi3
 refine Eb [0, 1, 2, 7, 11, 12] rfl ?_
 dsimp only
 refine Ef (Eg (Ea (o_lss rfl rfl) (Ed (Ec (Eb [0, 1, 2, 7, 11, 12, 13] rfl (Ef ?_))))))
 first | refine Em rfl ?_ ?_ | refine Ej rfl ?_ ?_
 intro h1
 try rw [nnp] at h1
 refine Ep (Ec (Eb [0, 1, 2, 7, 11, 12] rfl (Ef (S_block (Ef (Eg (Ea (Ee rfl) (Ea (Ee rfl) (Ea (Ee rfl) (Er rfl rfl (c_60 ..) (Ea (Ee rfl) ?_)))))))))))
 refine Ed (Ec (Eb [0, 1, 2, 7, 8, 11, 12] rfl (Ef (Ef (Eg (Ea (Ee rfl) (Ea (o_lss rfl rfl) (Ed (Ec (Eb [0, 1, 2, 7, 8, 11, 12, 19] rfl ?_))))))))))
 first | refine Em rfl ?_ ?_ | refine Ej rfl ?_ ?_
 intro h2
 try rw [nnp] at h2
 refine Ef (Eg (Ea (Ee rfl) (Ed (Ec (Eb [6] rfl (Ek (En (q_blkR (En (q_loopR (q_blkR ?_)))))))))))
 refine En ?_
 · first | (refine ret_leafW (.inr rfl) rfl rfl (.nil 1 _) ?_; rw [bl_none hi3 (by omega) (by assumption)]; rfl; done) | (refine ret_leafA (.inr rfl) rfl rfl rfl ?_; rw [bl_end hi3 (by omega)]; done) | (refine ret_leafA (.inr rfl) rfl rfl rfl ?_; rw [bl_none hi3 (by omega) (by omega)]; rfl; done)
 intro h2
 try rw [nnp] at h2
 refine Ep (Ec (Eb [0, 1, 2, 7, 8, 11, 12] rfl (Ef (Eg (Ea (Ee rfl) (Ea (Ee rfl) (Ea (o_bs rfl rfl rfl rfl) ?_)))))))
 first | refine Ea (o_appL rfl rfl rfl rfl rfl rfl rfl (by simp [roomy]; omega)) ?_ | refine Ea (o_app rfl rfl rfl rfl rfl (by simp [roomy]; omega)) ?_
 refine Ea (Ee rfl) (Ed (Ec (Eb [1, 2, 7, 8, 11, 12] rfl (Eg (Ea (Ee rfl) (Ea (Ee rfl) (Ed (q_blkN (Ec (Eb [0, 1, 2, 7, 11, 12] rfl (Eg ?_)))))))))))
 first | refine Ea (o_addn rfl rfl (by omega)) ?_ | refine Ea (o_add rfl rfl) ?_
 refine Ea (Ee rfl) (Ed (q_loopN ?_))
 · refine ⟨(i + 1, pre ++ [c], nextA c s b), ⟨by simp only; omega, by simp only [List.length_append, List.length_cons, List.length_nil]; omega, bl_step hi3 (by omega) (by assumption)⟩, by simp only; omega, hasOf ⟨rfl, ?_, rfl, trivial⟩ ?_⟩
   · rw [iR_app]; rfl
   · simp only; rw [iR_app]; rfl
 intro h1
 try rw [nnp] at h1
 refine s_exit (q_seqX (q_loopX (q_blkH (Ec (Eb [7] rfl (Ef (Eg (Ea (Ee rfl) (Ea (Ee rfl) (Ed (Ec ?_)))))))))))
 refine Eb [6] rfl (Ek ?_)
 · first | (refine ret_leafW (.inr rfl) rfl rfl (.nil 1 _) ?_; rw [bl_none hi3 (by omega) (by assumption)]; rfl; done) | (refine ret_leafA (.inr rfl) rfl rfl rfl ?_; rw [bl_end hi3 (by omega)]; done) | (refine ret_leafA (.inr rfl) rfl rfl rfl ?_; rw [bl_none hi3 (by omega) (by omega)]; rfl; done)
theorem c_179 (a s b : Int) : CV prg 179 [.w (.int .i64 a), .w (.int .i64 s), .w (.int .i64 b)] (fun res => res = .sl 1 ((burstL a s b).map iR)) := by
 have hb := beats_bd b
 refine cv_in g179 (Eb [0, 1, 2] rfl (Ef (Eg (Ea (Ee rfl) (Ed (Ec (Eb [0, 1, 2] rfl (Ef (Eg (Ea (o_bs rfl rfl rfl rfl) (Ea (Ee rfl) ?_)))))))))))
 refine Ed (Ec (Eb [0, 1, 2, 7] rfl (Ef (S_block (S_loop (ι := (List Int × Int)) (fun p => p.1.length ≤ (beats b).toNat ∧ bl s b (beats b).toNat a = (bl s b ((beats b).toNat - p.1.length) p.2).map (p.1 ++ ·)) (fun p => [(7, .ls 0 (p.1.map iR).length), (0, .w (.int .i64 p.2))]) (fun p => [.arr 1 (p.1.map iR)]) (fun p => (beats b).toNat - p.1.length) 1 ([], a) ⟨by simp, by simp⟩ rfl (hasOf ⟨rfl, rfl, trivial⟩ rfl) rfl (fun _ _ => rfl) (fun _ _ => ⟨rfl, rfl⟩) ?_)))))
 rintro ⟨pre, c⟩ hi
 obtain ⟨hi1, hi3⟩ := hi
 simp only at hi1 hi3
 have hml : (pre.map iR).length = pre.length := List.length_map ..
 refine Eb [0, 1, 2, 7] rfl ?_
 dsimp only
 refine Ef (Ef (Eg (Ea (Ee rfl) (Ea (o_lenL rfl rfl rfl) (Ea (Ee rfl) (Er rfl rfl (c_173 ..) (Ea (o_lss rfl rfl) (Ea (Ee rfl) ?_))))))))
 first | refine s_gDT rfl ?_ ?_ | refine s_gB rfl ?_ ?_
 intro h1
 try rw [nnp] at h1
 refine Ea (Ee rfl) (s_gT rfl (Ea (Ee rfl) (s_gT rfl (Ea (Ee rfl) (s_gT rfl (Er rfl rfl (c_205 ..) (s_gT rfl (Ea (o_geq rfl rfl) (Ea (Eu rfl rfl) (Ed (Ec ?_)))))))))))
 refine Eb [0, 1, 2, 7, 15, 16, 17, 18, 19, 20] rfl ?_
 first | refine Em rfl ?_ ?_ | refine Ej rfl ?_ ?_
 intro h2
 try rw [nnp] at h2
 refine Ep (Ec (Eb [0, 1, 2, 7, 15, 16, 17, 18, 19] rfl (S_block (Ef (Eg (Ea (Ee rfl) (Ea (Ee rfl) (Ea (o_bs rfl rfl rfl rfl) ?_))))))))
 first | refine Ea (o_appL rfl rfl rfl rfl rfl rfl rfl (by simp [roomy]; omega)) ?_ | refine Ea (o_app rfl rfl rfl rfl rfl (by simp [roomy]; omega)) ?_
 refine Ea (Ee rfl) (Ed (Ec (Eb [0, 1, 2, 7, 15, 16, 17, 18, 19] rfl (Eg (Ea (Ee rfl) (Ea (Ee rfl) (Ea (Ee rfl) (Er rfl rfl (c_205 ..) (Ea (Ee rfl) (Ed (q_blkN ?_)))))))))))
 refine q_loopN ?_
 · refine ⟨(pre ++ [c], nextA c s b), ⟨by simp only [List.length_append, List.length_cons, List.length_nil]; omega, by simp only [List.length_append, List.length_cons, List.length_nil]; exact bl_step hi3 (by omega) (by omega)⟩, by simp only [List.length_append, List.length_cons, List.length_nil]; omega, hasOf ⟨?_, rfl, trivial⟩ ?_⟩
   · rw [iR_app]; rfl
   · simp only; rw [iR_app]; rfl
 intro h2
 try rw [nnp] at h2
 refine s_exit (q_seqX (q_loopX (q_blkH (Ec (Eb [2, 7] rfl (Ef (Ef (Eg (Ea (Ee rfl) (Ea (o_lenL rfl rfl rfl) (Ea (Ee rfl) ?_)))))))))))
 refine Er rfl rfl (c_173 ..) (Ea (o_lss rfl rfl) (Ed (Ec (Eb [7, 33] rfl ?_))))
 first | refine Em rfl ?_ ?_ | refine Ej rfl ?_ ?_
 intro h3
 try rw [nnp] at h3
 refine Ef (Eg (Ea (o_bs rfl rfl rfl rfl) (Ea (Ee rfl) (Ed (Ec (Eb [6] rfl (Ek (En ?_))))))))
 · first | (refine ret_leafW (.inr rfl) rfl rfl (.nil 1 _) ?_; rw [bl_none hi3 (by omega) (by assumption)]; rfl; done) | (refine ret_leafA (.inr rfl) rfl rfl rfl ?_; rw [bl_end hi3 (by omega)]; done) | (refine ret_leafA (.inr rfl) rfl rfl rfl ?_; rw [bl_none hi3 (by omega) (by omega)]; rfl; done)
 intro h3
 try rw [nnp] at h3
 refine Ep (Ec (Eb [7] rfl (Ef (Eg (Ea (Ee rfl) (Ea (Ee rfl) (Ed (Ec (Eb [6] rfl (Ek ?_))))))))))
 · first | (refine ret_leafW (.inr rfl) rfl rfl (.nil 1 _) ?_; rw [bl_none hi3 (by omega) (by assumption)]; rfl; done) | (refine ret_leafA (.inr rfl) rfl rfl rfl ?_; rw [bl_end hi3 (by omega)]; done) | (refine ret_leafA (.inr rfl) rfl rfl rfl ?_; rw [bl_none hi3 (by omega) (by omega)]; rfl; done)
 intro h1
 try rw [nnp] at h1
 refine Ei rfl (Ei rfl (Ei rfl (Ei rfl (Ei rfl (Ea (o_pickF rfl rfl) (Ed (Ec (Eb [0, 1, 2, 7, 15, 16, 17, 18, 19, 20] rfl (s_condF rfl (s_exit (q_seqX ?_)))))))))))
 refine q_loopX (q_blkH (Ec (Eb [2, 7] rfl (Ef (Ef (Eg (Ea (Ee rfl) (Ea (o_lenL rfl rfl rfl) (Ea (Ee rfl) (Er rfl rfl (c_173 ..) (Ea (o_lss rfl rfl) ?_)))))))))))
 refine Ed (Ec (Eb [7, 33] rfl ?_))
 first | refine Em rfl ?_ ?_ | refine Ej rfl ?_ ?_
 intro h4
 try rw [nnp] at h4
 refine Ef (Eg (Ea (o_bs rfl rfl rfl rfl) (Ea (Ee rfl) (Ed (Ec (Eb [6] rfl (Ek (En ?_))))))))
 · first | (refine ret_leafW (.inr rfl) rfl rfl (.nil 1 _) ?_; rw [bl_none hi3 (by omega) (by assumption)]; rfl; done) | (refine ret_leafA (.inr rfl) rfl rfl rfl ?_; rw [bl_end hi3 (by omega)]; done) | (refine ret_leafA (.inr rfl) rfl rfl rfl ?_; rw [bl_none hi3 (by omega) (by omega)]; rfl; done)
 intro h4
 try rw [nnp] at h4
 refine Ep (Ec (Eb [7] rfl (Ef (Eg (Ea (Ee rfl) (Ea (Ee rfl) (Ed (Ec (Eb [6] rfl (Ek ?_))))))))))
 · first | (refine ret_leafW (.inr rfl) rfl rfl (.nil 1 _) ?_; rw [bl_none hi3 (by omega) (by assumption)]; rfl; done) | (refine ret_leafA (.inr rfl) rfl rfl rfl ?_; rw [bl_end hi3 (by omega)]; done) | (refine ret_leafA (.inr rfl) rfl rfl rfl ?_; rw [bl_none hi3 (by omega) (by omega)]; rfl; done)
def onPage (l : List Int) (x : Int) : Bool := decide (IntKind.wrap .i64 (x.tdiv 64) = IntKind.wrap .i64 (((l[0]?).getD 0).tdiv 64))
theorem page_no {l : List Int} {x y : Int} (h0 : l[0]? = some y) (h : ¬ IntKind.wrap .i64 (x.tdiv 64) = IntKind.wrap .i64 (y.tdiv 64)) : onPage l x = false := by unfold onPage; rw [h0]; exact decide_eq_false h
theorem page_is {l : List Int} {x y : Int} (h0 : l[0]? = some y) (h : IntKind.wrap .i64 (x.tdiv 64) = IntKind.wrap .i64 (y.tdiv 64)) : onPage l x = true := by unfold onPage; rw [h0]; exact decide_eq_true h
def burstOk (a s b : Int) : Bool := (burstL a s b).all (onPage (burstL a s b)) && decide (0 < (burstL a s b).length)
theorem c_30 (a s b : Int) : CV prg 30 [.w (.int .i64 a), .w (.int .i64 s), .w (.int .i64 b)] (fun res => res = .w (.bool (burstOk a s b))) := by
 have hlen := burstL_le a s b
 refine cv_in g30 (Eb [0, 1, 2] rfl (Ef (Eg (Ea (Ee rfl) (Ed (Ec (Eb [0, 1, 2] rfl (Ef (Eg (Ea (Ee rfl) (Ea (Ee rfl) ?_)))))))))))
 refine Ea (Ee rfl) (Er rfl rfl (c_29 ..) (Ea (Ee rfl) (Ed (Ec (Eb [7] rfl (Ef (Ef (Eg (Ea (Ee rfl) ?_)))))))))
 first | refine Ea (o_lenM rfl) ?_ | refine Ea (o_len rfl) ?_ | refine Ea (o_lenL rfl rfl rfl) ?_ | refine Ea (o_lenN rfl) ?_
 refine Ea (Ee rfl) (Ed (Ec (Eb [7, 14, 15, 16] rfl (S_block (S_loop0 (ι := Nat) (fun i => i ≤ (burstL a s b).length ∧ ((burstL a s b).take i).all (onPage (burstL a s b)) = true) (fun i => [(16, .w (.int .i64 (i : Int)))]) (fun i => (burstL a s b).length - i) 0 (by simp) rfl ⟨rfl, trivial⟩ (fun _ _ => rfl) rfl ?_)))))
 intro i hi
 refine Eb [7, 14, 15, 16] rfl (Ef (Eg (Ea (o_lss rfl rfl) (Ed (Ec (Eb [7, 14, 15, 16, 17] rfl (Ef ?_)))))))
 first | refine Em rfl ?_ ?_ | refine Ej rfl ?_ ?_
 intro h1
 try rw [nnp] at h1
 refine Ep (Ec (Eb [7, 14, 15, 16] rfl (Ef (S_block (Ef (Eg (s_iaM rfl rfl (by omega) ?_)))))))
 intro y2 e2
 try simp only [Int.toNat_natCast, Int.toNat_zero] at e2
 refine Ea (o_ld rfl rfl) (Ea (Ee rfl) (Ed (Ec (Eb [7, 9, 14, 15, 16] rfl (Ef (Eg (Ea (Ee rfl) ?_)))))))
 first | refine Ea (o_quo rfl rfl (by decide)) ?_ | refine Ea (o_quo rfl rfl (by omega)) ?_
 refine Ea (Ee rfl) (s_iaM rfl rfl (by omega) ?_)
 intro y3 e3
 try simp only [Int.toNat_natCast, Int.toNat_zero] at e3
 refine Ea (o_ld rfl rfl) ?_
 first | refine Ea (o_quo rfl rfl (by decide)) ?_ | refine Ea (o_quo rfl rfl (by omega)) ?_
 refine Ea (o_neq rfl rfl) (Ed (Ec (Eb [7, 14, 15, 16, 26] rfl ?_)))
 first | refine Em rfl ?_ ?_ | refine Ej rfl ?_ ?_
 intro h4
 try rw [nnp] at h4
 refine Ef (Eg (Ea (Ee rfl) (Ed (Ec (Eb [6] rfl (Ek (q_blkR (En (q_loopR (q_blkR (En ?_)))))))))))
 refine Eo rfl rfl ?_
 rotate_left
 intro h4
 try rw [nnp] at h4
 refine Ep (q_blkN (Ec (Eb [7, 14, 15, 16] rfl (Eg ?_))))
 first | refine Ea (o_addn rfl rfl (by omega)) ?_ | refine Ea (o_add rfl rfl) ?_
 refine Ea (Ee rfl) (Ed (q_loopN ?_))
 · exact ⟨i + 1, ⟨by omega, all_take (by assumption : (burstL a s b)[i]? = some _) hi.2 (page_is (by assumption : (burstL a s b)[0]? = some _) (by assumption))⟩, by omega, hasOf ⟨rfl, trivial⟩ rfl⟩
 intro h1
 try rw [nnp] at h1
 refine s_exit (q_seqX (q_loopX (q_blkH (Ec (Eb [7] rfl (Ef (Eg (Ea (Ee rfl) ?_))))))))
 first | refine Ea (o_lenM rfl) ?_ | refine Ea (o_len rfl) ?_ | refine Ea (o_lenL rfl rfl rfl) ?_ | refine Ea (o_lenN rfl) ?_
 refine Ea (o_gtr rfl rfl) (Ea (Ee rfl) (Ed (Ec (Eb [6] rfl (Ek (Eo rfl rfl ?_))))))
 rotate_left
 all_goals
  first | (unfold burstOk; rw [all_no (by assumption : (burstL a s b)[i]? = some _) (page_no (by assumption : (burstL a s b)[0]? = some _) (by assumption))]; rfl; done) | (unfold burstOk; rw [all_end hi.2 (by omega)]; simp; done)
theorem c_180 (a s b : Int) : CV prg 180 [.w (.int .i64 a), .w (.int .i64 s), .w (.int .i64 b)] (fun res => res = .w (.bool (burstOk a s b))) := by
 have hlen := burstL_le a s b
 refine cv_in g180 (Eb [0, 1, 2] rfl (Ef (Eg (Ea (Ee rfl) (Ed (Ec (Eb [0, 1, 2] rfl (Ef (Eg (Ea (Ee rfl) (Ea (Ee rfl) ?_)))))))))))
 refine Ea (Ee rfl) (Er rfl rfl (c_179 ..) (Ea (Ee rfl) (Ed (Ec (Eb [7] rfl (Ef (Ef (Eg (Ea (Ee rfl) (Ed (Ec ?_)))))))))))
 refine Eb [7, 8] rfl (S_block (S_loop0 (ι := Nat) (fun i => i ≤ (burstL a s b).length ∧ ((burstL a s b).take i).all (onPage (burstL a s b)) = true) (fun i => [(8, .w (.int .i64 (i : Int)))]) (fun i => (burstL a s b).length - i) 0 (by simp) rfl ⟨rfl, trivial⟩ (fun _ _ => rfl) rfl ?_))
 intro i hi
 refine Eb [7, 8] rfl (Ef (Ef (Eg (Ea (Ee rfl) (Ea (Ee rfl) ?_)))))
 first | refine Ea (o_lenM rfl) ?_ | refine Ea (o_len rfl) ?_ | refine Ea (o_lenL rfl rfl rfl) ?_ | refine Ea (o_lenN rfl) ?_
 refine Ea (o_lss rfl rfl) (Ed (Ec (Eb [7, 8, 16] rfl ?_)))
 first | refine Em rfl ?_ ?_ | refine Ej rfl ?_ ?_
 intro h1
 try rw [nnp] at h1
 refine Ep (Ec (Eb [7, 8] rfl (Ef (S_block (Ef (Eg (Ea (Ee rfl) (Ea (Ee rfl) (s_iaM rfl rfl (by omega) ?_)))))))))
 intro y2 e2
 try simp only [Int.toNat_natCast, Int.toNat_zero] at e2
 refine Ea (o_ld rfl rfl) ?_
 first | refine Ea (o_quo rfl rfl (by decide)) ?_ | refine Ea (o_quo rfl rfl (by omega)) ?_
 refine Ea (Ee rfl) (s_iaM rfl rfl (by omega) ?_)
 intro y3 e3
 try simp only [Int.toNat_natCast, Int.toNat_zero] at e3
 refine Ea (o_ld rfl rfl) ?_
 first | refine Ea (o_quo rfl rfl (by decide)) ?_ | refine Ea (o_quo rfl rfl (by omega)) ?_
 refine Ea (o_neq rfl rfl) (Ed (Ec (Eb [7, 8, 28] rfl ?_)))
 first | refine Em rfl ?_ ?_ | refine Ej rfl ?_ ?_
 intro h4
 try rw [nnp] at h4
 refine Ef (Eg (Ea (Ee rfl) (Ed (Ec (Eb [6] rfl (Ek (q_blkR (En (q_loopR (q_blkR (En ?_)))))))))))
 refine Eo rfl rfl ?_
 rotate_left
 intro h4
 try rw [nnp] at h4
 refine Ep (q_blkN (Ec (Eb [7, 8] rfl (Eg (Ea (Ee rfl) ?_)))))
 first | refine Ea (o_addn rfl rfl (by omega)) ?_ | refine Ea (o_add rfl rfl) ?_
 refine Ea (Ee rfl) (Ed (q_loopN ?_))
 · exact ⟨i + 1, ⟨by omega, all_take (by assumption : (burstL a s b)[i]? = some _) hi.2 (page_is (by assumption : (burstL a s b)[0]? = some _) (by assumption))⟩, by omega, hasOf ⟨rfl, trivial⟩ rfl⟩
 intro h1
 try rw [nnp] at h1
 refine s_exit (q_seqX (q_loopX (q_blkH (Ec (Eb [7] rfl (Ef (Eg (Ea (Ee rfl) ?_))))))))
 first | refine Ea (o_lenM rfl) ?_ | refine Ea (o_len rfl) ?_ | refine Ea (o_lenL rfl rfl rfl) ?_ | refine Ea (o_lenN rfl) ?_
 refine Ea (o_gtr rfl rfl) (Ea (Ee rfl) (Ed (Ec (Eb [6] rfl (Ek (Eo rfl rfl ?_))))))
 rotate_left
 all_goals
  first | (unfold burstOk; rw [all_no (by assumption : (burstL a s b)[i]? = some _) (page_no (by assumption : (burstL a s b)[0]? = some _) (by assumption))]; rfl; done) | (unfold burstOk; rw [all_end hi.2 (by omega)]; simp; done)
theorem c_266 (xs : List Int) (hl : xs.length ≤ 140737488355328) (f : Nat) (caps : List V) (hc : caps.all (V.fzV 5) = true) (p : Int → Bool) (h : ∀ y, y ∈ xs → CV prg f (.w (.int .i64 y) :: caps) (fun v => v = .w (.bool (p y)))) : CV prg 266 [.sl 1 (xs.map iR), .fn f caps] (fun res => res = .w (.int .i64 (idxOf p xs))) := by
 refine cv_in g266 (Eb [0, 1] rfl (Ef (Eg (Ea (Ee rfl) (Ed (Ec (Eb [0, 1] rfl (Ef (Ef (Eg (Ea (Ee rfl) ?_)))))))))))
 first | refine Ea (o_lenM rfl) ?_ | refine Ea (o_len rfl) ?_
 refine Ea (Ee rfl) (Ed (Ec (Eb [0, 1, 7, 8] rfl (S_block (S_loop0 (ι := Nat) (fun i => i ≤ xs.length ∧ (xs.take i).any p = false) (fun i => [(8, .w (.int .i64 (i : Int)))]) (fun i => xs.length - i) 0 (by simp) rfl ⟨rfl, trivial⟩ (fun _ _ => rfl) rfl ?_)))))
 intro i hi
 refine Eb [0, 1, 7, 8] rfl (Ef (Eg (Ea (o_lss rfl rfl) (Ed (Ec (Eb [0, 1, 7, 8, 9] rfl (Ef ?_)))))))
 first | refine Em rfl ?_ ?_ | refine Ej rfl ?_ ?_
 intro h1
 try rw [nnp] at h1
 refine Ep (Ec (Eb [0, 1, 7, 8] rfl (Ef (S_block (Ef (Eg (Ea (Ee rfl) (Ea (Ee rfl) (Ed (Ec (Eb [0, 1, 5, 7, 8] rfl ?_)))))))))))
 refine Ef (Eg (Ea (Ee rfl) (Ea (Ee rfl) (Ea (Ee rfl) (s_iaM rfl rfl (by simp at *; omega) ?_)))))
 intro y2 e2
 try simp only [Int.toNat_natCast, Int.toNat_zero] at e2
 refine Ea (o_ld rfl rfl) (s_calli rfl rfl (fz1 rfl hc) (h _ (List.mem_of_getElem? (by assumption))) (Ed (Ec (Eb [0, 1, 5, 7, 8, 16] rfl ?_))))
 first | refine Em rfl ?_ ?_ | refine s_condN rfl ?_ ?_ | refine s_condNB rfl ?_ ?_ | refine Ej rfl ?_ ?_
 intro h3
 try rw [nnp] at h3
 refine Ef (Eg (Ea (Ee rfl) (Ea (Ee rfl) (Ed (Ec (Eb [4] rfl (Ek (q_blkR (En (q_loopR (q_blkR ?_)))))))))))
 refine En (ret_leafIR rfl rfl ?_)
 rotate_left
 intro h3
 try rw [nnp] at h3
 refine Ep (q_blkN (Ec (Eb [0, 1, 7, 8] rfl (Eg ?_))))
 first | refine Ea (o_addn rfl rfl (by omega)) ?_ | refine Ea (o_add rfl rfl) ?_
 refine Ea (Ee rfl) (Ed (q_loopN ?_))
 · exact ⟨i + 1, ⟨by omega, any_take (by assumption) hi.2 (by assumption)⟩, by omega, hasOf ⟨rfl, trivial⟩ rfl⟩
 intro h1
 try rw [nnp] at h1
 refine s_exit (q_seqX (q_loopX (q_blkH (Ec (Eb [] rfl (Ef (Eg (Ea (Ee rfl) (Ed (Ec (Eb [4] rfl ?_)))))))))))
 refine Ek (ret_leafIR rfl rfl ?_)
 rotate_left
 all_goals
  first | exact (idxOf_at (by assumption) hi.2 (by assumption)).symm | exact (idxOf_no (any_end hi.2 (by omega))).symm
theorem c_257 (xs : List Int) (hl : xs.length ≤ 140737488355328) (f : Nat) (caps : List V) (hc : caps.all (V.fzV 5) = true) (p : Int → Bool) (h : ∀ y, y ∈ xs → CV prg f (.w (.int .i64 y) :: caps) (fun v => v = .w (.bool (p y)))) : CV prg 257 [.sl 1 (xs.map iR), .fn f caps] (fun res => res = .w (.bool (xs.any p))) := by
 refine cv_in g257 (Eb [0, 1] rfl (Ef (Eg (Ea (Ee rfl) (Ed (Ec (Eb [0, 1] rfl (Ef (Eg (Ea (Ee rfl) (Ea (Ee rfl) ?_)))))))))))
 refine Er rfl (fz2 rfl hc) (c_266 _ (by assumption) _ _ hc _ h) (Ea (o_geq rfl rfl) (Ea (Ee rfl) (Ed (Ec (Eb [4] rfl (Ek (Eo rfl rfl ?_)))))))
 rotate_left
 all_goals
  exact idxOf_any p xs
def Req.ok (x : Req) : Bool := burstOk x.addr x.size x.burst && decide ((x.data.length : Int) = if x.write then beats x.burst else 0) && x.data.all fun v => inB v 0 (limit x.size - 1)
theorem data_not (l : Int) (xs : List Int) : (!xs.any (fun v => !inB v 0 l)) = xs.all (fun v => inB v 0 l) := by
 induction xs with
 | nil => rfl
 | cons m xs ih => simp only [List.any_cons, List.all_cons, Bool.not_or, Bool.not_not, ih]
theorem Req.ok_len {x : Req} (h : x.ok = true) : x.data.length ≤ 8 := by
 simp only [Req.ok, Bool.and_eq_true, decide_eq_true_eq] at h
 have := beats_bd x.burst
 have h2 := h.1.2
 split at h2 <;> omega
theorem c_67 (d : Int) (x : Req) : CV prg 67 [.w (.int .i64 d), .rp x.r 0] (fun res => res = .w (.bool (!inB d 0 (limit x.size - 1)))) := by
 refine cv_in g67 (Eb [0, 1] rfl (Ef (Eg (Ea (Ee rfl) (Ed (Ec (Eb [0, 1] rfl (Ef (Eg (Ea (Ee rfl) (Ea (o_fa rfl) ?_)))))))))))
 refine Ea (o_ld rfl rfl) ?_
 first | refine Er rfl rfl (c_92 ..) ?_ | refine s_callL rfl rfl (by simp) (c_92 ..) rfl ?_
 refine Ea (o_not rfl) (Ea (Ee rfl) (Ed (Ec (Eb [3] rfl (Ek (Eo rfl rfl ?_))))))
 rotate_left
 all_goals
  rfl
theorem c_66 (x : Req) (hs : x.small) : CV prg 66 [.agg x.r] (fun res => res = .w (.bool x.ok)) := by
 have hd : x.data.length ≤ 1048576 := hs
 refine cv_in g66 (Eb [0] rfl (Ef (Eg (Ea (o_box rfl rfl rfl) (Ea (Ee rfl) (Ed (Ec (Eb [1] rfl (Ef (Eg (Ea (Ee rfl) ?_)))))))))))
 refine Ed (Ec (Eb [1, 3] rfl (Ef (Ef (Eg (Ea (o_faC rfl) (Ea (o_ldC rfl rfl rfl) (Ed (Ec (Eb [1, 3, 5] rfl ?_))))))))))
 first | refine Em rfl ?_ ?_ | refine s_condN rfl ?_ ?_ | refine s_condNB rfl ?_ ?_ | refine Ej rfl ?_ ?_
 intro h1
 try rw [nnp] at h1
 refine Eg (Ea (o_faC rfl) (Ea (o_ldC rfl rfl rfl) ?_))
 first | refine Er rfl rfl (c_22 ..) ?_ | refine s_callL rfl rfl (by simp) (c_22 ..) rfl ?_
 refine Ea (Ee rfl) (Ed (Ec (Eb [1, 3] rfl (Ef (Eg (Ea (o_faC rfl) (Ea (o_ldC rfl rfl rfl) (Ea (o_faC rfl) (Ea (o_ldC rfl rfl rfl) (Ea (o_faC rfl) (Ea (o_ldC rfl rfl rfl) ?_)))))))))))
 first | refine Er rfl rfl (c_30 ..) ?_ | refine s_callL rfl rfl (by simp) (c_30 ..) rfl ?_
 refine Ea (Ee rfl) ?_
 first | refine s_gDT rfl ?_ ?_ | refine s_gNDT rfl ?_ ?_ | refine s_gNT rfl ?_ ?_ | refine s_gB rfl ?_ ?_
 intro h2
 try rw [nnp] at h2
 refine Ea (o_faC rfl) (s_gT rfl (Ea (o_ldC rfl rfl rfl) (s_gT rfl ?_)))
 first | refine Ea (o_lenM rfl) ?_ | refine Ea (o_len rfl) ?_ | refine Ea (o_lenL rfl rfl rfl) ?_ | refine Ea (o_lenN rfl) ?_
 refine s_gT rfl (Ea (Ee rfl) (s_gT rfl (Ea (o_eql rfl rfl) (Ea (Eu rfl rfl) (s_keepO (is := [1, 22]) rfl (Ea (Ee rfl) ?_))))))
 first | refine s_gDT rfl ?_ ?_ | refine s_gB rfl ?_ ?_
 intro h3
 try rw [nnp] at h3
 refine Ea (o_faC rfl) (s_gT rfl (Ea (o_ldC rfl rfl rfl) (s_gT rfl (Ea (o_fn rfl) (s_gT rfl (s_callL rfl rfl (by simp) (c_257 _ (by omega) _ _ rfl (fun d => !inB d 0 (limit x.size - 1)) (fun y _ => c_67 y x)) rfl (s_gT rfl (Ea (o_not rfl) (Ea (Eu rfl rfl) (Ea (Ee rfl) (Ed ?_)))))))))))
 refine Ec (Eb [2] rfl (Ek (Eo rfl rfl ?_)))
 rotate_left
 intro h3
 try rw [nnp] at h3
 refine Ei rfl (Ei rfl (Ei rfl (Ei rfl (Ei rfl (Ea (o_pickF rfl rfl) (Ea (Ee rfl) (Ed (Ec (Eb [2] rfl (Ek (Eo rfl rfl ?_)))))))))))
 rotate_left
 intro h2
 try rw [nnp] at h2
 refine Ei rfl (Ei rfl (Ei rfl (Ei rfl (Ei rfl (Ea (o_pickF rfl rfl) (s_keepO (is := [1, 22]) rfl (Ea (Ee rfl) (Ei rfl (Ei rfl (Ei rfl (Ei rfl ?_)))))))))))
 refine Ei rfl (Ea (o_pickF rfl rfl) (Ea (Ee rfl) (Ed (Ec (Eb [2] rfl (Ek (Eo rfl rfl ?_)))))))
 rotate_left
 intro h1
 try rw [nnp] at h1
 refine Ep (Ec (Eb [1, 3] rfl (Ef (Eg (Ea (o_faC rfl) (Ea (o_ldC rfl rfl rfl) (Ea (o_faC rfl) (Ea (o_ldC rfl rfl rfl) (Ea (o_faC rfl) (Ea (o_ldC rfl rfl rfl) ?_))))))))))
 first | refine Er rfl rfl (c_30 ..) ?_ | refine s_callL rfl rfl (by simp) (c_30 ..) rfl ?_
 refine Ea (Ee rfl) ?_
 first | refine s_gDT rfl ?_ ?_ | refine s_gNDT rfl ?_ ?_ | refine s_gNT rfl ?_ ?_ | refine s_gB rfl ?_ ?_
 intro h4
 try rw [nnp] at h4
 refine Ea (o_faC rfl) (s_gT rfl (Ea (o_ldC rfl rfl rfl) (s_gT rfl ?_)))
 first | refine Ea (o_lenM rfl) ?_ | refine Ea (o_len rfl) ?_ | refine Ea (o_lenL rfl rfl rfl) ?_ | refine Ea (o_lenN rfl) ?_
 refine s_gT rfl (Ea (Ee rfl) (s_gT rfl (Ea (o_eql rfl rfl) (Ea (Eu rfl rfl) (s_keepO (is := [1, 22]) rfl (Ea (Ee rfl) ?_))))))
 first | refine s_gDT rfl ?_ ?_ | refine s_gB rfl ?_ ?_
 intro h5
 try rw [nnp] at h5
 refine Ea (o_faC rfl) (s_gT rfl (Ea (o_ldC rfl rfl rfl) (s_gT rfl (Ea (o_fn rfl) (s_gT rfl (s_callL rfl rfl (by simp) (c_257 _ (by omega) _ _ rfl (fun d => !inB d 0 (limit x.size - 1)) (fun y _ => c_67 y x)) rfl (s_gT rfl (Ea (o_not rfl) (Ea (Eu rfl rfl) (Ea (Ee rfl) (Ed ?_)))))))))))
 refine Ec (Eb [2] rfl (Ek (Eo rfl rfl ?_)))
 rotate_left
 intro h5
 try rw [nnp] at h5
 refine Ei rfl (Ei rfl (Ei rfl (Ei rfl (Ei rfl (Ea (o_pickF rfl rfl) (Ea (Ee rfl) (Ed (Ec (Eb [2] rfl (Ek (Eo rfl rfl ?_)))))))))))
 rotate_left
 intro h4
 try rw [nnp] at h4
 refine Ei rfl (Ei rfl (Ei rfl (Ei rfl (Ei rfl (Ea (o_pickF rfl rfl) (s_keepO (is := [1, 22]) rfl (Ea (Ee rfl) (Ei rfl (Ei rfl (Ei rfl (Ei rfl ?_)))))))))))
 refine Ei rfl (Ea (o_pickF rfl rfl) (Ea (Ee rfl) (Ed (Ec (Eb [2] rfl (Ek (Eo rfl rfl ?_)))))))
 rotate_left
 all_goals
  first | (rw [data_not]; simp_all [Req.ok]; done) | (simp_all [Req.ok]; done)
theorem c_207 (x : Req) (hs : x.small) : CV prg 207 [.agg x.r] (fun res => res = .w (.bool x.ok)) := by
 have hd : x.data.length ≤ 1048576 := hs
 have hz := limit_bd x.size
 refine cv_in g207 (Eb [0] rfl (Ef (Eg (Ea (o_box rfl rfl rfl) (Ea (Ee rfl) (Ed (Ec (Eb [1] rfl (Ef (Ef (Eg ?_)))))))))))
 refine Ea (o_faC rfl) (Ea (o_ldC rfl rfl rfl) (Ea (o_faC rfl) (Ea (o_ldC rfl rfl rfl) (Ea (o_faC rfl) (Ea (o_ldC rfl rfl rfl) ?_)))))
 first | refine Er rfl rfl (c_180 ..) ?_ | refine s_callL rfl rfl (by simp) (c_180 ..) rfl ?_
 refine Ea (o_not rfl) (Ed (Ec (Eb [1, 11] rfl ?_)))
 first | refine Em rfl ?_ ?_ | refine s_condN rfl ?_ ?_ | refine s_condNB rfl ?_ ?_ | refine Ej rfl ?_ ?_
 intro h1
 try rw [nnp] at h1
 refine Ef (Eg (Ea (Ee rfl) (Ed (Ec (Eb [2] rfl (Ek (En (Eo rfl rfl ?_))))))))
 rotate_left
 intro h1
 try rw [nnp] at h1
 refine Ep (Ec (Eb [1] rfl (Ef (Ef (Eg (Ea (Ee rfl) (Ed (Ec (Eb [1, 3] rfl (S_block (S_loop0 (ι := Nat) (fun i => i ≤ x.data.length ∧ (x.data.take i).all (fun v => inB v 0 (limit x.size - 1)) = true) (fun i => [(3, .w (.int .i64 (i : Int)))]) (fun i => x.data.length - i) 0 (by simp) rfl ⟨rfl, trivial⟩ (fun _ _ => rfl) rfl ?_)))))))))))
 intro i hi
 refine Eb [1, 3] rfl (Ef (Ef (Eg (Ea (Ee rfl) (Ea (o_faC rfl) (Ea (o_ldC rfl rfl rfl) ?_))))))
 first | refine Ea (o_lenM rfl) ?_ | refine Ea (o_len rfl) ?_ | refine Ea (o_lenL rfl rfl rfl) ?_ | refine Ea (o_lenN rfl) ?_
 refine Ea (o_lss rfl rfl) (Ed (Ec (Eb [1, 3, 16] rfl ?_)))
 first | refine Em rfl ?_ ?_ | refine Ej rfl ?_ ?_
 intro h2
 try rw [nnp] at h2
 refine Ep (Ec (Eb [1, 3] rfl (Ef (S_block (Ef (Eg (Ea (o_faC rfl) (Ea (o_ldC rfl rfl rfl) (Ea (Ee rfl) (s_iaM rfl rfl (by omega) ?_))))))))))
 intro y3 e3
 try simp only [Int.toNat_natCast, Int.toNat_zero] at e3
 refine Ea (o_ld rfl rfl) (Ea (o_faC rfl) (Ea (o_ldC rfl rfl rfl) ?_))
 first | refine Er rfl rfl (c_201 ..) ?_ | refine s_callL rfl rfl (by simp) (c_201 ..) rfl ?_
 first | refine Ea (o_subn rfl rfl (by omega)) ?_ | refine Ea (o_sub rfl rfl) ?_
 first | refine Er rfl rfl (c_230 ..) ?_ | refine s_callL rfl rfl (by simp) (c_230 ..) rfl ?_
 refine Ea (o_not rfl) (Ed (Ec (Eb [1, 3, 29] rfl ?_)))
 first | refine Em rfl ?_ ?_ | refine s_condN rfl ?_ ?_ | refine s_condNB rfl ?_ ?_ | refine Ej rfl ?_ ?_
 intro h4
 try rw [nnp] at h4
 refine Ef (Eg (Ea (Ee rfl) (Ed (Ec (Eb [2] rfl (Ek (q_blkR (En (q_loopR (q_blkR (En ?_)))))))))))
 refine Eo rfl rfl ?_
 rotate_left
 intro h4
 try rw [nnp] at h4
 refine Ep (q_blkN (Ec (Eb [1, 3] rfl (Eg (Ea (Ee rfl) ?_)))))
 first | refine Ea (o_addn rfl rfl (by omega)) ?_ | refine Ea (o_add rfl rfl) ?_
 refine Ea (Ee rfl) (Ed (q_loopN ?_))
 · exact ⟨i + 1, ⟨by omega, all_take (by assumption) hi.2 (by assumption)⟩, by omega, hasOf ⟨rfl, trivial⟩ rfl⟩
 intro h2
 try rw [nnp] at h2
 refine s_exit (q_seqX (q_loopX (q_blkH (Ec (Eb [1] rfl (Ef (Eg (Ea (o_faC rfl) (Ea (o_ldC rfl rfl rfl) ?_)))))))))
 first | refine Ea (o_lenM rfl) ?_ | refine Ea (o_len rfl) ?_ | refine Ea (o_lenL rfl rfl rfl) ?_ | refine Ea (o_lenN rfl) ?_
 refine Ea (o_eql rfl rfl) (Ea (Ee rfl) ?_)
 first | refine s_gDT rfl ?_ ?_ | refine s_gB rfl ?_ ?_
 intro h5
 try rw [nnp] at h5
 refine Ea (o_faC rfl) (s_gT rfl (Ea (o_ldC rfl rfl rfl) (s_gT rfl (Ea (o_not rfl) (Ea (Eu rfl rfl) (Ea (Ee rfl) ?_))))))
 first | refine s_gDF rfl ?_ ?_ | refine s_gNDF rfl ?_ ?_ | refine s_gNF rfl ?_ ?_ | refine s_gB rfl ?_ ?_
 intro h6
 try rw [nnp] at h6
 refine Ea (o_faC rfl) (s_gT rfl (Ea (o_ldC rfl rfl rfl) (s_gT rfl ?_)))
 first | refine Ea (o_lenM rfl) ?_ | refine Ea (o_len rfl) ?_ | refine Ea (o_lenL rfl rfl rfl) ?_ | refine Ea (o_lenN rfl) ?_
 refine s_gT rfl (Ea (o_faC rfl) (s_keepO (is := [1, 39, 42, 43]) rfl (s_gT rfl (Ea (o_ldC rfl rfl rfl) (s_gT rfl ?_)))))
 first | refine Er rfl rfl (c_173 ..) ?_ | refine s_callL rfl rfl (by simp) (c_173 ..) rfl ?_
 refine s_gT rfl (Ea (o_eql rfl rfl) (s_gT rfl (Ea (Ee rfl) ?_)))
 first | refine s_gDT rfl ?_ ?_ | refine s_gB rfl ?_ ?_
 intro h7
 try rw [nnp] at h7
 refine Ea (o_faC rfl) (s_gT rfl (Ea (o_ldC rfl rfl rfl) (s_gT rfl (Ea (Eu rfl rfl) (Ea (o_pickF rfl rfl) (Ea (Ee rfl) (Ed (Ec (Eb [2] rfl (Ek (Eo rfl rfl ?_)))))))))))
 rotate_left
 intro h7
 try rw [nnp] at h7
 refine Ei rfl (Ei rfl (s_gT rfl (Ea (o_pickF rfl rfl) (Ea (o_pickF rfl rfl) (Ea (Ee rfl) (Ed (Ec (Eb [2] rfl (Ek (Eo rfl rfl ?_))))))))))
 rotate_left
 intro h6
 try rw [nnp] at h6
 refine Ei rfl (Ei rfl (Ei rfl (Ei rfl (s_keepO (is := [1, 39, 42, 43]) rfl (Ei rfl (Ei rfl (Ei rfl (Ei rfl (s_gN rfl (s_gN rfl (Ei rfl ?_)))))))))))
 refine Ea (Eu rfl rfl) (Ea (Ee rfl) (Ed (Ec (Eb [2] rfl (Ek (Eo rfl rfl ?_))))))
 rotate_left
 intro h5
 try rw [nnp] at h5
 refine Ei rfl (Ei rfl (Ei rfl (Ea (o_pickF rfl rfl) (Ea (Ee rfl) (s_gT rfl (Ea (o_faC rfl) (s_gT rfl (Ea (o_ldC rfl rfl rfl) (s_gT rfl ?_)))))))))
 first | refine Ea (o_lenM rfl) ?_ | refine Ea (o_len rfl) ?_ | refine Ea (o_lenL rfl rfl rfl) ?_ | refine Ea (o_lenN rfl) ?_
 refine s_gT rfl (Ea (o_faC rfl) (s_keepO (is := [1, 39, 42, 43]) rfl (s_gT rfl (Ea (o_ldC rfl rfl rfl) (s_gT rfl ?_)))))
 first | refine Er rfl rfl (c_173 ..) ?_ | refine s_callL rfl rfl (by simp) (c_173 ..) rfl ?_
 refine s_gT rfl (Ea (o_eql rfl rfl) (s_gT rfl (Ea (Ee rfl) ?_)))
 first | refine s_gDT rfl ?_ ?_ | refine s_gB rfl ?_ ?_
 intro h8
 try rw [nnp] at h8
 refine Ea (o_faC rfl) (s_gT rfl (Ea (o_ldC rfl rfl rfl) (s_gT rfl (Ea (Eu rfl rfl) (Ea (o_pickF rfl rfl) (Ea (Ee rfl) (Ed (Ec (Eb [2] rfl (Ek (Eo rfl rfl ?_)))))))))))
 rotate_left
 intro h8
 try rw [nnp] at h8
 refine Ei rfl (Ei rfl (s_gT rfl (Ea (o_pickF rfl rfl) (Ea (o_pickF rfl rfl) (Ea (Ee rfl) (Ed (Ec (Eb [2] rfl (Ek (Eo rfl rfl ?_))))))))))
 rotate_left
 all_goals
  first | (unfold Req.ok; rw [all_no (by assumption) (by assumption)]; simp; done) | (have ha := all_end hi.2 (by omega); clear hi; cases hw : x.write <;> simp_all [Req.ok]; done) | (have ha := all_end hi.2 (by omega); clear hi; cases hw : x.write <;> simp_all [Req.ok] <;> omega) | (simp_all [Req.ok]; done)
def Mst.beats (m : Mst) : Int := match m.queue[0]? with | some r => AL.beats r.burst | none => 0
def Mst.right (m : Mst) : Bool := decide (m.queue.length ≤ 4) && decide (0 ≤ m.tries) && m.queue.all Req.ok &&
 (if m.queue.length = 0 then decide (m.beat = 0) && decide (m.done = 0) && decide (m.tries = 0) && !m.parted && !m.broken else inB m.done 0 (m.beats - 1) && inB m.beat m.done (min (m.done + 2) m.beats))
theorem Mst.beats_bd (m : Mst) : 0 ≤ m.beats ∧ m.beats ≤ 8 := by
 unfold Mst.beats
 split
 · exact AL.beats_bd _
 · simp
def okAt (c : Conf) (s : Script) (i : Nat) : Bool := match s.posts[i]? with
 | some p => inB p.moment 0 4000 && inB p.who 0 (c.masters.length - 1) && p.req.ok && (match i with
   | 0 => true
   | j + 1 => match s.posts[j]? with
     | some q => decide (q.moment ≤ p.moment)
     | none => true)
 | none => true
def Script.ok (s : Script) (c : Conf) : Bool := c.ok && decide (s.posts.length ≤ 20) && decide (s.waits.length ≤ 20) && decide (s.says.length ≤ 20) && (List.range s.posts.length).all (okAt c s)
def markI (k : Int) (i : Nat) : Int := k + 1 * i
def markD1 (k : Int) : Done := ⟨k, k + 1, decide ((k + 1 + 1).tmod 3 = 0), k + 1 + 1 + 1, k + 1 + 1 + 1 + 1, k + 1 + 1 + 1 + 1 + 1, k + 1 + 1 + 1 + 1 + 1 + 1⟩
theorem cg_337 (xs : List Int) (k : Int) (hl : xs.length ≤ 1048576) (hk : 0 ≤ k ∧ k ≤ 1099511627776) : GV prg 337 [.arr 1 (xs.map iR)] [.ls 0 xs.length, .w (.int .i64 k)] (fun u L1 => u = .w (.int .i64 (k + 1 * xs.length)) ∧ L1 = [.arr 1 (((List.range xs.length).map (markI k)).map iR)]) := by
 refine gv_in g337 (Eb [0, 1] rfl (Ef (Eg (Ea (Ee rfl) (Ed (Ec (Eb [0, 1] rfl (Ef (Ef (Eg (Ea (Ee rfl) ?_)))))))))))
 refine Ed (Ec (Eb [0, 1, 5] rfl (S_block (S_loop (ι := Nat) (fun i => i ≤ xs.length) (fun i => [(5, .w (.int .i64 (i : Int))), (1, .w (.int .i64 (k + 1 * (i : Int))))]) (fun i => [.arr 1 (mix iR (markI k) xs i)]) (fun i => xs.length - i) 1 0 (by simp) rfl (hasOf ⟨rfl, congrArg (fun b => some (V.w (.int .i64 b))) (by simp), trivial⟩ (by rw [mix_zero]; rfl)) rfl (fun _ _ => rfl) (fun _ _ => ⟨rfl, rfl⟩) ?_))))
 intro i hi
 obtain ⟨y0, hy0⟩ : ∃ y, i < xs.length → xs[i]? = some y := by
  by_cases h : i < xs.length
  · exact ⟨xs[i], fun _ => List.getElem?_eq_getElem h⟩
  · exact ⟨markI k 0, fun h2 => absurd h2 h⟩
 refine Eb [0, 1, 5] rfl (Ef (Ef (Eg (Ea (Ee rfl) (Ea (Ee rfl) (Ea (o_lenL rfl rfl (by (try simp only [Int.toNat_natCast, List.length_set]); first | exact List.length_map .. | exact mix_len _ _ _ _ hi)) (Ea (o_lss rfl rfl) (Ed (Ec (Eb [0, 1, 5, 9] rfl ?_))))))))))
 first | refine Em rfl ?_ ?_ | refine Ej rfl ?_ ?_
 intro h1
 try rw [nnp] at h1
 refine Ep (Ec (Eb [0, 1, 5] rfl (Ef (S_block (Ef (Eg (Ea (Ee rfl) (Ea (Ee rfl) (Ea (Ee rfl) (Ea (o_iaL rfl rfl (by (try simp only [Int.toNat_natCast, List.length_set]); first | exact List.length_map .. | exact mix_len _ _ _ _ hi) rfl (by omega)) (s_opN (o_stA rfl rfl rfl rfl (by (try simp only [Int.toNat_natCast, List.length_set]); first | exact List.length_map .. | exact mix_len _ _ _ _ hi) (by (try rw [Int.toNat_natCast]); first | exact set_at (by (try simp only [List.length_set]); rw [mix_len _ _ _ _ hi]; omega) | exact mix_at _ _ (hy0 (by omega))) rfl rfl) ?_)))))))))))
 refine Ed (Ec (Eb [0, 1, 5] rfl (Eg (Ea (Ee rfl) ?_))))
 first | refine Ea (o_addn rfl rfl (by omega)) ?_ | refine Ea (o_add rfl rfl) ?_
 refine Ea (Ee rfl) (Ed (q_blkN (Ec (Eb [0, 1, 5] rfl (Eg (Ea (Ee rfl) ?_))))))
 first | refine Ea (o_addn rfl rfl (by omega)) ?_ | refine Ea (o_add rfl rfl) ?_
 refine Ea (Ee rfl) (Ed (q_loopN ?_))
 · refine ⟨i + 1, by omega, by omega, hasOf ⟨rfl, congrArg (fun b => some (V.w (.int .i64 b))) (by omega), trivial⟩ ?_⟩
   simp only [Int.toNat_natCast]
   rw [← mix_set _ _ (by assumption)]; rfl
 intro h1
 try rw [nnp] at h1
 refine s_exit (q_seqX (q_loopX (q_blkH (Ec (Eb [1] rfl (Ef (Eg (Ea (Ee rfl) (Ea (Ee rfl) (Ed (Ec ?_)))))))))))
 refine Eb [4] rfl (Ek ?_)
 · refine Eh [] (.inr rfl) rfl rfl rfl rfl (show (List.range 1 ++ []).Nodup by decide) ?_
   exact ⟨by rw [show (i : Int) = xs.length by omega], by rw [mix_end _ _ _ (by assumption) hi]⟩
theorem c_380 (n : Nat) (k : Int) (hl : n ≤ 1048576) (hk : 0 ≤ k ∧ k ≤ 1099511627776) : CV prg 380 [.sl 1 (((List.range n).map (markI k)).map iR), .w (.int .i64 k)] (fun res => res = .w (.int .i64 (k + 1 * n))) := by
 have hln : ((List.range n).map (markI k)).length = n := by simp
 refine cv_in g380 (Eb [0, 1] rfl (Ef (Eg (Ea (Ee rfl) (Ed (Ec (Eb [0, 1] rfl (Ef (Ef (Eg (Ea (Ee rfl) ?_)))))))))))
 refine Ed (Ec (Eb [0, 1, 5] rfl (S_block (S_loop0 (ι := Nat) (fun i => i ≤ n) (fun i => [(5, .w (.int .i64 (i : Int))), (1, .w (.int .i64 (k + 1 * (i : Int))))]) (fun i => n - i) 0 (by simp) rfl ⟨rfl, congrArg (fun b => some (V.w (.int .i64 b))) (by simp), trivial⟩ (fun _ _ => rfl) rfl ?_))))
 intro i hi
 refine Eb [0, 1, 5] rfl (Ef (Ef (Eg (Ea (Ee rfl) (Ea (Ee rfl) ?_)))))
 first | refine Ea (o_lenM rfl) ?_ | refine Ea (o_len rfl) ?_
 refine Ea (o_lss rfl rfl) (Ed (Ec (Eb [0, 1, 5, 9] rfl ?_)))
 first | refine Em rfl ?_ ?_ | refine Ej rfl ?_ ?_
 intro h1
 try rw [nnp] at h1
 refine Ep (Ec (Eb [0, 1, 5] rfl (Ef (S_block (Ef (Ef (Eg (Ea (Ee rfl) (Ea (Ee rfl) (s_iaM rfl rfl (by omega) ?_))))))))))
 intro y2 e2
 simp only [Int.toNat_natCast] at e2; obtain rfl := mks_at e2
 refine Ea (o_ld rfl rfl) (Ea (Ee rfl) (Ea (o_neq rfl rfl) (Ed (Ec (Eb [0, 1, 5, 17] rfl ?_)))))
 first | refine Em rfl ?_ ?_ | refine Ej rfl ?_ ?_
 intro h3
 try rw [nnp] at h3
 refine Ef (Eg (Ea (Ee rfl) (Ed (Ec (Eb [4] rfl (Ek (En (q_blkR (En (q_loopR (q_blkR ?_)))))))))))
 refine En (ret_leafIR rfl rfl ?_)
 rotate_left
 intro h3
 try rw [nnp] at h3
 refine Ep (Ec (Eb [0, 1, 5] rfl (Eg (Ea (Ee rfl) ?_))))
 first | refine Ea (o_addn rfl rfl (by omega)) ?_ | refine Ea (o_add rfl rfl) ?_
 refine Ea (Ee rfl) (Ed (q_blkN (Ec (Eb [0, 1, 5] rfl (Eg (Ea (Ee rfl) ?_))))))
 first | refine Ea (o_addn rfl rfl (by omega)) ?_ | refine Ea (o_add rfl rfl) ?_
 refine Ea (Ee rfl) (Ed (q_loopN ?_))
 · exact ⟨i + 1, by omega, by omega, hasOf ⟨rfl, congrArg (fun b => some (V.w (.int .i64 b))) (by omega), trivial⟩ rfl⟩
 intro h1
 try rw [nnp] at h1
 refine s_exit (q_seqX (q_loopX (q_blkH (Ec (Eb [1] rfl (Ef (Eg (Ea (Ee rfl) (Ea (Ee rfl) (Ed (Ec ?_)))))))))))
 refine Eb [4] rfl (Ek (ret_leafIR rfl rfl ?_))
 rotate_left
 all_goals
  first | (rw [show (i : Int) = n by omega]; done) | (exfalso; first | exact absurd rfl (by assumption) | (simp_all [markI]; done) | (simp_all [markI, markD1]; done))
theorem cg_329 (w l : Bool) (a s b : Int) (xs : List Int) (k : Int) (hl : xs.length ≤ 1048576) (hk : 0 ≤ k ∧ k ≤ 1099511627776) : GV prg 329 [.arr 1 (xs.map iR)] [.agg [.w (.bool w), .w (.int .i64 a), .w (.int .i64 s), .w (.int .i64 b), .w (.bool l), .ls 0 xs.length], .w (.int .i64 k)] (fun u L1 => u = .w (.int .i64 (k + 1 * xs.length)) ∧ L1 = [.arr 1 (((List.range xs.length).map (markI k)).map iR)]) := by
 refine gv_in g329 (Eb [0, 1] rfl (Ef (Eg (Ea (o_box rfl rfl rfl) (Ea (Ee rfl) (Ed (Ec (Eb [1, 2] rfl (Ef (Eg (Ea (o_faC rfl) ?_)))))))))))
 refine Ea (o_ldC rfl rfl rfl) (Ea (Ee rfl) (s_callG [0] rfl rfl rfl rfl (by simp) (.inl rfl) (cg_337 _ _ hl hk) ?_))
 rintro u L1 ⟨rfl, rfl⟩
 refine ⟨_, _, rfl, rfl, ?_⟩
 refine Ea (Ee rfl) (Ed (Ec (Eb [1] rfl (Ef (Eg (Ea (Ee rfl) (Ea (Ee rfl) (Ed (Ec (Eb [4] rfl (Ek ?_)))))))))))
 · refine Eh [] (.inr rfl) rfl rfl rfl rfl (show (List.range 1 ++ []).Nodup by decide) ?_
   exact ⟨rfl, rfl⟩
def Wrr.hit (w : Wrr) (req : List Bool) (i : Nat) : Bool := (req[((w.pos + ((i : Int) + 1)).tmod req.length).toNat]?).getD false
def Wrr.pick (w : Wrr) (c : Conf) (req : List Bool) : Wrr × Int := if w.ok c && decide (req.length = c.masters.length) then
    (if decide (0 < w.credit) && (req[w.pos.toNat]?).getD false then (⟨w.pos, IntKind.wrap .i64 (w.credit - 1)⟩, w.pos)
     else match (List.range req.length).find? (w.hit req) with
      | some i => (⟨(w.pos + ((i : Int) + 1)).tmod req.length, IntKind.wrap .i64 (c.turn ((w.pos + ((i : Int) + 1)).tmod req.length) - 1)⟩, (w.pos + ((i : Int) + 1)).tmod req.length)
      | none => (⟨w.pos, 0⟩, -1))
 else (w, -1)
def cur (code : List Int) (i h : Int) : LB := .cell [.sl 1 (code.map uR), .w (.int .i64 i), .w (.int .i64 h)]
def Bucket.ok (b : Bucket) (m : MConf) : Bool := if m.prio then inB b.tokens 0 m.cap && decide (0 ≤ b.count) && decide (b.count < m.every) else decide (b.tokens = 0) && decide (b.count = 0)
def Bucket.take (b : Bucket) (m : MConf) : Bucket × Bool := if m.prio && b.ok m && decide (b.tokens ≠ 0) then (⟨b.tokens - 1, b.count⟩, true) else (b, false)
def Bucket.back (b : Bucket) (m : MConf) : Bucket := if m.prio && b.ok m && decide (b.tokens < m.cap) then ⟨b.tokens + 1, b.count⟩ else b
def MConf.most (m : MConf) (n : Int) : Int := if m.prio = true ∧ 1 ≤ m.every ∧ 0 ≤ m.cap ∧ inB n 0 4000 = true then m.cap + n.tdiv m.every + 1 else 0
def Script.fit (s : Script) : Prop := s.posts.length ≤ 6 ∧ (∀ p, p ∈ s.posts → p.req.data.length ≤ 16) ∧ (s.waits.length ≤ 6 ∧ ∀ y, y ∈ s.waits → 0 ≤ y ∧ y ≤ 16) ∧ s.says.length ≤ 6 ∧ ∀ y, y ∈ s.says → 0 ≤ y ∧ y ≤ 16
def byteB (v : Int) : Bool := inB v 0 255
def wordB (v : Int) : Bool := inB v 0 (limit 2 - 1)
def Dev.ok (d : Dev) : Bool := decide ((d.regs.length : Int) = 4) && decide ((d.fifo.length : Int) ≤ 4) && d.regs.all wordB && d.fifo.all wordB && wordB d.timer
def Model.ok (m : Model) : Bool := decide ((m.ram.length : Int) = 192) && m.ram.all byteB && m.dev.ok
def liveL (b : Bus) : List Beat := [b.addr, b.data].filter (fun x => x.live)
def Beat.none : Beat := ⟨false, 0, 0, false, 0, 0, 0, false⟩
def cntW (l : List Beat) (i : Nat) : Int := ((l.filter (fun x : Beat => decide (x.who = (i : Int)))).length : Int)
def fl (b : Bus) (j : Nat) : List (List V) := (List.range b.ms.length).map (fun i => iR (cntW ((liveL b).take j) i))
def Mst.backC (m : Mst) : Bool := m.right && decide (m.beat ≠ m.done)
def Mst.back (m : Mst) : Mst × Bool := if m.backC then (⟨m.queue, m.beat - 1, m.done, m.tries, m.parted, m.broken⟩, true) else (m, false)
def Mst.finC (m : Mst) : Bool := m.right && decide (m.beat ≠ m.done)
def Mst.fin (m : Mst) : Mst × Bool := if m.finC then (if m.done + 1 = m.beats then (⟨m.queue.drop 1, 0, 0, 0, false, false⟩, true) else (⟨m.queue, m.beat, m.done + 1, 0, false, m.broken⟩, true)) else (m, false)
def Mst.postC (m : Mst) (x : Req) : Bool := m.right && x.ok && decide (¬ (m.queue.length : Int) = 4)
def Mst.post (m : Mst) (x : Req) : Mst × Bool := if m.postC x then (⟨m.queue ++ [x], m.beat, m.done, m.tries, m.parted, m.broken⟩, true) else (m, false)
def Mst.fit (m : Mst) : Prop := m.queue.length ≤ 4 ∧ ∀ x, x ∈ m.queue → x.data.length ≤ 16
def Mst.fit5 (m : Mst) : Prop := m.queue.length ≤ 5 ∧ ∀ x, x ∈ m.queue → x.data.length ≤ 16
theorem Mst.fit.to5 {m : Mst} (h : m.fit) : m.fit5 := ⟨Nat.le_trans h.1 (by decide), h.2⟩
theorem Mst.fit5.small {m : Mst} (h : m.fit5) : m.small := ⟨Nat.le_trans h.1 (by decide), fun x hx => Nat.le_trans (h.2 x hx) (by decide)⟩
theorem Mst.fit.small {m : Mst} (h : m.fit) : m.small := h.to5.small
theorem Mst.fit.back {m : Mst} (h : m.fit) : m.back.1.fit := by
 unfold Mst.back
 split
 · exact h
 · exact h
theorem Mst.fit.fin {m : Mst} (h : m.fit) : m.fin.1.fit := by
 unfold Mst.fin
 split
 · split
   · exact ⟨by simp only [List.length_drop]; have := h.1; omega, fun x hx => h.2 x (List.mem_of_mem_drop hx)⟩
   · exact h
 · exact h
theorem Mst.fit.post {m : Mst} (h : m.fit) {x : Req} (hx : x.data.length ≤ 16) : (m.post x).1.fit := by
 unfold Mst.post
 split
 · rename_i hc
   unfold Mst.postC at hc
   simp only [Bool.and_eq_true, decide_eq_true_eq] at hc
   refine ⟨by simp only [List.length_append, List.length_cons, List.length_nil]; have := h.1; omega, fun y hy => ?_⟩
   rcases List.mem_append.1 hy with hy | hy
   · exact h.2 y hy
   · rw [List.mem_singleton.1 hy]; exact hx
 · exact h
def Mst.n (x : Mst) : List V := [.w (.slice none 0 0), .w (.int .i64 x.beat), .w (.int .i64 x.done), .w (.int .i64 x.tries), .w (.bool x.parted), .w (.bool x.broken)]
def Bus.mid (b : Bus) : List V := [.w (.int .i64 b.holder), .w (.int .i64 b.kept), .w (.int .i64 b.last), .w (.bool b.addr.live), .w (.int .i64 b.addr.who), .w (.int .i64 b.addr.num), .w (.bool b.addr.first), .w (.int .i64 b.addr.via), .w (.int .i64 b.addr.left), .w (.int .i64 b.addr.resp), .w (.bool b.addr.second), .w (.bool b.data.live), .w (.int .i64 b.data.who), .w (.int .i64 b.data.num), .w (.bool b.data.first), .w (.int .i64 b.data.via), .w (.int .i64 b.data.left), .w (.int .i64 b.data.resp), .w (.bool b.data.second)]
def Bus.o (b : Bus) : List V := [.ls 0 b.conf.masters.length, .w (.int .i64 b.conf.quantum), .w (.int .i64 b.conf.maxWait), .w (.int .i64 b.conf.maxRetry), .w (.int .i64 b.conf.maxSplit), .w (.int .i64 b.conf.lockMost), .w (.int .i64 b.now), .ls 1 b.ms.length, .w (.int .i64 b.arb.pos), .w (.int .i64 b.arb.credit), .ls 2 b.buckets.length, .ls 3 b.splits.length] ++ b.mid ++ [.ls 4 b.model.ram.length, .ls 5 b.model.dev.regs.length, .w (.int .i64 b.model.dev.timer), .ls 6 b.model.dev.fifo.length, .w (.int .i64 b.picks), .ls 7 b.log.length]
def Bus.n (b : Bus) : List V := [.sl 4 (b.conf.masters.map MConf.r), .w (.int .i64 b.conf.quantum), .w (.int .i64 b.conf.maxWait), .w (.int .i64 b.conf.maxRetry), .w (.int .i64 b.conf.maxSplit), .w (.int .i64 b.conf.lockMost), .w (.int .i64 b.now), .sl 6 (b.ms.map Mst.n), .w (.int .i64 b.arb.pos), .w (.int .i64 b.arb.credit), .sl 2 (b.buckets.map Bucket.r), .sl 1 (b.splits.map iR)] ++ b.mid ++ [.sl 1 (b.model.ram.map iR), .sl 1 (b.model.dev.regs.map iR), .w (.int .i64 b.model.dev.timer), .sl 1 (b.model.dev.fifo.map iR), .w (.int .i64 b.picks), .sl 7 (b.log.map Done.r)]
def Bus.rows (b : Bus) : List LB := [.arr 4 (b.conf.masters.map MConf.r), .arr 6 (b.ms.map Mst.n), .arr 2 (b.buckets.map Bucket.r), .arr 1 (b.splits.map iR), .arr 1 (b.model.ram.map iR), .arr 1 (b.model.dev.regs.map iR), .arr 1 (b.model.dev.fifo.map iR), .arr 7 (b.log.map Done.r)]
def Req.w (r : Req) (x : Value) : List V := [.w (.bool r.write), .w (.int .i64 r.addr), .w (.int .i64 r.size), .w (.int .i64 r.burst), .w (.bool r.lock), .raw x]
def one (a : Option Nat) (xs : List Int) : Mem := match a with
 | some ad => upd M0 ad (some ⟨xs.map (Value.int .i64), true, 1⟩)
 | none => M0
def sumQ : List Req → Int
 | [] => 0
 | r :: q => r.data.length + sumQ q
theorem sumQ_le (q : List Req) : sumQ q = (sumL Req.sz q : Nat) := by
 induction q with
 | nil => rfl
 | cons r q ih => rw [sumQ, sumL, ih]; simp [Req.sz]
def MB (k : Int) (m : Mst) : Prop := m.small ∧ m.queue.length ≤ 1048576 ∧ sumQ m.queue ≤ k
theorem MB.of {m : Mst} (h : m.sz ≤ 1048576) : MB (m.sz : Nat) m := ⟨Mst.small_of h, by unfold Mst.sz at h; omega, by rw [sumQ_le]; unfold Mst.sz; omega⟩
theorem MB.le {m : Mst} {k l : Int} (h : MB k m) (hk : k ≤ l) : MB l m := ⟨h.1, h.2.1, Int.le_trans h.2.2 hk⟩
theorem MB.q {m y : Mst} {k} (h : MB k m) (e : y.queue = m.queue) : MB k y := ⟨⟨by rw [e]; exact h.1.1, by rw [e]; exact h.1.2⟩, by rw [e]; exact h.2⟩
theorem sumQ_drop (q : List Req) : sumQ (q.drop 1) ≤ sumQ q := by
 cases q with
 | nil => exact Int.le_refl _
 | cons r q => simp only [List.drop_succ_cons, List.drop_zero, sumQ]; omega
theorem MB.drop {m y : Mst} {k} (h : MB k m) (e : y.queue = m.queue.drop 1) : MB k y :=
 ⟨⟨by rw [e, List.length_drop]; exact Nat.le_trans (Nat.sub_le _ _) h.1.1, by rw [e]; exact fun x hx => h.1.2 x (List.mem_of_mem_drop hx)⟩, by rw [e, List.length_drop]; exact Nat.le_trans (Nat.sub_le _ _) h.2.1, by rw [e]; exact Int.le_trans (sumQ_drop _) h.2.2⟩
theorem Vew.two {OL : Ob} {u u' w : V} (h : ∀ M', (∀ (i : Nat) D, OL[i]? = some D → sub D M') → ∀ x, RF M' u x → RF M' u' x) : Vew OL [u, w] [u', w] := fun M' hM' args hp => by
 obtain ⟨x, r, rfl, g1, g2⟩ := hp.uncons
 exact Pt.cons (h M' hM' x g1) g2
theorem c_187 (n : Int) (hn : -9223372036854775808 ≤ n ∧ n ≤ 9223372036854775807) : CV prg 187 [.w (.int .i64 n)] (fun res => res = .w (.string ⟨(Lib.itoa n).toArray⟩)) := by
 refine cv_in g187 (Eb [0] rfl (Ef (Eg (Ea (Ee rfl) (Ed (Ec (Eb [0] rfl (Ef (Ef (Eg (Ea (Ee rfl) ?_)))))))))))
 refine Ea (o_eql rfl rfl) (Ed (Ec (Eb [0, 7] rfl ?_)))
 first | refine Em rfl ?_ ?_ | refine Ej rfl ?_ ?_
 intro h1
 try rw [nnp] at h1
 refine Ef (Eg (Ea (Ee rfl) (Ed (Ec (Eb [2] rfl (Ek (En (ret_leafR rfl rfl ?_))))))))
 rotate_left
 intro h1
 try rw [nnp] at h1
 refine Ep (Ec (Eb [0] rfl (Ef (Eg (Ea (Ee rfl) (Ed (Ec (Eb [0, 3] rfl (Ef (Eg (Ea (Ee rfl) ?_)))))))))))
 refine Ea (o_lss rfl rfl) (Ea (Ee rfl) (Ed (Ec (Eb [0, 3, 4] rfl (Ef (S_block (S_loop0 (ι := Int × List UInt8) (fun p => (-9223372036854775808 ≤ p.1 ∧ p.1 ≤ 9223372036854775807) ∧ restD p.1 ++ p.2 = Lib.decDigits n.natAbs) (fun p => [(0, .w (.int .i64 p.1)), (3, .w (.string ⟨(p.2).toArray⟩))]) (fun p => p.1.natAbs) (n, []) ⟨hn, dec_start (by assumption)⟩ rfl ⟨rfl, rfl, trivial⟩ (fun _ _ => rfl) rfl ?_)))))))
 rintro ⟨m, out⟩ hp
 obtain ⟨hm, hr⟩ := hp
 simp only at hm hr
 refine Eb [0, 3, 4] rfl ?_
 dsimp only
 refine Ef (Ef (Eg (Ea (Ee rfl) (Ea (o_neq rfl rfl) (Ed (Ec (Eb [0, 3, 4, 11] rfl ?_)))))))
 first | refine Em rfl ?_ ?_ | refine Ej rfl ?_ ?_
 intro h2
 try rw [nnp] at h2
 refine Ep (Ec (Eb [0, 3, 4] rfl (S_block (Ef (Eg (Ea (Ee rfl) ?_))))))
 first | refine Ea (o_rem rfl rfl (by decide)) ?_ | refine Ea (o_rem rfl rfl (by omega)) ?_
 refine Ea (Ee rfl) (Ed (Ec (Eb [0, 3, 4, 5] rfl (Ef (Ef (Eg (Ea (Ee rfl) (Ea (o_lss rfl rfl) (Ed (Ec (Eb [0, 3, 4, 5, 15] rfl ?_)))))))))))
 first | refine Em rfl ?_ ?_ | refine Ej rfl ?_ ?_
 intro h3
 try rw [nnp] at h3
 refine Eg (Ea (Ee rfl) (Ea (o_neg rfl) (Ea (Ee rfl) (Ed (Ec (Eb [0, 3, 4, 5] rfl (Ef (Eg (Ea (Ee rfl) (Ea (o_add rfl rfl) (Ea (o_cvi rfl) ?_)))))))))))
 refine Ea (o_bs rfl rfl rfl rfl) (Ea (o_cvbs1 rfl rfl (wrap_u8 _)) (Ea (Ee rfl) (Ea (o_adds rfl rfl (by have := dec_short hn hr; simp only [List.length_cons, List.length_nil]; omega)) (Ea (Ee rfl) (Ed (Ec (Eb [0, 3, 4] rfl (Eg (Ea (Ee rfl) ?_)))))))))
 first | refine Ea (o_quo rfl rfl (by decide)) ?_ | refine Ea (o_quo rfl rfl (by omega)) ?_
 refine Ea (Ee rfl) (Ed (q_blkN (q_loopN ?_)))
 · have hm0 : ¬ m = 0 := by assumption
   first | (have hd := dig_neg hm (by assumption); have h9 := dec_round hm0 hm hr hd; exact ⟨(_, _), h9, natAbs_next hm0 hm, hasOf ⟨rfl, rfl, trivial⟩ rfl⟩) | (have hd := dig_pos (n := m) (by assumption); have h9 := dec_round hm0 hm hr hd; exact ⟨(_, _), h9, natAbs_next hm0 hm, hasOf ⟨rfl, rfl, trivial⟩ rfl⟩)
 intro h3
 try rw [nnp] at h3
 refine Ep (Ec (Eb [0, 3, 4, 5] rfl (Ef (Eg (Ea (Ee rfl) (Ea (o_add rfl rfl) (Ea (o_cvi rfl) (Ea (o_bs rfl rfl rfl rfl) (Ea (o_cvbs1 rfl rfl (wrap_u8 _)) (Ea (Ee rfl) (Ea (o_adds rfl rfl (by have := dec_short hn hr; simp only [List.length_cons, List.length_nil]; omega)) ?_)))))))))))
 refine Ea (Ee rfl) (Ed (Ec (Eb [0, 3, 4] rfl (Eg (Ea (Ee rfl) ?_)))))
 first | refine Ea (o_quo rfl rfl (by decide)) ?_ | refine Ea (o_quo rfl rfl (by omega)) ?_
 refine Ea (Ee rfl) (Ed (q_blkN (q_loopN ?_)))
 · have hm0 : ¬ m = 0 := by assumption
   first | (have hd := dig_neg hm (by assumption); have h9 := dec_round hm0 hm hr hd; exact ⟨(_, _), h9, natAbs_next hm0 hm, hasOf ⟨rfl, rfl, trivial⟩ rfl⟩) | (have hd := dig_pos (n := m) (by assumption); have h9 := dec_round hm0 hm hr hd; exact ⟨(_, _), h9, natAbs_next hm0 hm, hasOf ⟨rfl, rfl, trivial⟩ rfl⟩)
 intro h2
 try rw [nnp] at h2
 refine s_exit (q_seqX (q_loopX (q_blkH (Ec (Eb [3, 4] rfl (Ef (Ef (Eg (Ea (Ee rfl) (Ed (Ec ?_)))))))))))
 refine Eb [3, 27] rfl ?_
 first | refine Em rfl ?_ ?_ | refine Ej rfl ?_ ?_
 intro h4
 try rw [nnp] at h4
 refine Ef (Eg (Ea (Ee rfl) (Ea (o_adds rfl rfl (by have := dec_short hn hr; simp only [List.length_cons, List.length_nil]; omega)) (Ea (Ee rfl) (Ed (Ec (Eb [2] rfl (Ek (En (ret_leafR rfl rfl ?_))))))))))
 rotate_left
 intro h4
 try rw [nnp] at h4
 refine Ep (Ec (Eb [3] rfl (Ef (Eg (Ea (Ee rfl) (Ea (Ee rfl) (Ed (Ec (Eb [2] rfl (Ek (ret_leafR rfl rfl ?_)))))))))))
 rotate_left
 all_goals
  first | exact dec_leaf2 hr (by assumption) (by assumption) | exact dec_leaf3 hr (by assumption) (by assumption) | exact dec_leaf1 (by assumption)
theorem c_38 (n : Int) (hn : -9223372036854775808 ≤ n ∧ n ≤ 9223372036854775807) : CV prg 38 [.w (.int .i64 n)] (fun res => res = .w (.string ⟨(Lib.itoa n).toArray⟩)) := by
 refine cv_in g38 (Eb [0] rfl (Ef (Eg (Ea (Ee rfl) (Ed (Ec (Eb [0] rfl (Ef (Eg (Ea (Ee rfl) (Er rfl rfl (cn_272 n hn) ?_)))))))))))
 refine Ea (Ee rfl) (Ed (Ec (Eb [2] rfl (Ek (ret_leafR rfl rfl ?_)))))
 rotate_left
 all_goals
  rfl
theorem dec_take {xs : List Int} {i : Nat} {y : Int} (h : xs[i]? = some y) : ((xs.take (i + 1)).map Lib.itoa).map stR = ((xs.take i).map Lib.itoa).map stR ++ [stR (Lib.itoa y)] := by
 rw [take_get h, List.map_append, List.map_append]; rfl
theorem cg_84 (xs : List Int) (hl : xs.length ≤ 1048576) (hw : ∀ y, y ∈ xs → i64 y) : GV prg 84 [] [.sl 1 (xs.map iR)] (fun u L1 => u = .ls 0 xs.length ∧ L1 = [.arr 1 ((xs.map Lib.itoa).map stR)]) := by
 refine gv_in g84 (Eb [0] rfl (Ef (Eg (Ea (Ee rfl) (Ed (Ec (Eb [0] rfl (Ef (Eg (Ea (o_bs rfl rfl rfl rfl) (Ea (Ee rfl) ?_)))))))))))
 refine Ed (Ec (Eb [0, 3] rfl (Ef (Ef (Eg (Ea (Ee rfl) ?_))))))
 first | refine Ea (o_lenM rfl) ?_ | refine Ea (o_len rfl) ?_
 refine Ea (Ee rfl) (Ed (Ec (Eb [3, 7, 8, 9] rfl (S_block (S_loop (ι := Nat) (fun i => i ≤ xs.length) (fun i => [(3, .ls 0 (((xs.take i).map Lib.itoa).map stR).length), (9, .w (.int .i64 (i : Int)))]) (fun i => [.arr 1 (((xs.take i).map Lib.itoa).map stR)]) (fun i => xs.length - i) 1 0 (by simp) rfl (hasOf ⟨rfl, rfl, trivial⟩ rfl) rfl (fun _ _ => rfl) (fun _ _ => ⟨rfl, rfl⟩) ?_)))))
 intro i hi
 refine Eb [3, 7, 8, 9] rfl (Ef (Eg (Ea (o_lss rfl rfl) (Ed (Ec (Eb [3, 7, 8, 9, 10] rfl (Ef ?_)))))))
 first | refine Em rfl ?_ ?_ | refine Ej rfl ?_ ?_
 intro h1
 try rw [nnp] at h1
 refine Ep (Ec (Eb [3, 7, 8, 9] rfl (Ef (S_block (Ef (Eg (s_iaM rfl rfl (by simp at *; omega) ?_)))))))
 intro y2 e2
 try simp only [Int.toNat_natCast, Int.toNat_zero] at e2
 refine Ea (o_ld rfl rfl) (Ea (Ee rfl) (Ed (Ec (Eb [3, 5, 7, 8, 9] rfl (Eg (Ea (Ee rfl) (Ea (Ee rfl) ?_)))))))
 first | refine Er rfl rfl (c_38 _ (hw _ (List.mem_of_getElem? (by assumption)))) ?_ | refine s_callL rfl rfl (by simp) (c_38 _ (hw _ (List.mem_of_getElem? (by assumption)))) rfl ?_
 refine Ea (o_bs rfl rfl rfl rfl) ?_
 first | refine Ea (o_appL rfl rfl rfl rfl rfl rfl rfl (by simp [roomy]; omega)) ?_ | refine Ea (o_app rfl rfl rfl rfl rfl (by simp [roomy]; omega)) ?_
 refine Ea (Ee rfl) (Ed (q_blkN (Ec (Eb [3, 7, 8, 9] rfl (Eg ?_)))))
 first | refine Ea (o_addn rfl rfl (by omega)) ?_ | refine Ea (o_add rfl rfl) ?_
 refine Ea (Ee rfl) (Ed (q_loopN ?_))
 · refine ⟨i + 1, by omega, by omega, hasOf ⟨?_, rfl, trivial⟩ ?_⟩ <;> rw [dec_take (by assumption)] <;> rfl
 intro h1
 try rw [nnp] at h1
 refine s_exit (q_seqX (q_loopX (q_blkH (Ec (Eb [3] rfl (Ef (Eg (Ea (Ee rfl) (Ea (Ee rfl) (Ed (Ec ?_)))))))))))
 refine Eb [2] rfl (Ek ?_)
 · refine Eh [0] (.inr rfl) rfl rfl rfl rfl (show (List.range 0 ++ [0]).Nodup by decide) ?_
   rw [take_end (show xs.length ≤ i by omega)]; exact ⟨by simp, rfl⟩
end Go.Proofs.YtoppcdecolponaaGreatDoor.AL
