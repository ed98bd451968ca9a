/- Functions in the small language, printed by program. -/
import Derived.Test.YtdlkgdlefbabcaaAl0
namespace Go.Proofs.Ytdlkgdlefbabcaa.AL
open Go

def F21 : Fnc := ⟨(.seq (.rg [p 4 (.mv (.k (.bool false)))])
 (.seq (.rg [p 5 (.mv (.t 1)),
 p 6 (.call 103 [(.t 5), (.k (.int .i64 0)), (.k (.int .i64 2))]),
 p 7 (.mv (.t 6)),
 ⟨(some 8), .mv (.t 0), (some (7, true)), false⟩,
 ⟨(some 9), .bin .geq (.t 8) (.k (.int .i64 0)), (some (7, true)), false⟩,
 p 10 (.pick (.t 7) (.t 9) (.k (.bool false))),
 p 11 (.mv (.t 10)),
 ⟨(some 12), .mv (.t 0), (some (11, true)), false⟩,
 ⟨(some 13), .mv (.t 1), (some (11, true)), false⟩,
 ⟨(some 14), .call 33 [(.t 13)], (some (11, true)), false⟩,
 ⟨(some 15), .bin .rem (.t 12) (.t 14), (some (11, true)), false⟩,
 ⟨(some 16), .bin .eql (.t 15) (.k (.int .i64 0)), (some (11, true)), false⟩,
 p 17 (.pick (.t 11) (.t 16) (.k (.bool false))),
 p 4 (.mv (.t 17))])
 .ret)),
 [.tmp 4]⟩

def F22 : Fnc := ⟨(.seq (.rg [p 2 (.mv (.k (.int .i64 0)))])
 (.seq (.seq (.rg [p 3 (.mv (.t 0)),
 p 4 (.call 103 [(.t 3), (.k (.int .i64 0)), (.k (.int .i64 3))]),
 p 5 (.not (.t 4))])
 (.cond (.t 5) (.seq (.rg [p 2 (.mv (.k (.int .i64 0)))])
 .ret)
 .skip))
 (.seq (.rg [p 6 (.bs 1 4 [.int .i64 0] [(0, (.k (.int .i64 1))), (1, (.k (.int .i64 4))), (2, (.k (.int .i64 4))), (3, (.k (.int .i64 8)))]),
 p 7 (.mv (.t 0)),
 p 8 (.ia 1 (.t 6) (.t 7)),
 p 9 (.ld (.t 8)),
 p 2 (.mv (.t 9))])
 .ret))),
 [.tmp 2]⟩

def F29 : Fnc := ⟨(.seq (.rg [p 6 (.mv (.k (.slice none 0 0)))])
 (.seq (.rg [p 9 (.bs 1 0 [.int .i64 0] []),
 p 7 (.mv (.t 9))])
 (.seq (.seq (.rg [p 10 (.mv (.t 2)),
 p 11 (.call 22 [(.t 10)]),
 p 12 (.mv (.k (.int .i64 0)))])
 (.block 0 (.loop (.seq (.rg [p 13 (.bin .lss (.t 12) (.t 11))])
 (.seq (.cond (.t 13) .skip
 (.exit 0))
 (.seq (.block 1 (.seq (.rg [p 14 (.mv (.t 0)),
 p 15 (.mv (.t 1)),
 p 16 (.mv (.t 2)),
 p 17 (.call 60 [(.t 14), (.t 15), (.t 16)]),
 p 8 (.mv (.t 17))])
 (.seq (.seq (.rg [p 18 (.mv (.t 8)),
 p 19 (.bin .lss (.t 18) (.k (.int .i64 0)))])
 (.cond (.t 19) (.seq (.rg [p 6 (.mv (.k (.slice none 0 0)))])
 .ret)
 .skip))
 (.seq (.rg [p 20 (.mv (.t 7)),
 p 21 (.mv (.t 0)),
 p 22 (.bs 1 1 [.int .i64 0] [(0, (.t 21))]),
 p 23 (.app 1 8 (.t 20) (.t 22)),
 p 7 (.mv (.t 23))])
 (.rg [p 24 (.mv (.t 8)),
 p 0 (.mv (.t 24))])))))
 (.rg [p 25 (.bin .add (.t 12) (.k (.int .i64 1))),
 p 12 (.mv (.t 25))])))))))
 (.seq (.rg [p 26 (.mv (.t 7)),
 p 6 (.mv (.t 26))])
 .ret)))),
 [.tmp 6]⟩

def F30 : Fnc := ⟨(.seq (.rg [p 6 (.mv (.k (.bool false)))])
 (.seq (.rg [p 10 (.mv (.t 0)),
 p 11 (.mv (.t 1)),
 p 12 (.mv (.t 2)),
 p 13 (.call 29 [(.t 10), (.t 11), (.t 12)]),
 p 7 (.mv (.t 13))])
 (.seq (.seq (.rg [p 14 (.mv (.t 7)),
 p 15 (.len (.t 14)),
 p 16 (.mv (.k (.int .i64 0)))])
 (.block 0 (.loop (.seq (.rg [p 17 (.bin .lss (.t 16) (.t 15))])
 (.seq (.cond (.t 17) .skip
 (.exit 0))
 (.seq (.block 1 (.seq (.rg [p 18 (.ia 1 (.t 14) (.t 16)),
 p 19 (.ld (.t 18)),
 p 9 (.mv (.t 19))])
 (.seq (.rg [p 20 (.mv (.t 9)),
 p 21 (.bin .quo (.t 20) (.k (.int .i64 64))),
 p 22 (.mv (.t 7)),
 p 23 (.ia 1 (.t 22) (.k (.int .i64 0))),
 p 24 (.ld (.t 23)),
 p 25 (.bin .quo (.t 24) (.k (.int .i64 64))),
 p 26 (.bin .neq (.t 21) (.t 25))])
 (.cond (.t 26) (.seq (.rg [p 6 (.mv (.k (.bool false)))])
 .ret)
 .skip))))
 (.rg [p 27 (.bin .add (.t 16) (.k (.int .i64 1))),
 p 16 (.mv (.t 27))])))))))
 (.seq (.rg [p 28 (.mv (.t 7)),
 p 29 (.len (.t 28)),
 p 30 (.bin .gtr (.t 29) (.k (.int .i64 0))),
 p 6 (.mv (.t 30))])
 .ret)))),
 [.tmp 6]⟩

def F33 : Fnc := ⟨(.seq (.rg [p 2 (.mv (.k (.int .i64 0)))])
 (.seq (.seq (.rg [p 3 (.mv (.t 0)),
 p 4 (.call 103 [(.t 3), (.k (.int .i64 0)), (.k (.int .i64 2))]),
 p 5 (.not (.t 4))])
 (.cond (.t 5) (.seq (.rg [p 2 (.mv (.k (.int .i64 0)))])
 .ret)
 .skip))
 (.seq (.rg [p 6 (.mv (.t 0)),
 p 7 (.bin .shl (.k (.int .i64 1)) (.t 6)),
 p 2 (.mv (.t 7))])
 .ret))),
 [.tmp 2]⟩

def F51 : Fnc := ⟨(.seq (.rg [p 2 (.mv (.k (.int .i64 0)))])
 (.seq (.seq (.rg [p 3 (.mv (.t 0)),
 p 4 (.call 33 [(.t 3)]),
 p 5 (.bin .eql (.t 4) (.k (.int .i64 0)))])
 (.cond (.t 5) (.seq (.rg [p 2 (.mv (.k (.int .i64 0)))])
 .ret)
 .skip))
 (.seq (.rg [p 6 (.mv (.t 0)),
 p 7 (.call 33 [(.t 6)]),
 p 8 (.bin .mul (.k (.int .i64 8)) (.t 7)),
 p 9 (.bin .shl (.k (.int .i64 1)) (.t 8)),
 p 2 (.mv (.t 9))])
 .ret))),
 [.tmp 2]⟩

def F60 : Fnc := ⟨(.seq (.rg [p 6 (.mv (.k (.int .i64 0)))])
 (.seq (.seq (.rg [p 9 (.mv (.t 0)),
 p 10 (.mv (.t 1)),
 p 11 (.call 21 [(.t 9), (.t 10)]),
 p 12 (.not (.t 11)),
 p 13 (.mv (.t 12)),
 ⟨(some 14), .mv (.t 0), (some (13, false)), false⟩,
 ⟨(some 15), .bin .geq (.t 14) (.k (.int .i64 512)), (some (13, false)), false⟩,
 p 16 (.pick (.t 13) (.k (.bool true)) (.t 15)),
 p 17 (.mv (.t 16)),
 ⟨(some 18), .mv (.t 2), (some (17, false)), false⟩,
 ⟨(some 19), .call 22 [(.t 18)], (some (17, false)), false⟩,
 ⟨(some 20), .bin .eql (.t 19) (.k (.int .i64 0)), (some (17, false)), false⟩,
 p 21 (.pick (.t 17) (.k (.bool true)) (.t 20))])
 (.cond (.t 21) (.seq (.rg [p 6 (.mv (.k (.int .i64 (-1))))])
 .ret)
 .skip))
 (.seq (.rg [p 22 (.mv (.t 0)),
 p 23 (.mv (.t 1)),
 p 24 (.call 33 [(.t 23)]),
 p 25 (.bin .add (.t 22) (.t 24)),
 p 26 (.mv (.t 1)),
 p 27 (.call 33 [(.t 26)]),
 p 28 (.bin .mul (.k (.int .i64 4)) (.t 27)),
 p 7 (.mv (.t 25)),
 p 8 (.mv (.t 28))])
 (.seq (.seq (.rg [p 29 (.mv (.t 2)),
 p 30 (.bin .eql (.t 29) (.k (.int .i64 2))),
 p 31 (.mv (.t 30)),
 ⟨(some 32), .mv (.t 7), (some (31, true)), false⟩,
 ⟨(some 33), .mv (.t 8), (some (31, true)), false⟩,
 ⟨(some 34), .bin .rem (.t 32) (.t 33), (some (31, true)), false⟩,
 ⟨(some 35), .bin .eql (.t 34) (.k (.int .i64 0)), (some (31, true)), false⟩,
 p 36 (.pick (.t 31) (.t 35) (.k (.bool false)))])
 (.cond (.t 36) (.rg [p 37 (.mv (.t 7)),
 p 38 (.mv (.t 8)),
 p 39 (.bin .sub (.t 37) (.t 38)),
 p 7 (.mv (.t 39))])
 .skip))
 (.seq (.rg [p 40 (.mv (.t 7)),
 p 6 (.mv (.t 40))])
 .ret))))),
 [.tmp 6]⟩

def F66 : Fnc := ⟨(.seq (.rg [p 1 (.box (.t 0)),
 p 2 (.mv (.k (.bool false)))])
 (.seq (.rg [p 3 (.mv (.k (.int .i64 0)))])
 (.seq (.seq (.rg [p 4 (.fa 0 (.t 1)),
 p 5 (.ld (.t 4))])
 (.cond (.t 5) (.rg [p 6 (.fa 3 (.t 1)),
 p 7 (.ld (.t 6)),
 p 8 (.call 22 [(.t 7)]),
 p 3 (.mv (.t 8))])
 .skip))
 (.seq (.rg [p 9 (.fa 1 (.t 1)),
 p 10 (.ld (.t 9)),
 p 11 (.fa 2 (.t 1)),
 p 12 (.ld (.t 11)),
 p 13 (.fa 3 (.t 1)),
 p 14 (.ld (.t 13)),
 p 15 (.call 30 [(.t 10), (.t 12), (.t 14)]),
 p 16 (.mv (.t 15)),
 ⟨(some 17), .fa 5 (.t 1), (some (16, true)), false⟩,
 ⟨(some 18), .ld (.t 17), (some (16, true)), false⟩,
 ⟨(some 19), .len (.t 18), (some (16, true)), false⟩,
 ⟨(some 20), .mv (.t 3), (some (16, true)), false⟩,
 ⟨(some 21), .bin .eql (.t 19) (.t 20), (some (16, true)), false⟩,
 p 22 (.pick (.t 16) (.t 21) (.k (.bool false))),
 p 23 (.mv (.t 22)),
 ⟨(some 24), .fa 5 (.t 1), (some (23, true)), false⟩,
 ⟨(some 25), .ld (.t 24), (some (23, true)), false⟩,
 ⟨(some 26), .fn 67 [(.t 1)], (some (23, true)), false⟩,
 ⟨(some 27), .call 257 [(.t 25), (.t 26)], (some (23, true)), false⟩,
 ⟨(some 28), .not (.t 27), (some (23, true)), false⟩,
 p 29 (.pick (.t 23) (.t 28) (.k (.bool false))),
 p 2 (.mv (.t 29))])
 .ret)))),
 [.tmp 2]⟩

def F67 : Fnc := ⟨(.seq (.rg [p 3 (.mv (.k (.bool false)))])
 (.seq (.rg [p 4 (.mv (.t 0)),
 p 5 (.fa 2 (.t 1)),
 p 6 (.ld (.t 5)),
 p 7 (.call 92 [(.t 4), (.t 6)]),
 p 8 (.not (.t 7)),
 p 3 (.mv (.t 8))])
 .ret)),
 [.tmp 3]⟩

def F92 : Fnc := ⟨(.seq (.rg [p 4 (.mv (.k (.bool false)))])
 (.seq (.rg [p 5 (.mv (.t 0)),
 p 6 (.mv (.t 1)),
 p 7 (.call 51 [(.t 6)]),
 p 8 (.bin .sub (.t 7) (.k (.int .i64 1))),
 p 9 (.call 103 [(.t 5), (.k (.int .i64 0)), (.t 8)]),
 p 4 (.mv (.t 9))])
 .ret)),
 [.tmp 4]⟩

def F103 : Fnc := ⟨(.seq (.rg [p 6 (.mv (.k (.bool false)))])
 (.seq (.rg [p 7 (.mv (.t 1)),
 p 8 (.mv (.t 0)),
 p 9 (.bin .leq (.t 7) (.t 8)),
 p 10 (.mv (.t 9)),
 ⟨(some 11), .mv (.t 0), (some (10, true)), false⟩,
 ⟨(some 12), .mv (.t 2), (some (10, true)), false⟩,
 ⟨(some 13), .bin .leq (.t 11) (.t 12), (some (10, true)), false⟩,
 p 14 (.pick (.t 10) (.t 13) (.k (.bool false))),
 p 6 (.mv (.t 14))])
 .ret)),
 [.tmp 6]⟩

def F130 : Fnc := ⟨(.seq (.rg [p 2 (.box (.t 0)),
 p 3 (.box (.t 1)),
 p 4 (.mv (.k (.bool false)))])
 (.seq (.seq (.rg [p 5 (.fa 0 (.t 2)),
 p 6 (.ld (.t 5)),
 p 7 (.fa 0 (.t 3)),
 p 8 (.ld (.t 7)),
 p 9 (.bin .neq (.t 6) (.t 8))])
 (.cond (.t 9) (.seq (.rg [p 4 (.mv (.k (.bool false)))])
 .ret)
 .skip))
 (.seq (.seq (.rg [p 10 (.fa 1 (.t 2)),
 p 11 (.ld (.t 10)),
 p 12 (.fa 1 (.t 3)),
 p 13 (.ld (.t 12)),
 p 14 (.bin .neq (.t 11) (.t 13))])
 (.cond (.t 14) (.seq (.rg [p 4 (.mv (.k (.bool false)))])
 .ret)
 .skip))
 (.seq (.seq (.rg [p 15 (.fa 2 (.t 2)),
 p 16 (.ld (.t 15)),
 p 17 (.fa 2 (.t 3)),
 p 18 (.ld (.t 17)),
 p 19 (.eqb true (.t 16) (.t 18))])
 (.cond (.t 19) (.seq (.rg [p 4 (.mv (.k (.bool false)))])
 .ret)
 .skip))
 (.seq (.seq (.rg [p 20 (.fa 3 (.t 2)),
 p 21 (.ld (.t 20)),
 p 22 (.fa 3 (.t 3)),
 p 23 (.ld (.t 22)),
 p 24 (.bin .neq (.t 21) (.t 23))])
 (.cond (.t 24) (.seq (.rg [p 4 (.mv (.k (.bool false)))])
 .ret)
 .skip))
 (.seq (.seq (.rg [p 25 (.fa 4 (.t 2)),
 p 26 (.ld (.t 25)),
 p 27 (.fa 4 (.t 3)),
 p 28 (.ld (.t 27)),
 p 29 (.bin .neq (.t 26) (.t 28))])
 (.cond (.t 29) (.seq (.rg [p 4 (.mv (.k (.bool false)))])
 .ret)
 .skip))
 (.seq (.seq (.rg [p 30 (.fa 5 (.t 2)),
 p 31 (.ld (.t 30)),
 p 32 (.fa 5 (.t 3)),
 p 33 (.ld (.t 32)),
 p 34 (.bin .neq (.t 31) (.t 33))])
 (.cond (.t 34) (.seq (.rg [p 4 (.mv (.k (.bool false)))])
 .ret)
 .skip))
 (.seq (.seq (.rg [p 35 (.fa 6 (.t 2)),
 p 36 (.ld (.t 35)),
 p 37 (.fa 6 (.t 3)),
 p 38 (.ld (.t 37)),
 p 39 (.bin .neq (.t 36) (.t 38))])
 (.cond (.t 39) (.seq (.rg [p 4 (.mv (.k (.bool false)))])
 .ret)
 .skip))
 (.seq (.rg [p 4 (.mv (.k (.bool true)))])
 .ret))))))))),
 [.tmp 4]⟩

def F131 : Fnc := ⟨(.seq (.rg [p 4 (.mv (.k (.bool false)))])
 (.seq (.seq (.rg [p 6 (.mv (.t 0)),
 p 7 (.len (.t 6)),
 p 8 (.mv (.t 1)),
 p 9 (.len (.t 8)),
 p 10 (.bin .neq (.t 7) (.t 9))])
 (.cond (.t 10) (.seq (.rg [p 4 (.mv (.k (.bool false)))])
 .ret)
 .skip))
 (.seq (.seq (.rg [p 5 (.mv (.k (.int .i64 0)))])
 (.block 0 (.loop (.seq (.seq (.rg [p 11 (.mv (.t 5)),
 p 12 (.mv (.t 0)),
 p 13 (.len (.t 12)),
 p 14 (.bin .lss (.t 11) (.t 13))])
 (.cond (.t 14) .skip
 (.exit 0)))
 (.seq (.block 1 (.seq (.rg [⟨(some 17), .mv (.t 0), none, true⟩,
 ⟨(some 18), .mv (.t 5), none, true⟩,
 ⟨(some 19), .ia 7 (.t 17) (.t 18), none, true⟩,
 ⟨(some 20), .ldn 7 (.t 19), none, true⟩,
 ⟨(some 21), .mv (.t 1), none, true⟩,
 ⟨(some 22), .mv (.t 5), none, true⟩,
 ⟨(some 23), .ia 7 (.t 21) (.t 22), none, true⟩,
 ⟨(some 24), .ldn 7 (.t 23), none, true⟩,
 p 25 (.call 130 [(.t 20), (.t 24)]),
 p 26 (.not (.t 25))])
 (.cond (.t 26) (.seq (.rg [p 4 (.mv (.k (.bool false)))])
 .ret)
 .skip)))
 (.rg [p 15 (.mv (.t 5)),
 p 16 (.bin .add (.t 15) (.k (.int .i64 1))),
 p 5 (.mv (.t 16))]))))))
 (.seq (.rg [p 4 (.mv (.k (.bool true)))])
 .ret)))),
 [.tmp 4]⟩

def F132 : Fnc := ⟨(.seq (.rg [p 4 (.mv (.k (.bool false)))])
 (.seq (.seq (.rg [p 6 (.mv (.t 0)),
 p 7 (.len (.t 6)),
 p 8 (.mv (.t 1)),
 p 9 (.len (.t 8)),
 p 10 (.bin .neq (.t 7) (.t 9))])
 (.cond (.t 10) (.seq (.rg [p 4 (.mv (.k (.bool false)))])
 .ret)
 .skip))
 (.seq (.seq (.rg [p 5 (.mv (.k (.int .i64 0)))])
 (.block 0 (.loop (.seq (.seq (.rg [p 11 (.mv (.t 5)),
 p 12 (.mv (.t 0)),
 p 13 (.len (.t 12)),
 p 14 (.bin .lss (.t 11) (.t 13))])
 (.cond (.t 14) .skip
 (.exit 0)))
 (.seq (.block 1 (.seq (.rg [⟨(some 17), .mv (.t 0), none, true⟩,
 ⟨(some 18), .mv (.t 5), none, true⟩,
 ⟨(some 19), .ia 1 (.t 17) (.t 18), none, true⟩,
 ⟨(some 20), .ld (.t 19), none, true⟩,
 ⟨(some 21), .mv (.t 1), none, true⟩,
 ⟨(some 22), .mv (.t 5), none, true⟩,
 ⟨(some 23), .ia 1 (.t 21) (.t 22), none, true⟩,
 ⟨(some 24), .ld (.t 23), none, true⟩,
 p 25 (.bin .neq (.t 20) (.t 24))])
 (.cond (.t 25) (.seq (.rg [p 4 (.mv (.k (.bool false)))])
 .ret)
 .skip)))
 (.rg [p 15 (.mv (.t 5)),
 p 16 (.bin .add (.t 15) (.k (.int .i64 1))),
 p 5 (.mv (.t 16))]))))))
 (.seq (.rg [p 4 (.mv (.k (.bool true)))])
 .ret)))),
 [.tmp 4]⟩

def F138 : Fnc := ⟨(.seq (.rg [p 2 (.box (.t 0)),
 p 3 (.box (.t 1)),
 p 4 (.mv (.k (.bool false)))])
 (.seq (.seq (.rg [p 5 (.fa 0 (.t 2)),
 p 6 (.ld (.t 5)),
 p 7 (.fa 0 (.t 3)),
 p 8 (.ld (.t 7)),
 p 9 (.eqb true (.t 6) (.t 8))])
 (.cond (.t 9) (.seq (.rg [p 4 (.mv (.k (.bool false)))])
 .ret)
 .skip))
 (.seq (.seq (.rg [p 10 (.fa 1 (.t 2)),
 p 11 (.ld (.t 10)),
 p 12 (.fa 1 (.t 3)),
 p 13 (.ld (.t 12)),
 p 14 (.bin .neq (.t 11) (.t 13))])
 (.cond (.t 14) (.seq (.rg [p 4 (.mv (.k (.bool false)))])
 .ret)
 .skip))
 (.seq (.seq (.rg [p 15 (.fa 2 (.t 2)),
 p 16 (.ld (.t 15)),
 p 17 (.fa 2 (.t 3)),
 p 18 (.ld (.t 17)),
 p 19 (.bin .neq (.t 16) (.t 18))])
 (.cond (.t 19) (.seq (.rg [p 4 (.mv (.k (.bool false)))])
 .ret)
 .skip))
 (.seq (.seq (.rg [p 20 (.fa 3 (.t 2)),
 p 21 (.ld (.t 20)),
 p 22 (.fa 3 (.t 3)),
 p 23 (.ld (.t 22)),
 p 24 (.bin .neq (.t 21) (.t 23))])
 (.cond (.t 24) (.seq (.rg [p 4 (.mv (.k (.bool false)))])
 .ret)
 .skip))
 (.seq (.seq (.rg [p 25 (.fa 4 (.t 2)),
 p 26 (.ld (.t 25)),
 p 27 (.fa 4 (.t 3)),
 p 28 (.ld (.t 27)),
 p 29 (.eqb true (.t 26) (.t 28))])
 (.cond (.t 29) (.seq (.rg [p 4 (.mv (.k (.bool false)))])
 .ret)
 .skip))
 (.seq (.seq (.rg [p 30 (.fa 5 (.t 2)),
 p 31 (.ld (.t 30)),
 p 32 (.fa 5 (.t 3)),
 p 33 (.ld (.t 32)),
 p 34 (.call 132 [(.t 31), (.t 33)]),
 p 35 (.not (.t 34))])
 (.cond (.t 35) (.seq (.rg [p 4 (.mv (.k (.bool false)))])
 .ret)
 .skip))
 (.seq (.rg [p 4 (.mv (.k (.bool true)))])
 .ret)))))))),
 [.tmp 4]⟩

def F141 : Fnc := ⟨(.seq (.rg [p 4 (.mv (.k (.int .i64 0)))])
 (.seq (.seq (.rg [p 5 (.mv (.k (.int .i64 0)))])
 (.block 0 (.loop (.seq (.seq (.rg [p 6 (.mv (.t 5)),
 p 7 (.mv (.t 0)),
 p 8 (.len (.t 7)),
 p 9 (.bin .lss (.t 6) (.t 8))])
 (.cond (.t 9) .skip
 (.exit 0)))
 (.seq (.block 1 (.seq (.seq (.rg [p 12 (.mv (.t 0)),
 p 13 (.mv (.t 5)),
 p 14 (.ia 7 (.t 12) (.t 13)),
 p 15 (.fa 0 (.t 14)),
 p 16 (.ld (.t 15)),
 p 17 (.mv (.t 1)),
 p 18 (.bin .neq (.t 16) (.t 17))])
 (.cond (.t 18) (.seq (.rg [p 4 (.mv (.k (.int .i64 (-1))))])
 .ret)
 .skip))
 (.seq (.rg [p 19 (.mv (.t 1)),
 p 20 (.bin .add (.t 19) (.k (.int .i64 1))),
 p 1 (.mv (.t 20))])
 (.seq (.seq (.rg [p 21 (.mv (.t 0)),
 p 22 (.mv (.t 5)),
 p 23 (.ia 7 (.t 21) (.t 22)),
 p 24 (.fa 1 (.t 23)),
 p 25 (.ld (.t 24)),
 p 26 (.mv (.t 1)),
 p 27 (.bin .neq (.t 25) (.t 26))])
 (.cond (.t 27) (.seq (.rg [p 4 (.mv (.k (.int .i64 (-1))))])
 .ret)
 .skip))
 (.seq (.rg [p 28 (.mv (.t 1)),
 p 29 (.bin .add (.t 28) (.k (.int .i64 1))),
 p 1 (.mv (.t 29))])
 (.seq (.seq (.rg [p 30 (.mv (.t 0)),
 p 31 (.mv (.t 5)),
 p 32 (.ia 7 (.t 30) (.t 31)),
 p 33 (.fa 2 (.t 32)),
 p 34 (.ld (.t 33)),
 p 35 (.mv (.t 1)),
 p 36 (.bin .rem (.t 35) (.k (.int .i64 3))),
 p 37 (.bin .eql (.t 36) (.k (.int .i64 0))),
 p 38 (.eqb true (.t 34) (.t 37))])
 (.cond (.t 38) (.seq (.rg [p 4 (.mv (.k (.int .i64 (-1))))])
 .ret)
 .skip))
 (.seq (.rg [p 39 (.mv (.t 1)),
 p 40 (.bin .add (.t 39) (.k (.int .i64 1))),
 p 1 (.mv (.t 40))])
 (.seq (.seq (.rg [p 41 (.mv (.t 0)),
 p 42 (.mv (.t 5)),
 p 43 (.ia 7 (.t 41) (.t 42)),
 p 44 (.fa 3 (.t 43)),
 p 45 (.ld (.t 44)),
 p 46 (.mv (.t 1)),
 p 47 (.bin .neq (.t 45) (.t 46))])
 (.cond (.t 47) (.seq (.rg [p 4 (.mv (.k (.int .i64 (-1))))])
 .ret)
 .skip))
 (.seq (.rg [p 48 (.mv (.t 1)),
 p 49 (.bin .add (.t 48) (.k (.int .i64 1))),
 p 1 (.mv (.t 49))])
 (.seq (.seq (.rg [p 50 (.mv (.t 0)),
 p 51 (.mv (.t 5)),
 p 52 (.ia 7 (.t 50) (.t 51)),
 p 53 (.fa 4 (.t 52)),
 p 54 (.ld (.t 53)),
 p 55 (.mv (.t 1)),
 p 56 (.bin .neq (.t 54) (.t 55))])
 (.cond (.t 56) (.seq (.rg [p 4 (.mv (.k (.int .i64 (-1))))])
 .ret)
 .skip))
 (.seq (.rg [p 57 (.mv (.t 1)),
 p 58 (.bin .add (.t 57) (.k (.int .i64 1))),
 p 1 (.mv (.t 58))])
 (.seq (.seq (.rg [p 59 (.mv (.t 0)),
 p 60 (.mv (.t 5)),
 p 61 (.ia 7 (.t 59) (.t 60)),
 p 62 (.fa 5 (.t 61)),
 p 63 (.ld (.t 62)),
 p 64 (.mv (.t 1)),
 p 65 (.bin .neq (.t 63) (.t 64))])
 (.cond (.t 65) (.seq (.rg [p 4 (.mv (.k (.int .i64 (-1))))])
 .ret)
 .skip))
 (.seq (.rg [p 66 (.mv (.t 1)),
 p 67 (.bin .add (.t 66) (.k (.int .i64 1))),
 p 1 (.mv (.t 67))])
 (.seq (.seq (.rg [p 68 (.mv (.t 0)),
 p 69 (.mv (.t 5)),
 p 70 (.ia 7 (.t 68) (.t 69)),
 p 71 (.fa 6 (.t 70)),
 p 72 (.ld (.t 71)),
 p 73 (.mv (.t 1)),
 p 74 (.bin .neq (.t 72) (.t 73))])
 (.cond (.t 74) (.seq (.rg [p 4 (.mv (.k (.int .i64 (-1))))])
 .ret)
 .skip))
 (.rg [p 75 (.mv (.t 1)),
 p 76 (.bin .add (.t 75) (.k (.int .i64 1))),
 p 1 (.mv (.t 76))])))))))))))))))
 (.rg [p 10 (.mv (.t 5)),
 p 11 (.bin .add (.t 10) (.k (.int .i64 1))),
 p 5 (.mv (.t 11))]))))))
 (.seq (.rg [p 77 (.mv (.t 1)),
 p 4 (.mv (.t 77))])
 .ret))),
 [.tmp 4]⟩

def F142 : Fnc := ⟨(.seq (.rg [p 4 (.mv (.k (.int .i64 0)))])
 (.seq (.seq (.rg [p 5 (.mv (.k (.int .i64 0)))])
 (.block 0 (.loop (.seq (.seq (.rg [p 6 (.mv (.t 5)),
 p 7 (.mv (.t 0)),
 p 8 (.len (.t 7)),
 p 9 (.bin .lss (.t 6) (.t 8))])
 (.cond (.t 9) .skip
 (.exit 0)))
 (.seq (.block 1 (.seq (.rg [p 12 (.mv (.t 0)),
 p 13 (.mv (.t 5)),
 p 14 (.mv (.t 1)),
 p 15 (.ia 7 (.t 12) (.t 13)),
 p 16 (.fa 0 (.t 15)),
 ⟨none, .st (.t 16) (.t 14), none, false⟩])
 (.seq (.rg [p 17 (.mv (.t 1)),
 p 18 (.bin .add (.t 17) (.k (.int .i64 1))),
 p 1 (.mv (.t 18))])
 (.seq (.rg [p 19 (.mv (.t 0)),
 p 20 (.mv (.t 5)),
 p 21 (.mv (.t 1)),
 p 22 (.ia 7 (.t 19) (.t 20)),
 p 23 (.fa 1 (.t 22)),
 ⟨none, .st (.t 23) (.t 21), none, false⟩])
 (.seq (.rg [p 24 (.mv (.t 1)),
 p 25 (.bin .add (.t 24) (.k (.int .i64 1))),
 p 1 (.mv (.t 25))])
 (.seq (.rg [p 26 (.mv (.t 0)),
 p 27 (.mv (.t 5)),
 p 28 (.mv (.t 1)),
 p 29 (.bin .rem (.t 28) (.k (.int .i64 3))),
 p 30 (.bin .eql (.t 29) (.k (.int .i64 0))),
 p 31 (.ia 7 (.t 26) (.t 27)),
 p 32 (.fa 2 (.t 31)),
 ⟨none, .st (.t 32) (.t 30), none, false⟩])
 (.seq (.rg [p 33 (.mv (.t 1)),
 p 34 (.bin .add (.t 33) (.k (.int .i64 1))),
 p 1 (.mv (.t 34))])
 (.seq (.rg [p 35 (.mv (.t 0)),
 p 36 (.mv (.t 5)),
 p 37 (.mv (.t 1)),
 p 38 (.ia 7 (.t 35) (.t 36)),
 p 39 (.fa 3 (.t 38)),
 ⟨none, .st (.t 39) (.t 37), none, false⟩])
 (.seq (.rg [p 40 (.mv (.t 1)),
 p 41 (.bin .add (.t 40) (.k (.int .i64 1))),
 p 1 (.mv (.t 41))])
 (.seq (.rg [p 42 (.mv (.t 0)),
 p 43 (.mv (.t 5)),
 p 44 (.mv (.t 1)),
 p 45 (.ia 7 (.t 42) (.t 43)),
 p 46 (.fa 4 (.t 45)),
 ⟨none, .st (.t 46) (.t 44), none, false⟩])
 (.seq (.rg [p 47 (.mv (.t 1)),
 p 48 (.bin .add (.t 47) (.k (.int .i64 1))),
 p 1 (.mv (.t 48))])
 (.seq (.rg [p 49 (.mv (.t 0)),
 p 50 (.mv (.t 5)),
 p 51 (.mv (.t 1)),
 p 52 (.ia 7 (.t 49) (.t 50)),
 p 53 (.fa 5 (.t 52)),
 ⟨none, .st (.t 53) (.t 51), none, false⟩])
 (.seq (.rg [p 54 (.mv (.t 1)),
 p 55 (.bin .add (.t 54) (.k (.int .i64 1))),
 p 1 (.mv (.t 55))])
 (.seq (.rg [p 56 (.mv (.t 0)),
 p 57 (.mv (.t 5)),
 p 58 (.mv (.t 1)),
 p 59 (.ia 7 (.t 56) (.t 57)),
 p 60 (.fa 6 (.t 59)),
 ⟨none, .st (.t 60) (.t 58), none, false⟩])
 (.rg [p 61 (.mv (.t 1)),
 p 62 (.bin .add (.t 61) (.k (.int .i64 1))),
 p 1 (.mv (.t 62))])))))))))))))))
 (.rg [p 10 (.mv (.t 5)),
 p 11 (.bin .add (.t 10) (.k (.int .i64 1))),
 p 5 (.mv (.t 11))]))))))
 (.seq (.rg [p 63 (.mv (.t 1)),
 p 4 (.mv (.t 63))])
 .ret))),
 [.tmp 4]⟩

def F148 : Fnc := ⟨(.seq (.rg [p 4 (.mv (.k (.int .i64 0)))])
 (.seq (.rg [p 5 (.mv (.t 1)),
 p 6 (.mv (.t 0)),
 p 7 (.len (.t 6)),
 p 8 (.bin .sub (.t 5) (.t 7)),
 p 1 (.mv (.t 8))])
 (.seq (.seq (.rg [p 9 (.mv (.t 1)),
 p 10 (.bin .lss (.t 9) (.k (.int .i64 0)))])
 (.cond (.t 10) (.seq (.rg [p 4 (.mv (.k (.int .i64 (-1))))])
 .ret)
 .skip))
 (.seq (.rg [p 11 (.mv (.t 1)),
 p 4 (.mv (.t 11))])
 .ret)))),
 [.tmp 4]⟩

def F153 : Fnc := ⟨(.seq (.rg [p 2 (.box (.t 0)),
 p 4 (.mv (.k (.int .i64 0)))])
 (.seq (.rg [p 5 (.fa 5 (.t 2)),
 p 6 (.ld (.t 5)),
 p 7 (.mv (.t 1)),
 p 8 (.call 148 [(.t 6), (.t 7)]),
 p 1 (.mv (.t 8))])
 (.seq (.seq (.rg [p 9 (.mv (.t 1)),
 p 10 (.bin .lss (.t 9) (.k (.int .i64 0)))])
 (.cond (.t 10) (.seq (.rg [p 4 (.mv (.k (.int .i64 (-1))))])
 .ret)
 .skip))
 (.seq (.rg [p 11 (.mv (.t 1)),
 p 4 (.mv (.t 11))])
 .ret)))),
 [.tmp 4]⟩

def F163 : Fnc := ⟨(.seq (.rg [p 2 (.mv (.k (.slice none 0 0)))])
 (.seq (.rg [p 5 (.mv (.t 0)),
 p 6 (.len (.t 5)),
 p 7 (.mk 1 8 [.int .i64 0] (.t 6) (.t 6)),
 p 3 (.mv (.t 7))])
 (.seq (.seq (.rg [p 4 (.mv (.k (.int .i64 0)))])
 (.block 0 (.loop (.seq (.seq (.rg [p 8 (.mv (.t 4)),
 p 9 (.mv (.t 0)),
 p 10 (.len (.t 9)),
 p 11 (.bin .lss (.t 8) (.t 10))])
 (.cond (.t 11) .skip
 (.exit 0)))
 (.seq (.block 1 (.rg [p 14 (.mv (.t 3)),
 p 15 (.mv (.t 4)),
 p 16 (.mv (.t 0)),
 p 17 (.mv (.t 4)),
 p 18 (.ia 1 (.t 16) (.t 17)),
 p 19 (.ld (.t 18)),
 p 20 (.ia 1 (.t 14) (.t 15)),
 ⟨none, .st (.t 20) (.t 19), none, false⟩]))
 (.rg [p 12 (.mv (.t 4)),
 p 13 (.bin .add (.t 12) (.k (.int .i64 1))),
 p 4 (.mv (.t 13))]))))))
 (.seq (.rg [p 21 (.mv (.t 3)),
 p 2 (.mv (.t 21))])
 .ret)))),
 [.tmp 2]⟩

def F169 : Fnc := ⟨(.seq (.rg [p 1 (.box (.t 0)),
 p 2 (.new [.bool false, .int .i64 0, .int .i64 0, .int .i64 0, .bool false, .slice none 0 0])])
 (.seq (.rg [p 3 (.new [.bool false, .int .i64 0, .int .i64 0, .int .i64 0, .bool false, .slice none 0 0])])
 (.seq (.rg [p 4 (.fa 0 (.t 1)),
 p 5 (.ld (.t 4)),
 p 6 (.fa 0 (.t 3)),
 ⟨none, .st (.t 6) (.t 5), none, false⟩])
 (.seq (.rg [p 7 (.fa 1 (.t 1)),
 p 8 (.ld (.t 7)),
 p 9 (.fa 1 (.t 3)),
 ⟨none, .st (.t 9) (.t 8), none, false⟩])
 (.seq (.rg [p 10 (.fa 2 (.t 1)),
 p 11 (.ld (.t 10)),
 p 12 (.fa 2 (.t 3)),
 ⟨none, .st (.t 12) (.t 11), none, false⟩])
 (.seq (.rg [p 13 (.fa 3 (.t 1)),
 p 14 (.ld (.t 13)),
 p 15 (.fa 3 (.t 3)),
 ⟨none, .st (.t 15) (.t 14), none, false⟩])
 (.seq (.rg [p 16 (.fa 4 (.t 1)),
 p 17 (.ld (.t 16)),
 p 18 (.fa 4 (.t 3)),
 ⟨none, .st (.t 18) (.t 17), none, false⟩])
 (.seq (.rg [p 19 (.fa 5 (.t 1)),
 p 20 (.ld (.t 19)),
 p 21 (.call 163 [(.t 20)]),
 p 22 (.fa 5 (.t 3)),
 ⟨none, .st (.t 22) (.t 21), none, false⟩])
 (.seq (.rg [p 23 (.ldn 6 (.t 3)),
 ⟨none, .stn 6 (.t 2) (.t 23), none, false⟩])
 .ret))))))))),
 [.celln 2 6]⟩

def F172 : Fnc := ⟨(.seq (.rg [p 4 (.mv (.k (.bool false)))])
 (.seq (.rg [p 5 (.mv (.t 1)),
 p 6 (.call 183 [(.t 5)]),
 p 7 (.bin .gtr (.t 6) (.k (.int .i64 0))),
 p 8 (.mv (.t 7)),
 ⟨(some 9), .mv (.t 0), (some (8, true)), false⟩,
 ⟨(some 10), .bin .geq (.t 9) (.k (.int .i64 0)), (some (8, true)), false⟩,
 p 11 (.pick (.t 8) (.t 10) (.k (.bool false))),
 p 12 (.mv (.t 11)),
 ⟨(some 13), .mv (.t 0), (some (12, true)), false⟩,
 ⟨(some 14), .mv (.t 1), (some (12, true)), false⟩,
 ⟨(some 15), .call 183 [(.t 14)], (some (12, true)), false⟩,
 ⟨(some 16), .bin .rem (.t 13) (.t 15), (some (12, true)), false⟩,
 ⟨(some 17), .bin .eql (.t 16) (.k (.int .i64 0)), (some (12, true)), false⟩,
 p 18 (.pick (.t 12) (.t 17) (.k (.bool false))),
 p 4 (.mv (.t 18))])
 .ret)),
 [.tmp 4]⟩

def F173 : Fnc := ⟨(.seq (.rg [p 2 (.mv (.k (.int .i64 0)))])
 (.seq (.seq (.rg [p 3 (.mv (.t 0)),
 p 4 (.call 230 [(.t 3), (.k (.int .i64 0)), (.k (.int .i64 3))]),
 p 5 (.not (.t 4))])
 (.cond (.t 5) (.seq (.rg [p 2 (.mv (.k (.int .i64 0)))])
 .ret)
 .skip))
 (.seq (.rg [p 6 (.bs 1 4 [.int .i64 0] [(0, (.k (.int .i64 1))), (1, (.k (.int .i64 4))), (2, (.k (.int .i64 4))), (3, (.k (.int .i64 8)))]),
 p 7 (.mv (.t 0)),
 p 8 (.ia 1 (.t 6) (.t 7)),
 p 9 (.ld (.t 8)),
 p 2 (.mv (.t 9))])
 .ret))),
 [.tmp 2]⟩

def F179 : Fnc := ⟨(.seq (.rg [p 6 (.mv (.k (.slice none 0 0)))])
 (.seq (.rg [p 8 (.bs 1 0 [.int .i64 0] []),
 p 7 (.mv (.t 8))])
 (.seq (.block 0 (.loop (.seq (.seq (.rg [p 9 (.mv (.t 7)),
 p 10 (.len (.t 9)),
 p 11 (.mv (.t 2)),
 p 12 (.call 173 [(.t 11)]),
 p 13 (.bin .lss (.t 10) (.t 12)),
 p 14 (.mv (.t 13)),
 ⟨(some 15), .mv (.t 0), (some (14, true)), false⟩,
 ⟨(some 16), .mv (.t 1), (some (14, true)), false⟩,
 ⟨(some 17), .mv (.t 2), (some (14, true)), false⟩,
 ⟨(some 18), .call 205 [(.t 15), (.t 16), (.t 17)], (some (14, true)), false⟩,
 ⟨(some 19), .bin .geq (.t 18) (.k (.int .i64 0)), (some (14, true)), false⟩,
 p 20 (.pick (.t 14) (.t 19) (.k (.bool false)))])
 (.cond (.t 20) .skip
 (.exit 0)))
 (.block 1 (.seq (.rg [p 21 (.mv (.t 7)),
 p 22 (.mv (.t 0)),
 p 23 (.bs 1 1 [.int .i64 0] [(0, (.t 22))]),
 p 24 (.app 1 8 (.t 21) (.t 23)),
 p 7 (.mv (.t 24))])
 (.rg [p 25 (.mv (.t 0)),
 p 26 (.mv (.t 1)),
 p 27 (.mv (.t 2)),
 p 28 (.call 205 [(.t 25), (.t 26), (.t 27)]),
 p 0 (.mv (.t 28))]))))))
 (.seq (.seq (.rg [p 29 (.mv (.t 7)),
 p 30 (.len (.t 29)),
 p 31 (.mv (.t 2)),
 p 32 (.call 173 [(.t 31)]),
 p 33 (.bin .lss (.t 30) (.t 32))])
 (.cond (.t 33) (.seq (.rg [p 34 (.bs 1 0 [.int .i64 0] []),
 p 6 (.mv (.t 34))])
 .ret)
 .skip))
 (.seq (.rg [p 35 (.mv (.t 7)),
 p 6 (.mv (.t 35))])
 .ret))))),
 [.tmp 6]⟩

def F180 : Fnc := ⟨(.seq (.rg [p 6 (.mv (.k (.bool false)))])
 (.seq (.rg [p 9 (.mv (.t 0)),
 p 10 (.mv (.t 1)),
 p 11 (.mv (.t 2)),
 p 12 (.call 179 [(.t 9), (.t 10), (.t 11)]),
 p 7 (.mv (.t 12))])
 (.seq (.seq (.rg [p 8 (.mv (.k (.int .i64 0)))])
 (.block 0 (.loop (.seq (.seq (.rg [p 13 (.mv (.t 8)),
 p 14 (.mv (.t 7)),
 p 15 (.len (.t 14)),
 p 16 (.bin .lss (.t 13) (.t 15))])
 (.cond (.t 16) .skip
 (.exit 0)))
 (.seq (.block 1 (.seq (.rg [⟨(some 19), .mv (.t 7), none, true⟩,
 ⟨(some 20), .mv (.t 8), none, true⟩,
 ⟨(some 21), .ia 1 (.t 19) (.t 20), none, true⟩,
 ⟨(some 22), .ld (.t 21), none, true⟩,
 ⟨(some 23), .bin .quo (.t 22) (.k (.int .i64 64)), none, true⟩,
 ⟨(some 24), .mv (.t 7), none, true⟩,
 ⟨(some 25), .ia 1 (.t 24) (.k (.int .i64 0)), none, true⟩,
 ⟨(some 26), .ld (.t 25), none, true⟩,
 ⟨(some 27), .bin .quo (.t 26) (.k (.int .i64 64)), none, true⟩,
 p 28 (.bin .neq (.t 23) (.t 27))])
 (.cond (.t 28) (.seq (.rg [p 6 (.mv (.k (.bool false)))])
 .ret)
 .skip)))
 (.rg [p 17 (.mv (.t 8)),
 p 18 (.bin .add (.t 17) (.k (.int .i64 1))),
 p 8 (.mv (.t 18))]))))))
 (.seq (.rg [p 29 (.mv (.t 7)),
 p 30 (.len (.t 29)),
 p 31 (.bin .gtr (.t 30) (.k (.int .i64 0))),
 p 6 (.mv (.t 31))])
 .ret)))),
 [.tmp 6]⟩

def F183 : Fnc := ⟨(.seq (.rg [p 2 (.mv (.k (.int .i64 0)))])
 (.seq (.seq (.rg [p 3 (.mv (.t 0)),
 p 4 (.call 230 [(.t 3), (.k (.int .i64 0)), (.k (.int .i64 2))]),
 p 5 (.not (.t 4))])
 (.cond (.t 5) (.seq (.rg [p 2 (.mv (.k (.int .i64 0)))])
 .ret)
 .skip))
 (.seq (.rg [p 6 (.mv (.t 0)),
 p 7 (.bin .shl (.k (.int .i64 1)) (.t 6)),
 p 2 (.mv (.t 7))])
 .ret))),
 [.tmp 2]⟩

def F201 : Fnc := ⟨(.seq (.rg [p 2 (.mv (.k (.int .i64 0)))])
 (.seq (.seq (.rg [p 3 (.mv (.t 0)),
 p 4 (.call 183 [(.t 3)]),
 p 5 (.bin .eql (.t 4) (.k (.int .i64 0)))])
 (.cond (.t 5) (.seq (.rg [p 2 (.mv (.k (.int .i64 0)))])
 .ret)
 .skip))
 (.seq (.rg [p 6 (.mv (.t 0)),
 p 7 (.call 183 [(.t 6)]),
 p 8 (.bin .mul (.k (.int .i64 8)) (.t 7)),
 p 9 (.bin .shl (.k (.int .i64 1)) (.t 8)),
 p 2 (.mv (.t 9))])
 .ret))),
 [.tmp 2]⟩

def F205 : Fnc := ⟨(.seq (.rg [p 6 (.mv (.k (.int .i64 0)))])
 (.seq (.rg [p 8 (.mv (.t 1)),
 p 9 (.call 183 [(.t 8)]),
 p 7 (.mv (.t 9))])
 (.seq (.seq (.rg [p 10 (.mv (.t 0)),
 p 11 (.mv (.t 1)),
 p 12 (.call 172 [(.t 10), (.t 11)]),
 p 13 (.not (.t 12)),
 p 14 (.mv (.t 13)),
 ⟨(some 15), .mv (.t 0), (some (14, false)), false⟩,
 ⟨(some 16), .call 230 [(.t 15), (.k (.int .i64 0)), (.k (.int .i64 511))], (some (14, false)), false⟩,
 ⟨(some 17), .not (.t 16), (some (14, false)), false⟩,
 p 18 (.pick (.t 14) (.k (.bool true)) (.t 17)),
 p 19 (.mv (.t 18)),
 ⟨(some 20), .mv (.t 2), (some (19, false)), false⟩,
 ⟨(some 21), .call 173 [(.t 20)], (some (19, false)), false⟩,
 ⟨(some 22), .bin .eql (.t 21) (.k (.int .i64 0)), (some (19, false)), false⟩,
 p 23 (.pick (.t 19) (.k (.bool true)) (.t 22))])
 (.cond (.t 23) (.seq (.rg [p 6 (.mv (.k (.int .i64 (-1))))])
 .ret)
 .skip))
 (.seq (.seq (.rg [p 24 (.mv (.t 2)),
 p 25 (.bin .eql (.t 24) (.k (.int .i64 2))),
 p 26 (.mv (.t 25)),
 ⟨(some 27), .mv (.t 0), (some (26, true)), false⟩,
 ⟨(some 28), .mv (.t 7), (some (26, true)), false⟩,
 ⟨(some 29), .bin .add (.t 27) (.t 28), (some (26, true)), false⟩,
 ⟨(some 30), .mv (.t 7), (some (26, true)), false⟩,
 ⟨(some 31), .bin .mul (.k (.int .i64 4)) (.t 30), (some (26, true)), false⟩,
 ⟨(some 32), .bin .rem (.t 29) (.t 31), (some (26, true)), false⟩,
 ⟨(some 33), .bin .eql (.t 32) (.k (.int .i64 0)), (some (26, true)), false⟩,
 p 34 (.pick (.t 26) (.t 33) (.k (.bool false)))])
 (.cond (.t 34) (.seq (.rg [p 35 (.mv (.t 0)),
 p 36 (.mv (.t 7)),
 p 37 (.bin .add (.t 35) (.t 36)),
 p 38 (.mv (.t 7)),
 p 39 (.bin .mul (.k (.int .i64 4)) (.t 38)),
 p 40 (.bin .sub (.t 37) (.t 39)),
 p 6 (.mv (.t 40))])
 .ret)
 .skip))
 (.seq (.rg [p 41 (.mv (.t 0)),
 p 42 (.mv (.t 7)),
 p 43 (.bin .add (.t 41) (.t 42)),
 p 6 (.mv (.t 43))])
 .ret))))),
 [.tmp 6]⟩

def F207 : Fnc := ⟨(.seq (.rg [p 1 (.box (.t 0)),
 p 2 (.mv (.k (.bool false)))])
 (.seq (.seq (.rg [p 4 (.fa 1 (.t 1)),
 p 5 (.ld (.t 4)),
 p 6 (.fa 2 (.t 1)),
 p 7 (.ld (.t 6)),
 p 8 (.fa 3 (.t 1)),
 p 9 (.ld (.t 8)),
 p 10 (.call 180 [(.t 5), (.t 7), (.t 9)]),
 p 11 (.not (.t 10))])
 (.cond (.t 11) (.seq (.rg [p 2 (.mv (.k (.bool false)))])
 .ret)
 .skip))
 (.seq (.seq (.rg [p 3 (.mv (.k (.int .i64 0)))])
 (.block 0 (.loop (.seq (.seq (.rg [p 12 (.mv (.t 3)),
 p 13 (.fa 5 (.t 1)),
 p 14 (.ld (.t 13)),
 p 15 (.len (.t 14)),
 p 16 (.bin .lss (.t 12) (.t 15))])
 (.cond (.t 16) .skip
 (.exit 0)))
 (.seq (.block 1 (.seq (.rg [⟨(some 19), .fa 5 (.t 1), none, true⟩,
 ⟨(some 20), .ld (.t 19), none, true⟩,
 ⟨(some 21), .mv (.t 3), none, true⟩,
 ⟨(some 22), .ia 1 (.t 20) (.t 21), none, true⟩,
 ⟨(some 23), .ld (.t 22), none, true⟩,
 ⟨(some 24), .fa 2 (.t 1), none, true⟩,
 ⟨(some 25), .ld (.t 24), none, true⟩,
 ⟨(some 26), .call 201 [(.t 25)], none, true⟩,
 ⟨(some 27), .bin .sub (.t 26) (.k (.int .i64 1)), none, true⟩,
 p 28 (.call 230 [(.t 23), (.k (.int .i64 0)), (.t 27)]),
 p 29 (.not (.t 28))])
 (.cond (.t 29) (.seq (.rg [p 2 (.mv (.k (.bool false)))])
 .ret)
 .skip)))
 (.rg [p 17 (.mv (.t 3)),
 p 18 (.bin .add (.t 17) (.k (.int .i64 1))),
 p 3 (.mv (.t 18))]))))))
 (.seq (.rg [p 30 (.fa 5 (.t 1)),
 p 31 (.ld (.t 30)),
 p 32 (.len (.t 31)),
 p 33 (.bin .eql (.t 32) (.k (.int .i64 0))),
 p 34 (.mv (.t 33)),
 ⟨(some 35), .fa 0 (.t 1), (some (34, true)), false⟩,
 ⟨(some 36), .ld (.t 35), (some (34, true)), false⟩,
 ⟨(some 37), .not (.t 36), (some (34, true)), false⟩,
 p 38 (.pick (.t 34) (.t 37) (.k (.bool false))),
 p 39 (.mv (.t 38)),
 ⟨(some 40), .fa 5 (.t 1), (some (39, false)), true⟩,
 ⟨(some 41), .ld (.t 40), (some (39, false)), true⟩,
 ⟨(some 42), .len (.t 41), (some (39, false)), true⟩,
 ⟨(some 43), .fa 3 (.t 1), (some (39, false)), true⟩,
 ⟨(some 44), .ld (.t 43), (some (39, false)), true⟩,
 ⟨(some 45), .call 173 [(.t 44)], (some (39, false)), true⟩,
 ⟨(some 46), .bin .eql (.t 42) (.t 45), (some (39, false)), false⟩,
 ⟨(some 47), .mv (.t 46), (some (39, false)), false⟩,
 ⟨(some 48), .fa 0 (.t 1), (some (47, true)), false⟩,
 ⟨(some 49), .ld (.t 48), (some (47, true)), false⟩,
 ⟨(some 50), .pick (.t 47) (.t 49) (.k (.bool false)), (some (39, false)), false⟩,
 p 51 (.pick (.t 39) (.k (.bool true)) (.t 50)),
 p 2 (.mv (.t 51))])
 .ret)))),
 [.tmp 2]⟩

def F230 : Fnc := ⟨(.seq (.rg [p 6 (.mv (.k (.bool false)))])
 (.seq (.rg [p 7 (.mv (.t 0)),
 p 8 (.mv (.t 1)),
 p 9 (.bin .geq (.t 7) (.t 8)),
 p 10 (.mv (.t 9)),
 ⟨(some 11), .mv (.t 0), (some (10, true)), false⟩,
 ⟨(some 12), .mv (.t 2), (some (10, true)), false⟩,
 ⟨(some 13), .bin .leq (.t 11) (.t 12), (some (10, true)), false⟩,
 p 14 (.pick (.t 10) (.t 13) (.k (.bool false))),
 p 6 (.mv (.t 14))])
 .ret)),
 [.tmp 6]⟩

def F257 : Fnc := ⟨(.seq (.rg [p 4 (.mv (.k (.bool false)))])
 (.seq (.rg [p 5 (.mv (.t 0)),
 p 6 (.mv (.t 1)),
 p 7 (.call 266 [(.t 5), (.t 6)]),
 p 8 (.bin .geq (.t 7) (.k (.int .i64 0))),
 p 4 (.mv (.t 8))])
 .ret)),
 [.tmp 4]⟩

def F266 : Fnc := ⟨(.seq (.rg [p 4 (.mv (.k (.int .i64 0)))])
 (.seq (.seq (.rg [p 6 (.mv (.t 0)),
 p 7 (.len (.t 6)),
 p 8 (.mv (.k (.int .i64 0)))])
 (.block 0 (.loop (.seq (.rg [p 9 (.bin .lss (.t 8) (.t 7))])
 (.seq (.cond (.t 9) .skip
 (.exit 0))
 (.seq (.block 1 (.seq (.rg [p 10 (.mv (.t 8)),
 p 5 (.mv (.t 10))])
 (.seq (.rg [p 11 (.mv (.t 1)),
 p 12 (.mv (.t 0)),
 p 13 (.mv (.t 5)),
 p 14 (.ia 1 (.t 12) (.t 13)),
 p 15 (.ld (.t 14)),
 p 16 (.calli (.t 11) [(.t 15)])])
 (.cond (.t 16) (.seq (.rg [p 17 (.mv (.t 5)),
 p 4 (.mv (.t 17))])
 .ret)
 .skip))))
 (.rg [p 18 (.bin .add (.t 8) (.k (.int .i64 1))),
 p 8 (.mv (.t 18))])))))))
 (.seq (.rg [p 4 (.mv (.k (.int .i64 (-1))))])
 .ret))),
 [.tmp 4]⟩

def F305 : Fnc := ⟨(.seq (.rg [p 1 (.box (.t 0)),
 p 2 (.mv (.k (.bool false)))])
 (.seq (.rg [p 3 (.mv (.k (.int .i64 1048576)))])
 (.seq (.rg [p 11 (.ldn 6 (.t 1)),
 p 12 (.mv (.t 3)),
 p 13 (.call 153 [(.t 11), (.t 12)]),
 p 3 (.mv (.t 13))])
 (.seq (.seq (.rg [p 14 (.mv (.t 3)),
 p 15 (.bin .lss (.t 14) (.k (.int .i64 0)))])
 (.cond (.t 15) (.seq (.rg [p 2 (.mv (.k (.bool true)))])
 .ret)
 .skip))
 (.seq (.rg [p 16 (.ldn 6 (.t 1)),
 p 17 (.call 169 [(.t 16)]),
 p 18 (.call 328 [(.t 17)]),
 p 4 (.mv (.t 18))])
 (.seq (.rg [p 19 (.ldn 6 (.t 1)),
 p 20 (.call 169 [(.t 19)]),
 p 5 (.new [.bool false, .int .i64 0, .int .i64 0, .int .i64 0, .bool false, .slice none 0 0]),
 ⟨none, .stn 6 (.t 5) (.t 20), none, false⟩])
 (.seq (.rg [p 21 (.ldn 6 (.t 5)),
 p 22 (.call 324 [(.t 21)]),
 p 6 (.mv (.t 22))])
 (.seq (.seq (.rg [p 23 (.mv (.t 6)),
 p 24 (.mv (.t 4)),
 p 25 (.call 131 [(.t 23), (.t 24)]),
 p 26 (.not (.t 25))])
 (.cond (.t 26) (.seq (.rg [p 2 (.mv (.k (.bool false)))])
 .ret)
 .skip))
 (.seq (.seq (.rg [⟨(some 27), .ldn 6 (.t 5), none, true⟩,
 ⟨(some 28), .ldn 6 (.t 1), none, true⟩,
 ⟨(some 29), .call 169 [(.t 28)], none, true⟩,
 p 30 (.call 138 [(.t 27), (.t 29)]),
 p 31 (.not (.t 30))])
 (.cond (.t 31) (.seq (.rg [p 2 (.mv (.k (.bool false)))])
 .ret)
 .skip))
 (.seq (.rg [p 7 (.mv (.k (.int .i64 1)))])
 (.seq (.rg [p 32 (.ldn 6 (.t 5)),
 p 33 (.mv (.t 7)),
 p 34 (.call 329 [(.t 32), (.t 33)]),
 p 7 (.mv (.t 34))])
 (.seq (.seq (.rg [p 35 (.mv (.t 7)),
 p 36 (.bin .lss (.t 35) (.k (.int .i64 0))),
 p 37 (.mv (.t 36)),
 ⟨(some 38), .mv (.t 6), (some (37, false)), false⟩,
 ⟨(some 39), .mv (.t 4), (some (37, false)), false⟩,
 ⟨(some 40), .call 131 [(.t 38), (.t 39)], (some (37, false)), false⟩,
 ⟨(some 41), .not (.t 40), (some (37, false)), false⟩,
 p 42 (.pick (.t 37) (.k (.bool true)) (.t 41))])
 (.cond (.t 42) (.seq (.rg [p 2 (.mv (.k (.bool false)))])
 .ret)
 .skip))
 (.seq (.rg [p 8 (.mv (.k (.int .i64 1)))])
 (.seq (.rg [p 43 (.mv (.t 6)),
 p 44 (.mv (.t 8)),
 p 45 (.call 142 [(.t 43), (.t 44)]),
 p 8 (.mv (.t 45))])
 (.seq (.rg [p 9 (.mv (.k (.int .i64 1)))])
 (.seq (.rg [p 46 (.mv (.t 6)),
 p 47 (.mv (.t 9)),
 p 48 (.call 141 [(.t 46), (.t 47)]),
 p 9 (.mv (.t 48))])
 (.seq (.seq (.rg [p 49 (.mv (.t 9)),
 p 50 (.bin .lss (.t 49) (.k (.int .i64 0)))])
 (.cond (.t 50) (.seq (.rg [p 2 (.mv (.k (.bool false)))])
 .ret)
 .skip))
 (.seq (.seq (.rg [p 51 (.mv (.t 9)),
 p 52 (.mv (.t 8)),
 p 53 (.bin .neq (.t 51) (.t 52))])
 (.cond (.t 53) (.seq (.rg [p 2 (.mv (.k (.bool false)))])
 .ret)
 .skip))
 (.seq (.rg [p 54 (.ldn 6 (.t 1)),
 p 55 (.call 169 [(.t 54)]),
 p 56 (.call 324 [(.t 55)]),
 p 10 (.mv (.t 56))])
 (.seq (.seq (.rg [p 57 (.mv (.t 10)),
 p 58 (.mv (.t 4)),
 p 59 (.call 131 [(.t 57), (.t 58)]),
 p 60 (.not (.t 59))])
 (.cond (.t 60) (.seq (.rg [p 2 (.mv (.k (.bool false)))])
 .ret)
 .skip))
 (.seq (.rg [p 9 (.mv (.k (.int .i64 1)))])
 (.seq (.rg [p 61 (.mv (.t 6)),
 p 62 (.mv (.t 9)),
 p 63 (.call 141 [(.t 61), (.t 62)]),
 p 9 (.mv (.t 63))])
 (.seq (.seq (.rg [p 64 (.mv (.t 9)),
 p 65 (.bin .lss (.t 64) (.k (.int .i64 0)))])
 (.cond (.t 65) (.seq (.rg [p 2 (.mv (.k (.bool false)))])
 .ret)
 .skip))
 (.seq (.seq (.rg [p 66 (.mv (.t 9)),
 p 67 (.mv (.t 8)),
 p 68 (.bin .neq (.t 66) (.t 67))])
 (.cond (.t 68) (.seq (.rg [p 2 (.mv (.k (.bool false)))])
 .ret)
 .skip))
 (.seq (.rg [p 2 (.mv (.k (.bool true)))])
 .ret))))))))))))))))))))))))),
 [.tmp 2]⟩

def F324 : Fnc := ⟨(.seq (.rg [p 1 (.box (.t 0)),
 p 2 (.mv (.k (.slice none 0 0)))])
 (.seq (.seq (.rg [p 7 (.ldn 6 (.t 1)),
 p 8 (.call 66 [(.t 7)]),
 p 9 (.not (.t 8))])
 (.cond (.t 9) (.seq (.rg [p 2 (.mv (.k (.slice none 0 0)))])
 .ret)
 .skip))
 (.seq (.rg [p 10 (.bs 7 0 [.int .i64 0, .int .i64 0, .bool false, .int .i64 0, .int .i64 0, .int .i64 0, .int .i64 0] []),
 p 3 (.mv (.t 10))])
 (.seq (.seq (.rg [p 11 (.fa 1 (.t 1)),
 p 12 (.ld (.t 11)),
 p 13 (.fa 2 (.t 1)),
 p 14 (.ld (.t 13)),
 p 15 (.fa 3 (.t 1)),
 p 16 (.ld (.t 15)),
 p 17 (.call 29 [(.t 12), (.t 14), (.t 16)]),
 p 18 (.len (.t 17)),
 p 19 (.mv (.k (.int .i64 0)))])
 (.block 0 (.loop (.seq (.rg [p 20 (.bin .lss (.t 19) (.t 18))])
 (.seq (.cond (.t 20) .skip
 (.exit 0))
 (.seq (.block 1 (.seq (.rg [p 21 (.mv (.t 19)),
 p 22 (.ia 1 (.t 17) (.t 19)),
 p 23 (.ld (.t 22)),
 p 4 (.mv (.t 21)),
 p 5 (.mv (.t 23))])
 (.seq (.rg [p 24 (.fa 0 (.t 1)),
 p 25 (.ld (.t 24)),
 p 26 (.mv (.t 5)),
 p 27 (.fa 2 (.t 1)),
 p 28 (.ld (.t 27)),
 p 29 (.bd [.int .i64 0, .int .i64 0, .bool false, .int .i64 0, .int .i64 0, .int .i64 0, .int .i64 0] [(2, 1, (.t 25)), (3, 1, (.t 26)), (4, 1, (.t 28))]),
 p 6 (.new [.int .i64 0, .int .i64 0, .bool false, .int .i64 0, .int .i64 0, .int .i64 0, .int .i64 0]),
 ⟨none, .stn 7 (.t 6) (.t 29), none, false⟩])
 (.seq (.seq (.rg [p 30 (.fa 0 (.t 1)),
 p 31 (.ld (.t 30))])
 (.cond (.t 31) (.rg [p 32 (.fa 5 (.t 1)),
 p 33 (.ld (.t 32)),
 p 34 (.mv (.t 4)),
 p 35 (.ia 1 (.t 33) (.t 34)),
 p 36 (.ld (.t 35)),
 p 37 (.fa 5 (.t 6)),
 ⟨none, .st (.t 37) (.t 36), none, false⟩])
 .skip))
 (.rg [p 38 (.mv (.t 3)),
 p 39 (.ldn 7 (.t 6)),
 p 40 (.bs 7 1 [.int .i64 0, .int .i64 0, .bool false, .int .i64 0, .int .i64 0, .int .i64 0, .int .i64 0] [(0, (.t 39))]),
 p 41 (.app 7 56 (.t 38) (.t 40)),
 p 3 (.mv (.t 41))])))))
 (.rg [p 42 (.bin .add (.t 19) (.k (.int .i64 1))),
 p 19 (.mv (.t 42))])))))))
 (.seq (.rg [p 43 (.mv (.t 3)),
 p 2 (.mv (.t 43))])
 .ret))))),
 [.tmp 2]⟩

def F328 : Fnc := ⟨(.seq (.rg [p 1 (.box (.t 0)),
 p 2 (.mv (.k (.slice none 0 0)))])
 (.seq (.rg [p 6 (.bs 7 0 [.int .i64 0, .int .i64 0, .bool false, .int .i64 0, .int .i64 0, .int .i64 0, .int .i64 0] []),
 p 3 (.mv (.t 6))])
 (.seq (.rg [p 7 (.fa 1 (.t 1)),
 p 8 (.ld (.t 7)),
 p 9 (.fa 2 (.t 1)),
 p 10 (.ld (.t 9)),
 p 11 (.fa 3 (.t 1)),
 p 12 (.ld (.t 11)),
 p 13 (.call 179 [(.t 8), (.t 10), (.t 12)]),
 p 4 (.mv (.t 13))])
 (.seq (.seq (.rg [p 5 (.mv (.k (.int .i64 0)))])
 (.block 0 (.loop (.seq (.seq (.rg [p 14 (.mv (.t 5)),
 p 15 (.mv (.t 4)),
 p 16 (.len (.t 15)),
 p 17 (.bin .lss (.t 14) (.t 16)),
 p 18 (.mv (.t 17)),
 ⟨(some 19), .ldn 6 (.t 1), (some (18, true)), false⟩,
 ⟨(some 20), .call 207 [(.t 19)], (some (18, true)), false⟩,
 p 21 (.pick (.t 18) (.t 20) (.k (.bool false)))])
 (.cond (.t 21) .skip
 (.exit 0)))
 (.seq (.block 1 (.rg [⟨(some 24), .mv (.t 3), none, true⟩,
 ⟨(some 25), .fa 0 (.t 1), none, true⟩,
 ⟨(some 26), .ld (.t 25), none, true⟩,
 ⟨(some 27), .mv (.t 4), none, true⟩,
 ⟨(some 28), .mv (.t 5), none, true⟩,
 ⟨(some 29), .ia 1 (.t 27) (.t 28), none, true⟩,
 ⟨(some 30), .ld (.t 29), none, true⟩,
 ⟨(some 31), .fa 2 (.t 1), none, true⟩,
 ⟨(some 32), .ld (.t 31), none, true⟩,
 ⟨(some 33), .ldn 6 (.t 1), none, true⟩,
 ⟨(some 34), .mv (.t 5), none, true⟩,
 ⟨(some 35), .call 336 [(.t 33), (.t 34)], none, true⟩,
 ⟨(some 36), .bd [.int .i64 0, .int .i64 0, .bool false, .int .i64 0, .int .i64 0, .int .i64 0, .int .i64 0] [(2, 1, (.t 26)), (3, 1, (.t 30)), (4, 1, (.t 32)), (5, 1, (.t 35))], none, true⟩,
 ⟨(some 37), .bs 7 1 [.int .i64 0, .int .i64 0, .bool false, .int .i64 0, .int .i64 0, .int .i64 0, .int .i64 0] [(0, (.t 36))], none, true⟩,
 p 38 (.app 7 56 (.t 24) (.t 37)),
 p 3 (.mv (.t 38))]))
 (.rg [p 22 (.mv (.t 5)),
 p 23 (.bin .add (.t 22) (.k (.int .i64 1))),
 p 5 (.mv (.t 23))]))))))
 (.seq (.rg [p 39 (.mv (.t 3)),
 p 2 (.mv (.t 39))])
 .ret))))),
 [.tmp 2]⟩

def F329 : Fnc := ⟨(.seq (.rg [p 2 (.box (.t 0)),
 p 4 (.mv (.k (.int .i64 0)))])
 (.seq (.rg [p 5 (.fa 5 (.t 2)),
 p 6 (.ld (.t 5)),
 p 7 (.mv (.t 1)),
 p 8 (.call 337 [(.t 6), (.t 7)]),
 p 1 (.mv (.t 8))])
 (.seq (.rg [p 9 (.mv (.t 1)),
 p 4 (.mv (.t 9))])
 .ret))),
 [.tmp 4]⟩

def F336 : Fnc := ⟨(.seq (.rg [p 2 (.box (.t 0)),
 p 4 (.mv (.k (.int .i64 0)))])
 (.seq (.seq (.rg [p 5 (.fa 0 (.t 2)),
 p 6 (.ld (.t 5)),
 p 7 (.not (.t 6))])
 (.cond (.t 7) (.seq (.rg [p 4 (.mv (.k (.int .i64 0)))])
 .ret)
 .skip))
 (.seq (.rg [p 8 (.fa 5 (.t 2)),
 p 9 (.ld (.t 8)),
 p 10 (.mv (.t 1)),
 p 11 (.ia 1 (.t 9) (.t 10)),
 p 12 (.ld (.t 11)),
 p 4 (.mv (.t 12))])
 .ret))),
 [.tmp 4]⟩

def F337 : Fnc := ⟨(.seq (.rg [p 4 (.mv (.k (.int .i64 0)))])
 (.seq (.seq (.rg [p 5 (.mv (.k (.int .i64 0)))])
 (.block 0 (.loop (.seq (.seq (.rg [p 6 (.mv (.t 5)),
 p 7 (.mv (.t 0)),
 p 8 (.len (.t 7)),
 p 9 (.bin .lss (.t 6) (.t 8))])
 (.cond (.t 9) .skip
 (.exit 0)))
 (.seq (.block 1 (.seq (.rg [p 12 (.mv (.t 0)),
 p 13 (.mv (.t 5)),
 p 14 (.mv (.t 1)),
 p 15 (.ia 1 (.t 12) (.t 13)),
 ⟨none, .st (.t 15) (.t 14), none, false⟩])
 (.rg [p 16 (.mv (.t 1)),
 p 17 (.bin .add (.t 16) (.k (.int .i64 1))),
 p 1 (.mv (.t 17))])))
 (.rg [p 10 (.mv (.t 5)),
 p 11 (.bin .add (.t 10) (.k (.int .i64 1))),
 p 5 (.mv (.t 11))]))))))
 (.seq (.rg [p 18 (.mv (.t 1)),
 p 4 (.mv (.t 18))])
 .ret))),
 [.tmp 4]⟩

end Go.Proofs.Ytdlkgdlefbabcaa.AL
