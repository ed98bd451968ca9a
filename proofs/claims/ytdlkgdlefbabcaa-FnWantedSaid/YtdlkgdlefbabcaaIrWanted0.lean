/- Functions in the small language, printed by program. -/
import Derived.Test.YtdlkgdlefbabcaaAl0
namespace Go.Proofs.Ytdlkgdlefbabcaa.AL
open Go

def F21 : Fnc := ⟨(.seq (.rg [p 4 (.mv (.k (.bool false)))])
 (.seq (.rg [p 5 (.mv (.t 1)),
 p 6 (.call 103 [(.t 5), (.k (.int .i64 0)), (.k (.int .i64 2))]),
 p 7 (.mv (.t 6)),
 ⟨(some 8), .mv (.t 0), (some (7, true)), false⟩,
 ⟨(some 9), .bin .geq (.t 8) (.k (.int .i64 0)), (some (7, true)), false⟩,
 p 10 (.pick (.t 7) (.t 9) (.k (.bool false))),
 p 11 (.mv (.t 10)),
 ⟨(some 12), .mv (.t 0), (some (11, true)), false⟩,
 ⟨(some 13), .mv (.t 1), (some (11, true)), false⟩,
 ⟨(some 14), .call 33 [(.t 13)], (some (11, true)), false⟩,
 ⟨(some 15), .bin .rem (.t 12) (.t 14), (some (11, true)), false⟩,
 ⟨(some 16), .bin .eql (.t 15) (.k (.int .i64 0)), (some (11, true)), false⟩,
 p 17 (.pick (.t 11) (.t 16) (.k (.bool false))),
 p 4 (.mv (.t 17))])
 .ret)),
 [.tmp 4]⟩

def F22 : Fnc := ⟨(.seq (.rg [p 2 (.mv (.k (.int .i64 0)))])
 (.seq (.seq (.rg [p 3 (.mv (.t 0)),
 p 4 (.call 103 [(.t 3), (.k (.int .i64 0)), (.k (.int .i64 3))]),
 p 5 (.not (.t 4))])
 (.cond (.t 5) (.seq (.rg [p 2 (.mv (.k (.int .i64 0)))])
 .ret)
 .skip))
 (.seq (.rg [p 6 (.bs 1 4 [.int .i64 0] [(0, (.k (.int .i64 1))), (1, (.k (.int .i64 4))), (2, (.k (.int .i64 4))), (3, (.k (.int .i64 8)))]),
 p 7 (.mv (.t 0)),
 p 8 (.ia 1 (.t 6) (.t 7)),
 p 9 (.ld (.t 8)),
 p 2 (.mv (.t 9))])
 .ret))),
 [.tmp 2]⟩

def F29 : Fnc := ⟨(.seq (.rg [p 6 (.mv (.k (.slice none 0 0)))])
 (.seq (.rg [p 9 (.bs 1 0 [.int .i64 0] []),
 p 7 (.mv (.t 9))])
 (.seq (.seq (.rg [p 10 (.mv (.t 2)),
 p 11 (.call 22 [(.t 10)]),
 p 12 (.mv (.k (.int .i64 0)))])
 (.block 0 (.loop (.seq (.rg [p 13 (.bin .lss (.t 12) (.t 11))])
 (.seq (.cond (.t 13) .skip
 (.exit 0))
 (.seq (.block 1 (.seq (.rg [p 14 (.mv (.t 0)),
 p 15 (.mv (.t 1)),
 p 16 (.mv (.t 2)),
 p 17 (.call 60 [(.t 14), (.t 15), (.t 16)]),
 p 8 (.mv (.t 17))])
 (.seq (.seq (.rg [p 18 (.mv (.t 8)),
 p 19 (.bin .lss (.t 18) (.k (.int .i64 0)))])
 (.cond (.t 19) (.seq (.rg [p 6 (.mv (.k (.slice none 0 0)))])
 .ret)
 .skip))
 (.seq (.rg [p 20 (.mv (.t 7)),
 p 21 (.mv (.t 0)),
 p 22 (.bs 1 1 [.int .i64 0] [(0, (.t 21))]),
 p 23 (.app 1 8 (.t 20) (.t 22)),
 p 7 (.mv (.t 23))])
 (.rg [p 24 (.mv (.t 8)),
 p 0 (.mv (.t 24))])))))
 (.rg [p 25 (.bin .add (.t 12) (.k (.int .i64 1))),
 p 12 (.mv (.t 25))])))))))
 (.seq (.rg [p 26 (.mv (.t 7)),
 p 6 (.mv (.t 26))])
 .ret)))),
 [.tmp 6]⟩

def F30 : Fnc := ⟨(.seq (.rg [p 6 (.mv (.k (.bool false)))])
 (.seq (.rg [p 10 (.mv (.t 0)),
 p 11 (.mv (.t 1)),
 p 12 (.mv (.t 2)),
 p 13 (.call 29 [(.t 10), (.t 11), (.t 12)]),
 p 7 (.mv (.t 13))])
 (.seq (.seq (.rg [p 14 (.mv (.t 7)),
 p 15 (.len (.t 14)),
 p 16 (.mv (.k (.int .i64 0)))])
 (.block 0 (.loop (.seq (.rg [p 17 (.bin .lss (.t 16) (.t 15))])
 (.seq (.cond (.t 17) .skip
 (.exit 0))
 (.seq (.block 1 (.seq (.rg [p 18 (.ia 1 (.t 14) (.t 16)),
 p 19 (.ld (.t 18)),
 p 9 (.mv (.t 19))])
 (.seq (.rg [p 20 (.mv (.t 9)),
 p 21 (.bin .quo (.t 20) (.k (.int .i64 64))),
 p 22 (.mv (.t 7)),
 p 23 (.ia 1 (.t 22) (.k (.int .i64 0))),
 p 24 (.ld (.t 23)),
 p 25 (.bin .quo (.t 24) (.k (.int .i64 64))),
 p 26 (.bin .neq (.t 21) (.t 25))])
 (.cond (.t 26) (.seq (.rg [p 6 (.mv (.k (.bool false)))])
 .ret)
 .skip))))
 (.rg [p 27 (.bin .add (.t 16) (.k (.int .i64 1))),
 p 16 (.mv (.t 27))])))))))
 (.seq (.rg [p 28 (.mv (.t 7)),
 p 29 (.len (.t 28)),
 p 30 (.bin .gtr (.t 29) (.k (.int .i64 0))),
 p 6 (.mv (.t 30))])
 .ret)))),
 [.tmp 6]⟩

def F33 : Fnc := ⟨(.seq (.rg [p 2 (.mv (.k (.int .i64 0)))])
 (.seq (.seq (.rg [p 3 (.mv (.t 0)),
 p 4 (.call 103 [(.t 3), (.k (.int .i64 0)), (.k (.int .i64 2))]),
 p 5 (.not (.t 4))])
 (.cond (.t 5) (.seq (.rg [p 2 (.mv (.k (.int .i64 0)))])
 .ret)
 .skip))
 (.seq (.rg [p 6 (.mv (.t 0)),
 p 7 (.bin .shl (.k (.int .i64 1)) (.t 6)),
 p 2 (.mv (.t 7))])
 .ret))),
 [.tmp 2]⟩

def F46 : Fnc := ⟨(.seq (.rg [p 4 (.mv (.k (.bool false)))])
 (.seq (.seq (.rg [p 8 (.mv (.t 0)),
 p 9 (.len (.t 8)),
 p 10 (.mv (.t 1)),
 p 11 (.len (.t 10)),
 p 12 (.bin .gtr (.t 9) (.t 11))])
 (.cond (.t 12) (.seq (.rg [p 4 (.mv (.k (.bool false)))])
 .ret)
 .skip))
 (.seq (.seq (.rg [p 13 (.mv (.t 0)),
 p 14 (.len (.t 13)),
 p 15 (.mv (.k (.int .i64 0)))])
 (.block 0 (.loop (.seq (.rg [p 16 (.bin .lss (.t 15) (.t 14))])
 (.seq (.cond (.t 16) .skip
 (.exit 0))
 (.seq (.block 1 (.seq (.rg [p 17 (.mv (.t 15)),
 p 18 (.ia 7 (.t 13) (.t 15)),
 p 19 (.ldn 7 (.t 18)),
 p 6 (.new [.int .i64 0, .int .i64 0, .bool false, .int .i64 0, .int .i64 0, .int .i64 0, .int .i64 0]),
 p 5 (.mv (.t 17)),
 ⟨none, .stn 7 (.t 6) (.t 19), none, false⟩])
 (.seq (.rg [p 20 (.mv (.t 1)),
 p 21 (.mv (.t 5)),
 p 22 (.ia 7 (.t 20) (.t 21)),
 p 23 (.ldn 7 (.t 22)),
 p 7 (.new [.int .i64 0, .int .i64 0, .bool false, .int .i64 0, .int .i64 0, .int .i64 0, .int .i64 0]),
 ⟨none, .stn 7 (.t 7) (.t 23), none, false⟩])
 (.seq (.rg [p 24 (.fa 2 (.t 6)),
 p 25 (.ld (.t 24)),
 p 26 (.fa 2 (.t 7)),
 p 27 (.ld (.t 26)),
 p 28 (.eqb true (.t 25) (.t 27)),
 p 29 (.mv (.t 28)),
 ⟨(some 30), .fa 3 (.t 6), (some (29, false)), false⟩,
 ⟨(some 31), .ld (.t 30), (some (29, false)), false⟩,
 ⟨(some 32), .fa 3 (.t 7), (some (29, false)), false⟩,
 ⟨(some 33), .ld (.t 32), (some (29, false)), false⟩,
 ⟨(some 34), .bin .neq (.t 31) (.t 33), (some (29, false)), false⟩,
 p 35 (.pick (.t 29) (.k (.bool true)) (.t 34)),
 p 36 (.mv (.t 35)),
 ⟨(some 37), .fa 4 (.t 6), (some (36, false)), false⟩,
 ⟨(some 38), .ld (.t 37), (some (36, false)), false⟩,
 ⟨(some 39), .fa 4 (.t 7), (some (36, false)), false⟩,
 ⟨(some 40), .ld (.t 39), (some (36, false)), false⟩,
 ⟨(some 41), .bin .neq (.t 38) (.t 40), (some (36, false)), false⟩,
 p 42 (.pick (.t 36) (.k (.bool true)) (.t 41)),
 p 43 (.mv (.t 42)),
 ⟨(some 44), .fa 2 (.t 6), (some (43, false)), false⟩,
 ⟨(some 45), .ld (.t 44), (some (43, false)), false⟩,
 ⟨(some 46), .mv (.t 45), (some (43, false)), false⟩,
 ⟨(some 47), .fa 6 (.t 6), (some (46, true)), false⟩,
 ⟨(some 48), .ld (.t 47), (some (46, true)), false⟩,
 ⟨(some 49), .bin .eql (.t 48) (.k (.int .i64 0)), (some (46, true)), false⟩,
 ⟨(some 50), .pick (.t 46) (.t 49) (.k (.bool false)), (some (43, false)), false⟩,
 ⟨(some 51), .mv (.t 50), (some (43, false)), false⟩,
 ⟨(some 52), .fa 5 (.t 6), (some (51, true)), false⟩,
 ⟨(some 53), .ld (.t 52), (some (51, true)), false⟩,
 ⟨(some 54), .fa 5 (.t 7), (some (51, true)), false⟩,
 ⟨(some 55), .ld (.t 54), (some (51, true)), false⟩,
 ⟨(some 56), .bin .neq (.t 53) (.t 55), (some (51, true)), false⟩,
 ⟨(some 57), .pick (.t 51) (.t 56) (.k (.bool false)), (some (43, false)), false⟩,
 p 58 (.pick (.t 43) (.k (.bool true)) (.t 57))])
 (.cond (.t 58) (.seq (.rg [p 4 (.mv (.k (.bool false)))])
 .ret)
 .skip)))))
 (.rg [p 59 (.bin .add (.t 15) (.k (.int .i64 1))),
 p 15 (.mv (.t 59))])))))))
 (.seq (.rg [p 4 (.mv (.k (.bool true)))])
 .ret)))),
 [.tmp 4]⟩

def F51 : Fnc := ⟨(.seq (.rg [p 2 (.mv (.k (.int .i64 0)))])
 (.seq (.seq (.rg [p 3 (.mv (.t 0)),
 p 4 (.call 33 [(.t 3)]),
 p 5 (.bin .eql (.t 4) (.k (.int .i64 0)))])
 (.cond (.t 5) (.seq (.rg [p 2 (.mv (.k (.int .i64 0)))])
 .ret)
 .skip))
 (.seq (.rg [p 6 (.mv (.t 0)),
 p 7 (.call 33 [(.t 6)]),
 p 8 (.bin .mul (.k (.int .i64 8)) (.t 7)),
 p 9 (.bin .shl (.k (.int .i64 1)) (.t 8)),
 p 2 (.mv (.t 9))])
 .ret))),
 [.tmp 2]⟩

def F60 : Fnc := ⟨(.seq (.rg [p 6 (.mv (.k (.int .i64 0)))])
 (.seq (.seq (.rg [p 9 (.mv (.t 0)),
 p 10 (.mv (.t 1)),
 p 11 (.call 21 [(.t 9), (.t 10)]),
 p 12 (.not (.t 11)),
 p 13 (.mv (.t 12)),
 ⟨(some 14), .mv (.t 0), (some (13, false)), false⟩,
 ⟨(some 15), .bin .geq (.t 14) (.k (.int .i64 512)), (some (13, false)), false⟩,
 p 16 (.pick (.t 13) (.k (.bool true)) (.t 15)),
 p 17 (.mv (.t 16)),
 ⟨(some 18), .mv (.t 2), (some (17, false)), false⟩,
 ⟨(some 19), .call 22 [(.t 18)], (some (17, false)), false⟩,
 ⟨(some 20), .bin .eql (.t 19) (.k (.int .i64 0)), (some (17, false)), false⟩,
 p 21 (.pick (.t 17) (.k (.bool true)) (.t 20))])
 (.cond (.t 21) (.seq (.rg [p 6 (.mv (.k (.int .i64 (-1))))])
 .ret)
 .skip))
 (.seq (.rg [p 22 (.mv (.t 0)),
 p 23 (.mv (.t 1)),
 p 24 (.call 33 [(.t 23)]),
 p 25 (.bin .add (.t 22) (.t 24)),
 p 26 (.mv (.t 1)),
 p 27 (.call 33 [(.t 26)]),
 p 28 (.bin .mul (.k (.int .i64 4)) (.t 27)),
 p 7 (.mv (.t 25)),
 p 8 (.mv (.t 28))])
 (.seq (.seq (.rg [p 29 (.mv (.t 2)),
 p 30 (.bin .eql (.t 29) (.k (.int .i64 2))),
 p 31 (.mv (.t 30)),
 ⟨(some 32), .mv (.t 7), (some (31, true)), false⟩,
 ⟨(some 33), .mv (.t 8), (some (31, true)), false⟩,
 ⟨(some 34), .bin .rem (.t 32) (.t 33), (some (31, true)), false⟩,
 ⟨(some 35), .bin .eql (.t 34) (.k (.int .i64 0)), (some (31, true)), false⟩,
 p 36 (.pick (.t 31) (.t 35) (.k (.bool false)))])
 (.cond (.t 36) (.rg [p 37 (.mv (.t 7)),
 p 38 (.mv (.t 8)),
 p 39 (.bin .sub (.t 37) (.t 38)),
 p 7 (.mv (.t 39))])
 .skip))
 (.seq (.rg [p 40 (.mv (.t 7)),
 p 6 (.mv (.t 40))])
 .ret))))),
 [.tmp 6]⟩

def F66 : Fnc := ⟨(.seq (.rg [p 1 (.box (.t 0)),
 p 2 (.mv (.k (.bool false)))])
 (.seq (.rg [p 3 (.mv (.k (.int .i64 0)))])
 (.seq (.seq (.rg [p 4 (.fa 0 (.t 1)),
 p 5 (.ld (.t 4))])
 (.cond (.t 5) (.rg [p 6 (.fa 3 (.t 1)),
 p 7 (.ld (.t 6)),
 p 8 (.call 22 [(.t 7)]),
 p 3 (.mv (.t 8))])
 .skip))
 (.seq (.rg [p 9 (.fa 1 (.t 1)),
 p 10 (.ld (.t 9)),
 p 11 (.fa 2 (.t 1)),
 p 12 (.ld (.t 11)),
 p 13 (.fa 3 (.t 1)),
 p 14 (.ld (.t 13)),
 p 15 (.call 30 [(.t 10), (.t 12), (.t 14)]),
 p 16 (.mv (.t 15)),
 ⟨(some 17), .fa 5 (.t 1), (some (16, true)), false⟩,
 ⟨(some 18), .ld (.t 17), (some (16, true)), false⟩,
 ⟨(some 19), .len (.t 18), (some (16, true)), false⟩,
 ⟨(some 20), .mv (.t 3), (some (16, true)), false⟩,
 ⟨(some 21), .bin .eql (.t 19) (.t 20), (some (16, true)), false⟩,
 p 22 (.pick (.t 16) (.t 21) (.k (.bool false))),
 p 23 (.mv (.t 22)),
 ⟨(some 24), .fa 5 (.t 1), (some (23, true)), false⟩,
 ⟨(some 25), .ld (.t 24), (some (23, true)), false⟩,
 ⟨(some 26), .fn 67 [(.t 1)], (some (23, true)), false⟩,
 ⟨(some 27), .call 257 [(.t 25), (.t 26)], (some (23, true)), false⟩,
 ⟨(some 28), .not (.t 27), (some (23, true)), false⟩,
 p 29 (.pick (.t 23) (.t 28) (.k (.bool false))),
 p 2 (.mv (.t 29))])
 .ret)))),
 [.tmp 2]⟩

def F67 : Fnc := ⟨(.seq (.rg [p 3 (.mv (.k (.bool false)))])
 (.seq (.rg [p 4 (.mv (.t 0)),
 p 5 (.fa 2 (.t 1)),
 p 6 (.ld (.t 5)),
 p 7 (.call 92 [(.t 4), (.t 6)]),
 p 8 (.not (.t 7)),
 p 3 (.mv (.t 8))])
 .ret)),
 [.tmp 3]⟩

def F92 : Fnc := ⟨(.seq (.rg [p 4 (.mv (.k (.bool false)))])
 (.seq (.rg [p 5 (.mv (.t 0)),
 p 6 (.mv (.t 1)),
 p 7 (.call 51 [(.t 6)]),
 p 8 (.bin .sub (.t 7) (.k (.int .i64 1))),
 p 9 (.call 103 [(.t 5), (.k (.int .i64 0)), (.t 8)]),
 p 4 (.mv (.t 9))])
 .ret)),
 [.tmp 4]⟩

def F103 : Fnc := ⟨(.seq (.rg [p 6 (.mv (.k (.bool false)))])
 (.seq (.rg [p 7 (.mv (.t 1)),
 p 8 (.mv (.t 0)),
 p 9 (.bin .leq (.t 7) (.t 8)),
 p 10 (.mv (.t 9)),
 ⟨(some 11), .mv (.t 0), (some (10, true)), false⟩,
 ⟨(some 12), .mv (.t 2), (some (10, true)), false⟩,
 ⟨(some 13), .bin .leq (.t 11) (.t 12), (some (10, true)), false⟩,
 p 14 (.pick (.t 10) (.t 13) (.k (.bool false))),
 p 6 (.mv (.t 14))])
 .ret)),
 [.tmp 6]⟩

def F123 : Fnc := ⟨(.seq (.rg [p 2 (.mv (.k (.bool false)))])
 (.seq (.rg [p 3 (.mv (.t 0)),
 p 4 (.len (.t 3)),
 p 5 (.bin .gtr (.t 4) (.k (.int .i64 1048576))),
 p 2 (.mv (.t 5))])
 .ret)),
 [.tmp 2]⟩

def F172 : Fnc := ⟨(.seq (.rg [p 4 (.mv (.k (.bool false)))])
 (.seq (.rg [p 5 (.mv (.t 1)),
 p 6 (.call 183 [(.t 5)]),
 p 7 (.bin .gtr (.t 6) (.k (.int .i64 0))),
 p 8 (.mv (.t 7)),
 ⟨(some 9), .mv (.t 0), (some (8, true)), false⟩,
 ⟨(some 10), .bin .geq (.t 9) (.k (.int .i64 0)), (some (8, true)), false⟩,
 p 11 (.pick (.t 8) (.t 10) (.k (.bool false))),
 p 12 (.mv (.t 11)),
 ⟨(some 13), .mv (.t 0), (some (12, true)), false⟩,
 ⟨(some 14), .mv (.t 1), (some (12, true)), false⟩,
 ⟨(some 15), .call 183 [(.t 14)], (some (12, true)), false⟩,
 ⟨(some 16), .bin .rem (.t 13) (.t 15), (some (12, true)), false⟩,
 ⟨(some 17), .bin .eql (.t 16) (.k (.int .i64 0)), (some (12, true)), false⟩,
 p 18 (.pick (.t 12) (.t 17) (.k (.bool false))),
 p 4 (.mv (.t 18))])
 .ret)),
 [.tmp 4]⟩

def F173 : Fnc := ⟨(.seq (.rg [p 2 (.mv (.k (.int .i64 0)))])
 (.seq (.seq (.rg [p 3 (.mv (.t 0)),
 p 4 (.call 230 [(.t 3), (.k (.int .i64 0)), (.k (.int .i64 3))]),
 p 5 (.not (.t 4))])
 (.cond (.t 5) (.seq (.rg [p 2 (.mv (.k (.int .i64 0)))])
 .ret)
 .skip))
 (.seq (.rg [p 6 (.bs 1 4 [.int .i64 0] [(0, (.k (.int .i64 1))), (1, (.k (.int .i64 4))), (2, (.k (.int .i64 4))), (3, (.k (.int .i64 8)))]),
 p 7 (.mv (.t 0)),
 p 8 (.ia 1 (.t 6) (.t 7)),
 p 9 (.ld (.t 8)),
 p 2 (.mv (.t 9))])
 .ret))),
 [.tmp 2]⟩

def F179 : Fnc := ⟨(.seq (.rg [p 6 (.mv (.k (.slice none 0 0)))])
 (.seq (.rg [p 8 (.bs 1 0 [.int .i64 0] []),
 p 7 (.mv (.t 8))])
 (.seq (.block 0 (.loop (.seq (.seq (.rg [p 9 (.mv (.t 7)),
 p 10 (.len (.t 9)),
 p 11 (.mv (.t 2)),
 p 12 (.call 173 [(.t 11)]),
 p 13 (.bin .lss (.t 10) (.t 12)),
 p 14 (.mv (.t 13)),
 ⟨(some 15), .mv (.t 0), (some (14, true)), false⟩,
 ⟨(some 16), .mv (.t 1), (some (14, true)), false⟩,
 ⟨(some 17), .mv (.t 2), (some (14, true)), false⟩,
 ⟨(some 18), .call 205 [(.t 15), (.t 16), (.t 17)], (some (14, true)), false⟩,
 ⟨(some 19), .bin .geq (.t 18) (.k (.int .i64 0)), (some (14, true)), false⟩,
 p 20 (.pick (.t 14) (.t 19) (.k (.bool false)))])
 (.cond (.t 20) .skip
 (.exit 0)))
 (.block 1 (.seq (.rg [p 21 (.mv (.t 7)),
 p 22 (.mv (.t 0)),
 p 23 (.bs 1 1 [.int .i64 0] [(0, (.t 22))]),
 p 24 (.app 1 8 (.t 21) (.t 23)),
 p 7 (.mv (.t 24))])
 (.rg [p 25 (.mv (.t 0)),
 p 26 (.mv (.t 1)),
 p 27 (.mv (.t 2)),
 p 28 (.call 205 [(.t 25), (.t 26), (.t 27)]),
 p 0 (.mv (.t 28))]))))))
 (.seq (.seq (.rg [p 29 (.mv (.t 7)),
 p 30 (.len (.t 29)),
 p 31 (.mv (.t 2)),
 p 32 (.call 173 [(.t 31)]),
 p 33 (.bin .lss (.t 30) (.t 32))])
 (.cond (.t 33) (.seq (.rg [p 34 (.bs 1 0 [.int .i64 0] []),
 p 6 (.mv (.t 34))])
 .ret)
 .skip))
 (.seq (.rg [p 35 (.mv (.t 7)),
 p 6 (.mv (.t 35))])
 .ret))))),
 [.tmp 6]⟩

def F180 : Fnc := ⟨(.seq (.rg [p 6 (.mv (.k (.bool false)))])
 (.seq (.rg [p 9 (.mv (.t 0)),
 p 10 (.mv (.t 1)),
 p 11 (.mv (.t 2)),
 p 12 (.call 179 [(.t 9), (.t 10), (.t 11)]),
 p 7 (.mv (.t 12))])
 (.seq (.seq (.rg [p 8 (.mv (.k (.int .i64 0)))])
 (.block 0 (.loop (.seq (.seq (.rg [p 13 (.mv (.t 8)),
 p 14 (.mv (.t 7)),
 p 15 (.len (.t 14)),
 p 16 (.bin .lss (.t 13) (.t 15))])
 (.cond (.t 16) .skip
 (.exit 0)))
 (.seq (.block 1 (.seq (.rg [⟨(some 19), .mv (.t 7), none, true⟩,
 ⟨(some 20), .mv (.t 8), none, true⟩,
 ⟨(some 21), .ia 1 (.t 19) (.t 20), none, true⟩,
 ⟨(some 22), .ld (.t 21), none, true⟩,
 ⟨(some 23), .bin .quo (.t 22) (.k (.int .i64 64)), none, true⟩,
 ⟨(some 24), .mv (.t 7), none, true⟩,
 ⟨(some 25), .ia 1 (.t 24) (.k (.int .i64 0)), none, true⟩,
 ⟨(some 26), .ld (.t 25), none, true⟩,
 ⟨(some 27), .bin .quo (.t 26) (.k (.int .i64 64)), none, true⟩,
 p 28 (.bin .neq (.t 23) (.t 27))])
 (.cond (.t 28) (.seq (.rg [p 6 (.mv (.k (.bool false)))])
 .ret)
 .skip)))
 (.rg [p 17 (.mv (.t 8)),
 p 18 (.bin .add (.t 17) (.k (.int .i64 1))),
 p 8 (.mv (.t 18))]))))))
 (.seq (.rg [p 29 (.mv (.t 7)),
 p 30 (.len (.t 29)),
 p 31 (.bin .gtr (.t 30) (.k (.int .i64 0))),
 p 6 (.mv (.t 31))])
 .ret)))),
 [.tmp 6]⟩

def F183 : Fnc := ⟨(.seq (.rg [p 2 (.mv (.k (.int .i64 0)))])
 (.seq (.seq (.rg [p 3 (.mv (.t 0)),
 p 4 (.call 230 [(.t 3), (.k (.int .i64 0)), (.k (.int .i64 2))]),
 p 5 (.not (.t 4))])
 (.cond (.t 5) (.seq (.rg [p 2 (.mv (.k (.int .i64 0)))])
 .ret)
 .skip))
 (.seq (.rg [p 6 (.mv (.t 0)),
 p 7 (.bin .shl (.k (.int .i64 1)) (.t 6)),
 p 2 (.mv (.t 7))])
 .ret))),
 [.tmp 2]⟩

def F198 : Fnc := ⟨(.seq (.rg [p 4 (.mv (.k (.bool false)))])
 (.seq (.seq (.rg [p 8 (.mv (.t 0)),
 p 9 (.len (.t 8)),
 p 10 (.mv (.t 1)),
 p 11 (.len (.t 10)),
 p 12 (.bin .gtr (.t 9) (.t 11))])
 (.cond (.t 12) (.seq (.rg [p 4 (.mv (.k (.bool false)))])
 .ret)
 .skip))
 (.seq (.seq (.rg [p 5 (.mv (.k (.int .i64 0)))])
 (.block 0 (.loop (.seq (.seq (.rg [p 13 (.mv (.t 5)),
 p 14 (.mv (.t 0)),
 p 15 (.len (.t 14)),
 p 16 (.bin .lss (.t 13) (.t 15))])
 (.cond (.t 16) .skip
 (.exit 0)))
 (.seq (.block 1 (.seq (.rg [p 19 (.mv (.t 0)),
 p 20 (.mv (.t 5)),
 p 21 (.ia 7 (.t 19) (.t 20)),
 p 22 (.ldn 7 (.t 21)),
 p 6 (.new [.int .i64 0, .int .i64 0, .bool false, .int .i64 0, .int .i64 0, .int .i64 0, .int .i64 0]),
 ⟨none, .stn 7 (.t 6) (.t 22), none, false⟩])
 (.seq (.rg [p 23 (.mv (.t 1)),
 p 24 (.mv (.t 5)),
 p 25 (.ia 7 (.t 23) (.t 24)),
 p 26 (.ldn 7 (.t 25)),
 p 7 (.new [.int .i64 0, .int .i64 0, .bool false, .int .i64 0, .int .i64 0, .int .i64 0, .int .i64 0]),
 ⟨none, .stn 7 (.t 7) (.t 26), none, false⟩])
 (.seq (.rg [p 27 (.fa 2 (.t 6)),
 p 28 (.ld (.t 27)),
 p 29 (.fa 2 (.t 7)),
 p 30 (.ld (.t 29)),
 p 31 (.eqb true (.t 28) (.t 30)),
 p 32 (.mv (.t 31)),
 ⟨(some 33), .fa 3 (.t 6), (some (32, false)), false⟩,
 ⟨(some 34), .ld (.t 33), (some (32, false)), false⟩,
 ⟨(some 35), .fa 3 (.t 7), (some (32, false)), false⟩,
 ⟨(some 36), .ld (.t 35), (some (32, false)), false⟩,
 ⟨(some 37), .bin .neq (.t 34) (.t 36), (some (32, false)), false⟩,
 p 38 (.pick (.t 32) (.k (.bool true)) (.t 37)),
 p 39 (.mv (.t 38)),
 ⟨(some 40), .fa 4 (.t 6), (some (39, false)), false⟩,
 ⟨(some 41), .ld (.t 40), (some (39, false)), false⟩,
 ⟨(some 42), .fa 4 (.t 7), (some (39, false)), false⟩,
 ⟨(some 43), .ld (.t 42), (some (39, false)), false⟩,
 ⟨(some 44), .bin .neq (.t 41) (.t 43), (some (39, false)), false⟩,
 p 45 (.pick (.t 39) (.k (.bool true)) (.t 44)),
 p 46 (.mv (.t 45)),
 ⟨(some 47), .fa 2 (.t 6), (some (46, false)), false⟩,
 ⟨(some 48), .ld (.t 47), (some (46, false)), false⟩,
 ⟨(some 49), .mv (.t 48), (some (46, false)), false⟩,
 ⟨(some 50), .fa 6 (.t 6), (some (49, true)), false⟩,
 ⟨(some 51), .ld (.t 50), (some (49, true)), false⟩,
 ⟨(some 52), .bin .eql (.t 51) (.k (.int .i64 0)), (some (49, true)), false⟩,
 ⟨(some 53), .pick (.t 49) (.t 52) (.k (.bool false)), (some (46, false)), false⟩,
 ⟨(some 54), .mv (.t 53), (some (46, false)), false⟩,
 ⟨(some 55), .fa 5 (.t 6), (some (54, true)), false⟩,
 ⟨(some 56), .ld (.t 55), (some (54, true)), false⟩,
 ⟨(some 57), .fa 5 (.t 7), (some (54, true)), false⟩,
 ⟨(some 58), .ld (.t 57), (some (54, true)), false⟩,
 ⟨(some 59), .bin .neq (.t 56) (.t 58), (some (54, true)), false⟩,
 ⟨(some 60), .pick (.t 54) (.t 59) (.k (.bool false)), (some (46, false)), false⟩,
 p 61 (.pick (.t 46) (.k (.bool true)) (.t 60))])
 (.cond (.t 61) (.seq (.rg [p 4 (.mv (.k (.bool false)))])
 .ret)
 .skip)))))
 (.rg [p 17 (.mv (.t 5)),
 p 18 (.bin .add (.t 17) (.k (.int .i64 1))),
 p 5 (.mv (.t 18))]))))))
 (.seq (.rg [p 4 (.mv (.k (.bool true)))])
 .ret)))),
 [.tmp 4]⟩

def F201 : Fnc := ⟨(.seq (.rg [p 2 (.mv (.k (.int .i64 0)))])
 (.seq (.seq (.rg [p 3 (.mv (.t 0)),
 p 4 (.call 183 [(.t 3)]),
 p 5 (.bin .eql (.t 4) (.k (.int .i64 0)))])
 (.cond (.t 5) (.seq (.rg [p 2 (.mv (.k (.int .i64 0)))])
 .ret)
 .skip))
 (.seq (.rg [p 6 (.mv (.t 0)),
 p 7 (.call 183 [(.t 6)]),
 p 8 (.bin .mul (.k (.int .i64 8)) (.t 7)),
 p 9 (.bin .shl (.k (.int .i64 1)) (.t 8)),
 p 2 (.mv (.t 9))])
 .ret))),
 [.tmp 2]⟩

def F205 : Fnc := ⟨(.seq (.rg [p 6 (.mv (.k (.int .i64 0)))])
 (.seq (.rg [p 8 (.mv (.t 1)),
 p 9 (.call 183 [(.t 8)]),
 p 7 (.mv (.t 9))])
 (.seq (.seq (.rg [p 10 (.mv (.t 0)),
 p 11 (.mv (.t 1)),
 p 12 (.call 172 [(.t 10), (.t 11)]),
 p 13 (.not (.t 12)),
 p 14 (.mv (.t 13)),
 ⟨(some 15), .mv (.t 0), (some (14, false)), false⟩,
 ⟨(some 16), .call 230 [(.t 15), (.k (.int .i64 0)), (.k (.int .i64 511))], (some (14, false)), false⟩,
 ⟨(some 17), .not (.t 16), (some (14, false)), false⟩,
 p 18 (.pick (.t 14) (.k (.bool true)) (.t 17)),
 p 19 (.mv (.t 18)),
 ⟨(some 20), .mv (.t 2), (some (19, false)), false⟩,
 ⟨(some 21), .call 173 [(.t 20)], (some (19, false)), false⟩,
 ⟨(some 22), .bin .eql (.t 21) (.k (.int .i64 0)), (some (19, false)), false⟩,
 p 23 (.pick (.t 19) (.k (.bool true)) (.t 22))])
 (.cond (.t 23) (.seq (.rg [p 6 (.mv (.k (.int .i64 (-1))))])
 .ret)
 .skip))
 (.seq (.seq (.rg [p 24 (.mv (.t 2)),
 p 25 (.bin .eql (.t 24) (.k (.int .i64 2))),
 p 26 (.mv (.t 25)),
 ⟨(some 27), .mv (.t 0), (some (26, true)), false⟩,
 ⟨(some 28), .mv (.t 7), (some (26, true)), false⟩,
 ⟨(some 29), .bin .add (.t 27) (.t 28), (some (26, true)), false⟩,
 ⟨(some 30), .mv (.t 7), (some (26, true)), false⟩,
 ⟨(some 31), .bin .mul (.k (.int .i64 4)) (.t 30), (some (26, true)), false⟩,
 ⟨(some 32), .bin .rem (.t 29) (.t 31), (some (26, true)), false⟩,
 ⟨(some 33), .bin .eql (.t 32) (.k (.int .i64 0)), (some (26, true)), false⟩,
 p 34 (.pick (.t 26) (.t 33) (.k (.bool false)))])
 (.cond (.t 34) (.seq (.rg [p 35 (.mv (.t 0)),
 p 36 (.mv (.t 7)),
 p 37 (.bin .add (.t 35) (.t 36)),
 p 38 (.mv (.t 7)),
 p 39 (.bin .mul (.k (.int .i64 4)) (.t 38)),
 p 40 (.bin .sub (.t 37) (.t 39)),
 p 6 (.mv (.t 40))])
 .ret)
 .skip))
 (.seq (.rg [p 41 (.mv (.t 0)),
 p 42 (.mv (.t 7)),
 p 43 (.bin .add (.t 41) (.t 42)),
 p 6 (.mv (.t 43))])
 .ret))))),
 [.tmp 6]⟩

def F207 : Fnc := ⟨(.seq (.rg [p 1 (.box (.t 0)),
 p 2 (.mv (.k (.bool false)))])
 (.seq (.seq (.rg [p 4 (.fa 1 (.t 1)),
 p 5 (.ld (.t 4)),
 p 6 (.fa 2 (.t 1)),
 p 7 (.ld (.t 6)),
 p 8 (.fa 3 (.t 1)),
 p 9 (.ld (.t 8)),
 p 10 (.call 180 [(.t 5), (.t 7), (.t 9)]),
 p 11 (.not (.t 10))])
 (.cond (.t 11) (.seq (.rg [p 2 (.mv (.k (.bool false)))])
 .ret)
 .skip))
 (.seq (.seq (.rg [p 3 (.mv (.k (.int .i64 0)))])
 (.block 0 (.loop (.seq (.seq (.rg [p 12 (.mv (.t 3)),
 p 13 (.fa 5 (.t 1)),
 p 14 (.ld (.t 13)),
 p 15 (.len (.t 14)),
 p 16 (.bin .lss (.t 12) (.t 15))])
 (.cond (.t 16) .skip
 (.exit 0)))
 (.seq (.block 1 (.seq (.rg [⟨(some 19), .fa 5 (.t 1), none, true⟩,
 ⟨(some 20), .ld (.t 19), none, true⟩,
 ⟨(some 21), .mv (.t 3), none, true⟩,
 ⟨(some 22), .ia 1 (.t 20) (.t 21), none, true⟩,
 ⟨(some 23), .ld (.t 22), none, true⟩,
 ⟨(some 24), .fa 2 (.t 1), none, true⟩,
 ⟨(some 25), .ld (.t 24), none, true⟩,
 ⟨(some 26), .call 201 [(.t 25)], none, true⟩,
 ⟨(some 27), .bin .sub (.t 26) (.k (.int .i64 1)), none, true⟩,
 p 28 (.call 230 [(.t 23), (.k (.int .i64 0)), (.t 27)]),
 p 29 (.not (.t 28))])
 (.cond (.t 29) (.seq (.rg [p 2 (.mv (.k (.bool false)))])
 .ret)
 .skip)))
 (.rg [p 17 (.mv (.t 3)),
 p 18 (.bin .add (.t 17) (.k (.int .i64 1))),
 p 3 (.mv (.t 18))]))))))
 (.seq (.rg [p 30 (.fa 5 (.t 1)),
 p 31 (.ld (.t 30)),
 p 32 (.len (.t 31)),
 p 33 (.bin .eql (.t 32) (.k (.int .i64 0))),
 p 34 (.mv (.t 33)),
 ⟨(some 35), .fa 0 (.t 1), (some (34, true)), false⟩,
 ⟨(some 36), .ld (.t 35), (some (34, true)), false⟩,
 ⟨(some 37), .not (.t 36), (some (34, true)), false⟩,
 p 38 (.pick (.t 34) (.t 37) (.k (.bool false))),
 p 39 (.mv (.t 38)),
 ⟨(some 40), .fa 5 (.t 1), (some (39, false)), true⟩,
 ⟨(some 41), .ld (.t 40), (some (39, false)), true⟩,
 ⟨(some 42), .len (.t 41), (some (39, false)), true⟩,
 ⟨(some 43), .fa 3 (.t 1), (some (39, false)), true⟩,
 ⟨(some 44), .ld (.t 43), (some (39, false)), true⟩,
 ⟨(some 45), .call 173 [(.t 44)], (some (39, false)), true⟩,
 ⟨(some 46), .bin .eql (.t 42) (.t 45), (some (39, false)), false⟩,
 ⟨(some 47), .mv (.t 46), (some (39, false)), false⟩,
 ⟨(some 48), .fa 0 (.t 1), (some (47, true)), false⟩,
 ⟨(some 49), .ld (.t 48), (some (47, true)), false⟩,
 ⟨(some 50), .pick (.t 47) (.t 49) (.k (.bool false)), (some (39, false)), false⟩,
 p 51 (.pick (.t 39) (.k (.bool true)) (.t 50)),
 p 2 (.mv (.t 51))])
 .ret)))),
 [.tmp 2]⟩

def F228 : Fnc := ⟨(.seq (.rg [p 4 (.mv (.k (.int .i64 0)))])
 (.seq (.seq (.rg [p 9 (.mv (.t 1)),
 p 10 (.bin .leq (.t 9) (.k (.int .i64 0)))])
 (.cond (.t 10) (.seq (.rg [p 4 (.mv (.k (.int .i64 0)))])
 .ret)
 .skip))
 (.seq (.seq (.rg [p 11 (.mv (.t 1)),
 p 12 (.bin .leq (.t 11) (.k (.int .i64 256)))])
 (.cond (.t 12) (.seq (.rg [p 13 (.mv (.t 0)),
 p 14 (.call 229 [(.t 13)]),
 p 15 (.mv (.t 1)),
 p 16 (.bin .rem (.t 14) (.t 15)),
 p 4 (.mv (.t 16))])
 .ret)
 .skip))
 (.seq (.rg [p 17 (.mv (.t 0)),
 p 18 (.call 229 [(.t 17)]),
 p 5 (.mv (.t 18))])
 (.seq (.rg [p 19 (.mv (.t 0)),
 p 20 (.call 229 [(.t 19)]),
 p 6 (.mv (.t 20))])
 (.seq (.rg [p 21 (.mv (.t 0)),
 p 22 (.call 229 [(.t 21)]),
 p 7 (.mv (.t 22))])
 (.seq (.rg [p 23 (.mv (.t 0)),
 p 24 (.call 229 [(.t 23)]),
 p 8 (.mv (.t 24))])
 (.seq (.rg [p 25 (.mv (.t 5)),
 p 26 (.bin .mul (.t 25) (.k (.int .i64 16777216))),
 p 27 (.mv (.t 6)),
 p 28 (.bin .mul (.t 27) (.k (.int .i64 65536))),
 p 29 (.bin .add (.t 26) (.t 28)),
 p 30 (.mv (.t 7)),
 p 31 (.bin .mul (.t 30) (.k (.int .i64 256))),
 p 32 (.bin .add (.t 29) (.t 31)),
 p 33 (.mv (.t 8)),
 p 34 (.bin .add (.t 32) (.t 33)),
 p 35 (.mv (.t 1)),
 p 36 (.bin .rem (.t 34) (.t 35)),
 p 4 (.mv (.t 36))])
 .ret)))))))),
 [.tmp 4]⟩

def F229 : Fnc := ⟨(.seq (.rg [p 2 (.mv (.k (.int .i64 0)))])
 (.seq (.rg [p 4 (.mv (.t 0)),
 p 5 (.mv (.t 0)),
 p 6 (.nilc (.t 5)),
 p 7 (.fa 2 (.t 6)),
 p 8 (.ld (.t 7)),
 p 9 (.bin .mul (.t 8) (.k (.int .i64 6364136223846793005))),
 p 10 (.bin .add (.t 9) (.k (.int .i64 1442695040888963407))),
 p 11 (.nilc (.t 4)),
 p 12 (.fa 2 (.t 11)),
 ⟨none, .st (.t 12) (.t 10), none, false⟩])
 (.seq (.rg [⟨(some 13), .mv (.t 0), none, true⟩,
 ⟨(some 14), .nilc (.t 13), none, true⟩,
 ⟨(some 15), .fa 2 (.t 14), none, true⟩,
 ⟨(some 16), .ld (.t 15), none, true⟩,
 ⟨(some 17), .bin .shr (.t 16) (.k (.int .u64 33)), none, true⟩,
 ⟨(some 18), .mv (.t 0), none, true⟩,
 ⟨(some 19), .nilc (.t 18), none, true⟩,
 ⟨(some 20), .fa 2 (.t 19), none, true⟩,
 ⟨(some 21), .ld (.t 20), none, true⟩,
 ⟨(some 22), .bin .shr (.t 21) (.k (.int .u64 45)), none, true⟩,
 p 23 (.bin .xor (.t 17) (.t 22)),
 p 24 (.bin .and (.t 23) (.k (.int .i64 255))),
 p 3 (.mv (.t 24))])
 (.seq (.seq (.rg [⟨(some 25), .mv (.t 0), none, true⟩,
 ⟨(some 26), .nilc (.t 25), none, true⟩,
 ⟨(some 27), .fa 1 (.t 26), none, true⟩,
 ⟨(some 28), .ld (.t 27), none, true⟩,
 ⟨(some 29), .mv (.t 0), none, true⟩,
 ⟨(some 30), .nilc (.t 29), none, true⟩,
 ⟨(some 31), .fa 0 (.t 30), none, true⟩,
 ⟨(some 32), .ld (.t 31), none, true⟩,
 ⟨(some 33), .len (.t 32), none, true⟩,
 p 34 (.bin .lss (.t 28) (.t 33))])
 (.cond (.t 34) (.seq (.rg [⟨(some 35), .mv (.t 3), none, true⟩,
 ⟨(some 36), .mv (.t 0), none, true⟩,
 ⟨(some 37), .nilc (.t 36), none, true⟩,
 ⟨(some 38), .fa 0 (.t 37), none, true⟩,
 ⟨(some 39), .ld (.t 38), none, true⟩,
 ⟨(some 40), .mv (.t 0), none, true⟩,
 ⟨(some 41), .nilc (.t 40), none, true⟩,
 ⟨(some 42), .fa 1 (.t 41), none, true⟩,
 ⟨(some 43), .ld (.t 42), none, true⟩,
 ⟨(some 44), .ia 1 (.t 39) (.t 43), none, true⟩,
 ⟨(some 45), .ld (.t 44), none, true⟩,
 ⟨(some 46), .cvi .i64 (.t 45), none, true⟩,
 p 47 (.bin .add (.t 35) (.t 46)),
 p 48 (.bin .and (.t 47) (.k (.int .i64 255))),
 p 3 (.mv (.t 48))])
 (.rg [p 49 (.mv (.t 0)),
 p 50 (.mv (.t 0)),
 p 51 (.nilc (.t 50)),
 p 52 (.fa 1 (.t 51)),
 p 53 (.ld (.t 52)),
 p 54 (.bin .add (.t 53) (.k (.int .i64 1))),
 p 55 (.nilc (.t 49)),
 p 56 (.fa 1 (.t 55)),
 ⟨none, .st (.t 56) (.t 54), none, false⟩]))
 .skip))
 (.seq (.rg [p 57 (.mv (.t 3)),
 p 2 (.mv (.t 57))])
 .ret))))),
 [.tmp 2]⟩

def F230 : Fnc := ⟨(.seq (.rg [p 6 (.mv (.k (.bool false)))])
 (.seq (.rg [p 7 (.mv (.t 0)),
 p 8 (.mv (.t 1)),
 p 9 (.bin .geq (.t 7) (.t 8)),
 p 10 (.mv (.t 9)),
 ⟨(some 11), .mv (.t 0), (some (10, true)), false⟩,
 ⟨(some 12), .mv (.t 2), (some (10, true)), false⟩,
 ⟨(some 13), .bin .leq (.t 11) (.t 12), (some (10, true)), false⟩,
 p 14 (.pick (.t 10) (.t 13) (.k (.bool false))),
 p 6 (.mv (.t 14))])
 .ret)),
 [.tmp 6]⟩

def F231 : Fnc := ⟨(.seq (.rg [p 2 (.mv (.k (.pointer none)))])
 (.seq (.rg [p 5 (.mv (.t 0)),
 p 6 (.len (.t 5)),
 p 7 (.bin .add (.k (.int .i64 10101)) (.t 6)),
 p 3 (.mv (.t 7))])
 (.seq (.seq (.rg [p 4 (.mv (.k (.int .i64 0)))])
 (.block 0 (.loop (.seq (.seq (.rg [p 8 (.mv (.t 4)),
 p 9 (.mv (.t 0)),
 p 10 (.len (.t 9)),
 p 11 (.bin .lss (.t 8) (.t 10)),
 p 12 (.mv (.t 11)),
 ⟨(some 13), .mv (.t 4), (some (12, true)), false⟩,
 ⟨(some 14), .bin .lss (.t 13) (.k (.int .i64 4000)), (some (12, true)), false⟩,
 p 15 (.pick (.t 12) (.t 14) (.k (.bool false)))])
 (.cond (.t 15) .skip
 (.exit 0)))
 (.seq (.block 1 (.rg [p 18 (.mv (.t 3)),
 p 19 (.bin .mul (.t 18) (.k (.int .i64 131))),
 p 20 (.mv (.t 0)),
 p 21 (.mv (.t 4)),
 p 22 (.ia 1 (.t 20) (.t 21)),
 p 23 (.ld (.t 22)),
 p 24 (.cvi .i64 (.t 23)),
 p 25 (.bin .add (.t 19) (.t 24)),
 p 26 (.bin .add (.t 25) (.k (.int .i64 7))),
 p 27 (.bin .and (.t 26) (.k (.int .i64 1073741823))),
 p 3 (.mv (.t 27))]))
 (.rg [p 16 (.mv (.t 4)),
 p 17 (.bin .add (.t 16) (.k (.int .i64 1))),
 p 4 (.mv (.t 17))]))))))
 (.seq (.rg [p 28 (.mv (.t 0)),
 p 29 (.mv (.t 3)),
 p 30 (.bd [.slice none 0 0, .int .i64 0, .int .i64 0] [(0, 1, (.t 28)), (2, 1, (.t 29))]),
 p 31 (.box (.t 30)),
 p 2 (.mv (.t 31))])
 .ret)))),
 [.tmp 2]⟩

def F233 : Fnc := ⟨(.seq (.rg [p 4 (.mv (.k (.bool false)))])
 (.seq (.rg [p 5 (.mv (.t 0)),
 p 6 (.mv (.t 1)),
 p 7 (.call 228 [(.t 5), (.t 6)]),
 p 8 (.bin .eql (.t 7) (.k (.int .i64 0))),
 p 4 (.mv (.t 8))])
 .ret)),
 [.tmp 4]⟩

def F234 : Fnc := ⟨(.seq (.rg [p 4 (.mv (.k (.int .i64 0)))])
 (.seq (.rg [p 5 (.mv (.t 1)),
 p 6 (.mv (.t 0)),
 p 7 (.mv (.t 1)),
 p 8 (.len (.t 7)),
 p 9 (.call 228 [(.t 6), (.t 8)]),
 p 10 (.ia 1 (.t 5) (.t 9)),
 p 11 (.ld (.t 10)),
 p 4 (.mv (.t 11))])
 .ret)),
 [.tmp 4]⟩

def F237 : Fnc := ⟨(.seq (.rg [p 2 (.mv (.k (.int .i64 0)))])
 (.seq (.rg [p 3 (.mv (.t 0)),
 p 4 (.call 228 [(.t 3), (.k (.int .i64 6))]),
 p 5 (.bin .sub (.t 4) (.k (.int .i64 1))),
 p 2 (.mv (.t 5))])
 .ret)),
 [.tmp 2]⟩

def F239 : Fnc := ⟨(.seq (.rg [p 2 (.new [.bool false, .int .i64 0, .int .i64 0, .int .i64 0, .bool false, .slice none 0 0])])
 (.seq (.rg [p 4 (.mv (.t 0)),
 p 5 (.call 241 [(.t 4)]),
 p 3 (.new [.bool false, .int .i64 0, .int .i64 0, .int .i64 0, .bool false, .slice none 0 0]),
 ⟨none, .stn 6 (.t 3) (.t 5), none, false⟩])
 (.seq (.seq (.rg [p 6 (.mv (.t 0)),
 p 7 (.call 228 [(.t 6), (.k (.int .i64 12))])])
 (.block 0 (.seq (.rg [p 9 (.bin .eql (.t 7) (.k (.int .i64 0))),
 p 8 (.mv (.t 9))])
 (.cond (.t 8) (.rg [p 10 (.mv (.t 0)),
 p 11 (.bs 1 4 [.int .i64 0] [(0, (.k (.int .i64 (-4)))), (1, (.k (.int .i64 510))), (2, (.k (.int .i64 512))), (3, (.k (.int .i64 61)))]),
 p 12 (.call 234 [(.t 10), (.t 11)]),
 p 13 (.fa 1 (.t 3)),
 ⟨none, .st (.t 13) (.t 12), none, false⟩])
 (.seq (.rg [p 15 (.bin .eql (.t 7) (.k (.int .i64 1))),
 p 14 (.mv (.t 15))])
 (.cond (.t 14) (.rg [p 16 (.fa 0 (.t 3)),
 p 17 (.ld (.t 16)),
 p 18 (.not (.t 17)),
 p 19 (.fa 0 (.t 3)),
 ⟨none, .st (.t 19) (.t 18), none, false⟩])
 (.seq (.rg [p 21 (.bin .eql (.t 7) (.k (.int .i64 2))),
 p 20 (.mv (.t 21))])
 (.cond (.t 20) (.rg [p 22 (.mv (.t 0)),
 p 23 (.call 237 [(.t 22)]),
 p 24 (.fa 2 (.t 3)),
 ⟨none, .st (.t 24) (.t 23), none, false⟩])
 (.seq (.rg [p 26 (.bin .eql (.t 7) (.k (.int .i64 3))),
 p 25 (.mv (.t 26))])
 (.cond (.t 25) (.rg [p 27 (.mv (.t 0)),
 p 28 (.call 237 [(.t 27)]),
 p 29 (.fa 3 (.t 3)),
 ⟨none, .st (.t 29) (.t 28), none, false⟩])
 (.seq (.rg [p 31 (.bin .eql (.t 7) (.k (.int .i64 4))),
 p 30 (.mv (.t 31))])
 (.cond (.t 30) (.rg [p 32 (.fa 5 (.t 3)),
 p 33 (.ld (.t 32)),
 p 34 (.bs 1 1 [.int .i64 0] [(0, (.k (.int .i64 1)))]),
 p 35 (.app 1 8 (.t 33) (.t 34)),
 p 36 (.fa 5 (.t 3)),
 ⟨none, .st (.t 36) (.t 35), none, false⟩])
 .skip))))))))))))
 (.seq (.rg [p 37 (.ldn 6 (.t 3)),
 ⟨none, .stn 6 (.t 2) (.t 37), none, false⟩])
 .ret)))),
 [.celln 2 6]⟩

def F241 : Fnc := ⟨(.seq (.rg [p 2 (.new [.bool false, .int .i64 0, .int .i64 0, .int .i64 0, .bool false, .slice none 0 0])])
 (.seq (.rg [p 6 (.mv (.t 0)),
 p 7 (.call 233 [(.t 6), (.k (.int .i64 2))]),
 p 8 (.mv (.t 0)),
 p 9 (.bs 1 5 [.int .i64 0] [(0, (.k (.int .i64 2))), (1, (.k (.int .i64 2))), (2, (.k (.int .i64 2))), (3, (.k (.int .i64 0))), (4, (.k (.int .i64 1)))]),
 p 10 (.call 234 [(.t 8), (.t 9)]),
 p 11 (.mv (.t 0)),
 p 12 (.bs 1 5 [.int .i64 0] [(0, (.k (.int .i64 0))), (1, (.k (.int .i64 0))), (2, (.k (.int .i64 1))), (3, (.k (.int .i64 2))), (4, (.k (.int .i64 3)))]),
 p 13 (.call 234 [(.t 11), (.t 12)]),
 p 14 (.mv (.t 0)),
 p 15 (.call 233 [(.t 14), (.k (.int .i64 6))]),
 p 16 (.bd [.bool false, .int .i64 0, .int .i64 0, .int .i64 0, .bool false, .slice none 0 0] [(0, 1, (.t 7)), (2, 1, (.t 10)), (3, 1, (.t 13)), (4, 1, (.t 15))]),
 p 3 (.new [.bool false, .int .i64 0, .int .i64 0, .int .i64 0, .bool false, .slice none 0 0]),
 ⟨none, .stn 6 (.t 3) (.t 16), none, false⟩])
 (.seq (.rg [p 17 (.fa 2 (.t 3)),
 p 18 (.ld (.t 17)),
 p 19 (.call 183 [(.t 18)]),
 p 4 (.mv (.t 19))])
 (.seq (.rg [p 20 (.mv (.t 0)),
 p 21 (.mv (.t 0)),
 p 22 (.call 228 [(.t 21), (.k (.int .i64 128))]),
 p 23 (.mv (.t 0)),
 p 24 (.call 228 [(.t 23), (.k (.int .i64 128))]),
 p 25 (.mv (.t 0)),
 p 26 (.call 228 [(.t 25), (.k (.int .i64 64))]),
 p 27 (.bin .add (.k (.int .i64 128)) (.t 26)),
 p 28 (.mv (.t 0)),
 p 29 (.call 228 [(.t 28), (.k (.int .i64 40))]),
 p 30 (.bin .add (.k (.int .i64 192)) (.t 29)),
 p 31 (.mv (.t 0)),
 p 32 (.call 228 [(.t 31), (.k (.int .i64 512))]),
 p 33 (.bs 1 5 [.int .i64 0] [(0, (.t 22)), (1, (.t 24)), (2, (.t 27)), (3, (.t 30)), (4, (.t 32))]),
 p 34 (.call 234 [(.t 20), (.t 33)]),
 p 35 (.mv (.t 4)),
 p 36 (.bin .quo (.t 34) (.t 35)),
 p 37 (.mv (.t 4)),
 p 38 (.bin .mul (.t 36) (.t 37)),
 p 39 (.fa 1 (.t 3)),
 ⟨none, .st (.t 39) (.t 38), none, false⟩])
 (.seq (.seq (.rg [p 40 (.fa 1 (.t 3)),
 p 41 (.ld (.t 40)),
 p 42 (.fa 2 (.t 3)),
 p 43 (.ld (.t 42)),
 p 44 (.fa 3 (.t 3)),
 p 45 (.ld (.t 44)),
 p 46 (.call 180 [(.t 41), (.t 43), (.t 45)]),
 p 47 (.not (.t 46))])
 (.cond (.t 47) (.rg [p 48 (.fa 3 (.t 3)),
 ⟨none, .st (.t 48) (.k (.int .i64 0)), none, false⟩])
 .skip))
 (.seq (.seq (.rg [p 5 (.mv (.k (.int .i64 0)))])
 (.block 0 (.loop (.seq (.seq (.rg [p 49 (.mv (.t 5)),
 p 50 (.fa 3 (.t 3)),
 p 51 (.ld (.t 50)),
 p 52 (.call 173 [(.t 51)]),
 p 53 (.bin .lss (.t 49) (.t 52)),
 p 54 (.mv (.t 53)),
 ⟨(some 55), .fa 0 (.t 3), (some (54, true)), false⟩,
 ⟨(some 56), .ld (.t 55), (some (54, true)), false⟩,
 p 57 (.pick (.t 54) (.t 56) (.k (.bool false)))])
 (.cond (.t 57) .skip
 (.exit 0)))
 (.seq (.block 1 (.rg [⟨(some 60), .fa 5 (.t 3), none, true⟩,
 ⟨(some 61), .ld (.t 60), none, true⟩,
 ⟨(some 62), .mv (.t 0), none, true⟩,
 ⟨(some 63), .mv (.t 0), none, true⟩,
 ⟨(some 64), .fa 2 (.t 3), none, true⟩,
 ⟨(some 65), .ld (.t 64), none, true⟩,
 ⟨(some 66), .call 201 [(.t 65)], none, true⟩,
 ⟨(some 67), .mn [(.t 66), (.k (.int .i64 1000))], none, true⟩,
 ⟨(some 68), .fa 2 (.t 3), none, true⟩,
 ⟨(some 69), .ld (.t 68), none, true⟩,
 ⟨(some 70), .call 201 [(.t 69)], none, true⟩,
 ⟨(some 71), .bs 1 2 [.int .i64 0] [(0, (.t 67)), (1, (.t 70))], none, true⟩,
 ⟨(some 72), .call 234 [(.t 63), (.t 71)], none, true⟩,
 ⟨(some 73), .call 228 [(.t 62), (.t 72)], none, true⟩,
 ⟨(some 74), .bs 1 1 [.int .i64 0] [(0, (.t 73))], none, true⟩,
 p 75 (.app 1 8 (.t 61) (.t 74)),
 p 76 (.fa 5 (.t 3)),
 ⟨none, .st (.t 76) (.t 75), none, false⟩]))
 (.rg [p 58 (.mv (.t 5)),
 p 59 (.bin .add (.t 58) (.k (.int .i64 1))),
 p 5 (.mv (.t 59))]))))))
 (.seq (.rg [p 77 (.ldn 6 (.t 3)),
 ⟨none, .stn 6 (.t 2) (.t 77), none, false⟩])
 .ret))))))),
 [.celln 2 6]⟩

def F257 : Fnc := ⟨(.seq (.rg [p 4 (.mv (.k (.bool false)))])
 (.seq (.rg [p 5 (.mv (.t 0)),
 p 6 (.mv (.t 1)),
 p 7 (.call 266 [(.t 5), (.t 6)]),
 p 8 (.bin .geq (.t 7) (.k (.int .i64 0))),
 p 4 (.mv (.t 8))])
 .ret)),
 [.tmp 4]⟩

def F266 : Fnc := ⟨(.seq (.rg [p 4 (.mv (.k (.int .i64 0)))])
 (.seq (.seq (.rg [p 6 (.mv (.t 0)),
 p 7 (.len (.t 6)),
 p 8 (.mv (.k (.int .i64 0)))])
 (.block 0 (.loop (.seq (.rg [p 9 (.bin .lss (.t 8) (.t 7))])
 (.seq (.cond (.t 9) .skip
 (.exit 0))
 (.seq (.block 1 (.seq (.rg [p 10 (.mv (.t 8)),
 p 5 (.mv (.t 10))])
 (.seq (.rg [p 11 (.mv (.t 1)),
 p 12 (.mv (.t 0)),
 p 13 (.mv (.t 5)),
 p 14 (.ia 1 (.t 12) (.t 13)),
 p 15 (.ld (.t 14)),
 p 16 (.calli (.t 11) [(.t 15)])])
 (.cond (.t 16) (.seq (.rg [p 17 (.mv (.t 5)),
 p 4 (.mv (.t 17))])
 .ret)
 .skip))))
 (.rg [p 18 (.bin .add (.t 8) (.k (.int .i64 1))),
 p 8 (.mv (.t 18))])))))))
 (.seq (.rg [p 4 (.mv (.k (.int .i64 (-1))))])
 .ret))),
 [.tmp 4]⟩

def F302 : Fnc := ⟨(.seq (.rg [p 2 (.mv (.k (.bool false)))])
 (.seq (.seq (.rg [p 8 (.mv (.t 0)),
 p 9 (.call 123 [(.t 8)])])
 (.cond (.t 9) (.seq (.rg [p 2 (.mv (.k (.bool true)))])
 .ret)
 .skip))
 (.seq (.rg [p 10 (.mv (.t 0)),
 p 11 (.call 323 [(.t 10)]),
 p 3 (.new [.bool false, .int .i64 0, .int .i64 0, .int .i64 0, .bool false, .slice none 0 0]),
 ⟨none, .stn 6 (.t 3) (.t 11), none, false⟩])
 (.seq (.rg [p 12 (.ldn 6 (.t 3)),
 p 13 (.call 324 [(.t 12)]),
 p 4 (.mv (.t 13))])
 (.seq (.seq (.rg [p 14 (.ldn 6 (.t 3)),
 p 15 (.call 207 [(.t 14)]),
 p 16 (.not (.t 15))])
 (.cond (.t 16) (.seq (.rg [p 17 (.mv (.t 4)),
 p 18 (.len (.t 17)),
 p 19 (.bin .eql (.t 18) (.k (.int .i64 0))),
 p 2 (.mv (.t 19))])
 .ret)
 .skip))
 (.seq (.seq (.rg [p 20 (.mv (.t 4)),
 p 21 (.len (.t 20)),
 p 22 (.fa 3 (.t 3)),
 p 23 (.ld (.t 22)),
 p 24 (.call 22 [(.t 23)]),
 p 25 (.bin .neq (.t 21) (.t 24)),
 p 26 (.mv (.t 25)),
 ⟨(some 27), .mv (.t 4), (some (26, false)), false⟩,
 ⟨(some 28), .mv (.t 4), (some (26, false)), false⟩,
 ⟨(some 29), .call 46 [(.t 27), (.t 28)], (some (26, false)), false⟩,
 ⟨(some 30), .not (.t 29), (some (26, false)), false⟩,
 p 31 (.pick (.t 26) (.k (.bool true)) (.t 30)),
 p 32 (.mv (.t 31)),
 ⟨(some 33), .mv (.t 4), (some (32, false)), false⟩,
 ⟨(some 34), .sl 7 (.t 33) none (some (.k (.int .i64 1))) none, (some (32, false)), false⟩,
 ⟨(some 35), .mv (.t 4), (some (32, false)), false⟩,
 ⟨(some 36), .call 46 [(.t 34), (.t 35)], (some (32, false)), false⟩,
 ⟨(some 37), .not (.t 36), (some (32, false)), false⟩,
 p 38 (.pick (.t 32) (.k (.bool true)) (.t 37)),
 p 39 (.mv (.t 38)),
 ⟨(some 40), .bs 7 0 [.int .i64 0, .int .i64 0, .bool false, .int .i64 0, .int .i64 0, .int .i64 0, .int .i64 0] [], (some (39, false)), false⟩,
 ⟨(some 41), .mv (.t 4), (some (39, false)), false⟩,
 ⟨(some 42), .app 7 56 (.t 40) (.t 41), (some (39, false)), false⟩,
 ⟨(some 43), .mv (.t 4), (some (39, false)), false⟩,
 ⟨(some 44), .app 7 56 (.t 42) (.t 43), (some (39, false)), false⟩,
 ⟨(some 45), .mv (.t 4), (some (39, false)), false⟩,
 ⟨(some 46), .call 46 [(.t 44), (.t 45)], (some (39, false)), false⟩,
 p 47 (.pick (.t 39) (.k (.bool true)) (.t 46))])
 (.cond (.t 47) (.seq (.rg [p 2 (.mv (.k (.bool false)))])
 .ret)
 .skip))
 (.seq (.seq (.rg [p 5 (.mv (.k (.int .i64 0)))])
 (.block 0 (.loop (.seq (.seq (.rg [p 48 (.mv (.t 5)),
 p 49 (.mv (.t 4)),
 p 50 (.len (.t 49)),
 p 51 (.bin .lss (.t 48) (.t 50))])
 (.cond (.t 51) .skip
 (.exit 0)))
 (.seq (.block 1 (.seq (.rg [⟨(some 54), .mv (.t 4), none, true⟩,
 ⟨(some 55), .mv (.t 5), none, true⟩,
 ⟨(some 56), .ia 7 (.t 54) (.t 55), none, true⟩,
 ⟨(some 57), .fa 4 (.t 56), none, true⟩,
 ⟨(some 58), .ld (.t 57), none, true⟩,
 ⟨(some 59), .fa 2 (.t 3), none, true⟩,
 ⟨(some 60), .ld (.t 59), none, true⟩,
 p 61 (.bin .neq (.t 58) (.t 60)),
 p 62 (.mv (.t 61)),
 ⟨(some 63), .fa 0 (.t 3), (some (62, false)), false⟩,
 ⟨(some 64), .ld (.t 63), (some (62, false)), false⟩,
 ⟨(some 65), .mv (.t 64), (some (62, false)), false⟩,
 ⟨(some 66), .mv (.t 4), (some (65, true)), true⟩,
 ⟨(some 67), .mv (.t 5), (some (65, true)), true⟩,
 ⟨(some 68), .ia 7 (.t 66) (.t 67), (some (65, true)), true⟩,
 ⟨(some 69), .fa 5 (.t 68), (some (65, true)), true⟩,
 ⟨(some 70), .ld (.t 69), (some (65, true)), true⟩,
 ⟨(some 71), .fa 5 (.t 3), (some (65, true)), true⟩,
 ⟨(some 72), .ld (.t 71), (some (65, true)), true⟩,
 ⟨(some 73), .mv (.t 5), (some (65, true)), true⟩,
 ⟨(some 74), .ia 1 (.t 72) (.t 73), (some (65, true)), true⟩,
 ⟨(some 75), .ld (.t 74), (some (65, true)), true⟩,
 ⟨(some 76), .bin .neq (.t 70) (.t 75), (some (65, true)), false⟩,
 ⟨(some 77), .pick (.t 65) (.t 76) (.k (.bool false)), (some (62, false)), false⟩,
 p 78 (.pick (.t 62) (.k (.bool true)) (.t 77)),
 p 79 (.mv (.t 78)),
 ⟨(some 80), .mv (.t 5), (some (79, false)), false⟩,
 ⟨(some 81), .bin .gtr (.t 80) (.k (.int .i64 0)), (some (79, false)), false⟩,
 ⟨(some 82), .mv (.t 81), (some (79, false)), false⟩,
 ⟨(some 83), .mv (.t 4), (some (82, true)), true⟩,
 ⟨(some 84), .mv (.t 5), (some (82, true)), true⟩,
 ⟨(some 85), .ia 7 (.t 83) (.t 84), (some (82, true)), true⟩,
 ⟨(some 86), .fa 3 (.t 85), (some (82, true)), true⟩,
 ⟨(some 87), .ld (.t 86), (some (82, true)), true⟩,
 ⟨(some 88), .mv (.t 4), (some (82, true)), true⟩,
 ⟨(some 89), .mv (.t 5), (some (82, true)), true⟩,
 ⟨(some 90), .bin .sub (.t 89) (.k (.int .i64 1)), (some (82, true)), true⟩,
 ⟨(some 91), .ia 7 (.t 88) (.t 90), (some (82, true)), true⟩,
 ⟨(some 92), .fa 3 (.t 91), (some (82, true)), true⟩,
 ⟨(some 93), .ld (.t 92), (some (82, true)), true⟩,
 ⟨(some 94), .fa 2 (.t 3), (some (82, true)), true⟩,
 ⟨(some 95), .ld (.t 94), (some (82, true)), true⟩,
 ⟨(some 96), .fa 3 (.t 3), (some (82, true)), true⟩,
 ⟨(some 97), .ld (.t 96), (some (82, true)), true⟩,
 ⟨(some 98), .call 205 [(.t 93), (.t 95), (.t 97)], (some (82, true)), true⟩,
 ⟨(some 99), .bin .neq (.t 87) (.t 98), (some (82, true)), false⟩,
 ⟨(some 100), .pick (.t 82) (.t 99) (.k (.bool false)), (some (79, false)), false⟩,
 p 101 (.pick (.t 79) (.k (.bool true)) (.t 100))])
 (.cond (.t 101) (.seq (.rg [p 2 (.mv (.k (.bool false)))])
 .ret)
 .skip)))
 (.rg [p 52 (.mv (.t 5)),
 p 53 (.bin .add (.t 52) (.k (.int .i64 1))),
 p 5 (.mv (.t 53))]))))))
 (.seq (.rg [p 103 (.mv (.t 0)),
 p 104 (.call 325 [(.t 103)]),
 p 102 (.mv (.t 104)),
 p 105 (.ext 0 (.t 102)),
 p 106 (.ext 1 (.t 102)),
 p 6 (.mv (.t 105)),
 p 7 (.mv (.t 106))])
 (.seq (.rg [p 107 (.mv (.t 6)),
 p 108 (.mv (.t 7)),
 p 109 (.call 46 [(.t 107), (.t 108)]),
 p 110 (.mv (.t 6)),
 p 111 (.mv (.t 7)),
 p 112 (.call 198 [(.t 110), (.t 111)]),
 p 113 (.eqb false (.t 109) (.t 112)),
 p 2 (.mv (.t 113))])
 .ret))))))))),
 [.tmp 2]⟩

def F323 : Fnc := ⟨(.seq (.rg [p 2 (.new [.bool false, .int .i64 0, .int .i64 0, .int .i64 0, .bool false, .slice none 0 0])])
 (.seq (.rg [p 3 (.mv (.t 0)),
 p 4 (.call 231 [(.t 3)]),
 p 5 (.call 239 [(.t 4)]),
 ⟨none, .stn 6 (.t 2) (.t 5), none, false⟩])
 .ret)),
 [.celln 2 6]⟩

def F324 : Fnc := ⟨(.seq (.rg [p 1 (.box (.t 0)),
 p 2 (.mv (.k (.slice none 0 0)))])
 (.seq (.seq (.rg [p 7 (.ldn 6 (.t 1)),
 p 8 (.call 66 [(.t 7)]),
 p 9 (.not (.t 8))])
 (.cond (.t 9) (.seq (.rg [p 2 (.mv (.k (.slice none 0 0)))])
 .ret)
 .skip))
 (.seq (.rg [p 10 (.bs 7 0 [.int .i64 0, .int .i64 0, .bool false, .int .i64 0, .int .i64 0, .int .i64 0, .int .i64 0] []),
 p 3 (.mv (.t 10))])
 (.seq (.seq (.rg [p 11 (.fa 1 (.t 1)),
 p 12 (.ld (.t 11)),
 p 13 (.fa 2 (.t 1)),
 p 14 (.ld (.t 13)),
 p 15 (.fa 3 (.t 1)),
 p 16 (.ld (.t 15)),
 p 17 (.call 29 [(.t 12), (.t 14), (.t 16)]),
 p 18 (.len (.t 17)),
 p 19 (.mv (.k (.int .i64 0)))])
 (.block 0 (.loop (.seq (.rg [p 20 (.bin .lss (.t 19) (.t 18))])
 (.seq (.cond (.t 20) .skip
 (.exit 0))
 (.seq (.block 1 (.seq (.rg [p 21 (.mv (.t 19)),
 p 22 (.ia 1 (.t 17) (.t 19)),
 p 23 (.ld (.t 22)),
 p 4 (.mv (.t 21)),
 p 5 (.mv (.t 23))])
 (.seq (.rg [p 24 (.fa 0 (.t 1)),
 p 25 (.ld (.t 24)),
 p 26 (.mv (.t 5)),
 p 27 (.fa 2 (.t 1)),
 p 28 (.ld (.t 27)),
 p 29 (.bd [.int .i64 0, .int .i64 0, .bool false, .int .i64 0, .int .i64 0, .int .i64 0, .int .i64 0] [(2, 1, (.t 25)), (3, 1, (.t 26)), (4, 1, (.t 28))]),
 p 6 (.new [.int .i64 0, .int .i64 0, .bool false, .int .i64 0, .int .i64 0, .int .i64 0, .int .i64 0]),
 ⟨none, .stn 7 (.t 6) (.t 29), none, false⟩])
 (.seq (.seq (.rg [p 30 (.fa 0 (.t 1)),
 p 31 (.ld (.t 30))])
 (.cond (.t 31) (.rg [p 32 (.fa 5 (.t 1)),
 p 33 (.ld (.t 32)),
 p 34 (.mv (.t 4)),
 p 35 (.ia 1 (.t 33) (.t 34)),
 p 36 (.ld (.t 35)),
 p 37 (.fa 5 (.t 6)),
 ⟨none, .st (.t 37) (.t 36), none, false⟩])
 .skip))
 (.rg [p 38 (.mv (.t 3)),
 p 39 (.ldn 7 (.t 6)),
 p 40 (.bs 7 1 [.int .i64 0, .int .i64 0, .bool false, .int .i64 0, .int .i64 0, .int .i64 0, .int .i64 0] [(0, (.t 39))]),
 p 41 (.app 7 56 (.t 38) (.t 40)),
 p 3 (.mv (.t 41))])))))
 (.rg [p 42 (.bin .add (.t 19) (.k (.int .i64 1))),
 p 19 (.mv (.t 42))])))))))
 (.seq (.rg [p 43 (.mv (.t 3)),
 p 2 (.mv (.t 43))])
 .ret))))),
 [.tmp 2]⟩

def F325 : Fnc := ⟨(.seq (.rg [p 2 (.mv (.k (.slice none 0 0))),
 p 3 (.mv (.k (.slice none 0 0)))])
 (.seq (.rg [p 8 (.mv (.t 0)),
 p 9 (.call 231 [(.t 8)]),
 p 4 (.mv (.t 9))])
 (.seq (.rg [p 10 (.mv (.t 4)),
 p 11 (.call 241 [(.t 10)]),
 p 5 (.new [.bool false, .int .i64 0, .int .i64 0, .int .i64 0, .bool false, .slice none 0 0]),
 ⟨none, .stn 6 (.t 5) (.t 11), none, false⟩])
 (.seq (.rg [p 12 (.ldn 6 (.t 5)),
 p 13 (.call 328 [(.t 12)]),
 p 6 (.mv (.t 13))])
 (.seq (.rg [p 14 (.bs 7 0 [.int .i64 0, .int .i64 0, .bool false, .int .i64 0, .int .i64 0, .int .i64 0, .int .i64 0] []),
 p 15 (.mv (.t 6)),
 p 16 (.app 7 56 (.t 14) (.t 15)),
 p 7 (.mv (.t 16))])
 (.seq (.rg [p 17 (.mv (.t 7)),
 p 18 (.mv (.t 4)),
 p 19 (.mv (.t 7)),
 p 20 (.len (.t 19)),
 p 21 (.bin .add (.t 20) (.k (.int .i64 1))),
 p 22 (.call 228 [(.t 18), (.t 21)]),
 p 23 (.sl 7 (.t 17) none (some (.t 22)) none),
 p 7 (.mv (.t 23))])
 (.seq (.seq (.rg [p 24 (.mv (.t 7)),
 p 25 (.len (.t 24)),
 p 26 (.bin .gtr (.t 25) (.k (.int .i64 0))),
 p 27 (.mv (.t 26)),
 ⟨(some 28), .mv (.t 4), (some (27, true)), false⟩,
 ⟨(some 29), .call 233 [(.t 28), (.k (.int .i64 3))], (some (27, true)), false⟩,
 p 30 (.pick (.t 27) (.t 29) (.k (.bool false)))])
 (.cond (.t 30) (.rg [p 31 (.mv (.t 7)),
 p 32 (.mv (.t 4)),
 p 33 (.mv (.t 7)),
 p 34 (.len (.t 33)),
 p 35 (.call 228 [(.t 32), (.t 34)]),
 p 36 (.ia 7 (.t 31) (.t 35)),
 p 37 (.fa 3 (.t 36)),
 ⟨none, .st (.t 37) (.k (.int .i64 0)), none, false⟩])
 .skip))
 (.seq (.seq (.rg [p 38 (.mv (.t 4)),
 p 39 (.call 233 [(.t 38), (.k (.int .i64 8))])])
 (.cond (.t 39) (.rg [p 40 (.mv (.t 7)),
 p 41 (.bd [.int .i64 0, .int .i64 0, .bool false, .int .i64 0, .int .i64 0, .int .i64 0, .int .i64 0] []),
 p 42 (.bs 7 1 [.int .i64 0, .int .i64 0, .bool false, .int .i64 0, .int .i64 0, .int .i64 0, .int .i64 0] [(0, (.t 41))]),
 p 43 (.app 7 56 (.t 40) (.t 42)),
 p 7 (.mv (.t 43))])
 .skip))
 (.seq (.rg [p 44 (.mv (.t 7)),
 p 45 (.mv (.t 6)),
 p 2 (.mv (.t 44)),
 p 3 (.mv (.t 45))])
 .ret))))))))),
 [.tmp 2, .tmp 3]⟩

def F328 : Fnc := ⟨(.seq (.rg [p 1 (.box (.t 0)),
 p 2 (.mv (.k (.slice none 0 0)))])
 (.seq (.rg [p 6 (.bs 7 0 [.int .i64 0, .int .i64 0, .bool false, .int .i64 0, .int .i64 0, .int .i64 0, .int .i64 0] []),
 p 3 (.mv (.t 6))])
 (.seq (.rg [p 7 (.fa 1 (.t 1)),
 p 8 (.ld (.t 7)),
 p 9 (.fa 2 (.t 1)),
 p 10 (.ld (.t 9)),
 p 11 (.fa 3 (.t 1)),
 p 12 (.ld (.t 11)),
 p 13 (.call 179 [(.t 8), (.t 10), (.t 12)]),
 p 4 (.mv (.t 13))])
 (.seq (.seq (.rg [p 5 (.mv (.k (.int .i64 0)))])
 (.block 0 (.loop (.seq (.seq (.rg [p 14 (.mv (.t 5)),
 p 15 (.mv (.t 4)),
 p 16 (.len (.t 15)),
 p 17 (.bin .lss (.t 14) (.t 16)),
 p 18 (.mv (.t 17)),
 ⟨(some 19), .ldn 6 (.t 1), (some (18, true)), false⟩,
 ⟨(some 20), .call 207 [(.t 19)], (some (18, true)), false⟩,
 p 21 (.pick (.t 18) (.t 20) (.k (.bool false)))])
 (.cond (.t 21) .skip
 (.exit 0)))
 (.seq (.block 1 (.rg [⟨(some 24), .mv (.t 3), none, true⟩,
 ⟨(some 25), .fa 0 (.t 1), none, true⟩,
 ⟨(some 26), .ld (.t 25), none, true⟩,
 ⟨(some 27), .mv (.t 4), none, true⟩,
 ⟨(some 28), .mv (.t 5), none, true⟩,
 ⟨(some 29), .ia 1 (.t 27) (.t 28), none, true⟩,
 ⟨(some 30), .ld (.t 29), none, true⟩,
 ⟨(some 31), .fa 2 (.t 1), none, true⟩,
 ⟨(some 32), .ld (.t 31), none, true⟩,
 ⟨(some 33), .ldn 6 (.t 1), none, true⟩,
 ⟨(some 34), .mv (.t 5), none, true⟩,
 ⟨(some 35), .call 336 [(.t 33), (.t 34)], none, true⟩,
 ⟨(some 36), .bd [.int .i64 0, .int .i64 0, .bool false, .int .i64 0, .int .i64 0, .int .i64 0, .int .i64 0] [(2, 1, (.t 26)), (3, 1, (.t 30)), (4, 1, (.t 32)), (5, 1, (.t 35))], none, true⟩,
 ⟨(some 37), .bs 7 1 [.int .i64 0, .int .i64 0, .bool false, .int .i64 0, .int .i64 0, .int .i64 0, .int .i64 0] [(0, (.t 36))], none, true⟩,
 p 38 (.app 7 56 (.t 24) (.t 37)),
 p 3 (.mv (.t 38))]))
 (.rg [p 22 (.mv (.t 5)),
 p 23 (.bin .add (.t 22) (.k (.int .i64 1))),
 p 5 (.mv (.t 23))]))))))
 (.seq (.rg [p 39 (.mv (.t 3)),
 p 2 (.mv (.t 39))])
 .ret))))),
 [.tmp 2]⟩

def F336 : Fnc := ⟨(.seq (.rg [p 2 (.box (.t 0)),
 p 4 (.mv (.k (.int .i64 0)))])
 (.seq (.seq (.rg [p 5 (.fa 0 (.t 2)),
 p 6 (.ld (.t 5)),
 p 7 (.not (.t 6))])
 (.cond (.t 7) (.seq (.rg [p 4 (.mv (.k (.int .i64 0)))])
 .ret)
 .skip))
 (.seq (.rg [p 8 (.fa 5 (.t 2)),
 p 9 (.ld (.t 8)),
 p 10 (.mv (.t 1)),
 p 11 (.ia 1 (.t 9) (.t 10)),
 p 12 (.ld (.t 11)),
 p 4 (.mv (.t 12))])
 .ret))),
 [.tmp 4]⟩

end Go.Proofs.Ytdlkgdlefbabcaa.AL
