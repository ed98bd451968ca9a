/- Functions in the small language, printed by program. -/
import Derived.Test.YtdialnejieoelaaAl0
namespace Go.Proofs.Ytdialnejieoelaa.AL
open Go
def F21 : Fnc := ⟨(.seq (.rg [p 4 (.mv (.k (.bool false)))])
 (.seq (.rg [p 5 (.mv (.t 1)),
 p 6 (.call 103 [(.t 5), (.k (.int .i64 0)), (.k (.int .i64 2))]),
 p 7 (.mv (.t 6)),
 ⟨(some 8), .mv (.t 0), (some (7, true)), false⟩,
 ⟨(some 9), .bin .geq (.t 8) (.k (.int .i64 0)), (some (7, true)), false⟩,
 p 10 (.pick (.t 7) (.t 9) (.k (.bool false))),
 p 11 (.mv (.t 10)),
 ⟨(some 12), .mv (.t 0), (some (11, true)), false⟩,
 ⟨(some 13), .mv (.t 1), (some (11, true)), false⟩,
 ⟨(some 14), .call 33 [(.t 13)], (some (11, true)), false⟩,
 ⟨(some 15), .bin .rem (.t 12) (.t 14), (some (11, true)), false⟩,
 ⟨(some 16), .bin .eql (.t 15) (.k (.int .i64 0)), (some (11, true)), false⟩,
 p 17 (.pick (.t 11) (.t 16) (.k (.bool false))),
 p 4 (.mv (.t 17))])
 .ret)),
 [.tmp 4]⟩
def F33 : Fnc := ⟨(.seq (.rg [p 2 (.mv (.k (.int .i64 0)))])
 (.seq (.seq (.rg [p 3 (.mv (.t 0)),
 p 4 (.call 103 [(.t 3), (.k (.int .i64 0)), (.k (.int .i64 2))]),
 p 5 (.not (.t 4))])
 (.cond (.t 5) (.seq (.rg [p 2 (.mv (.k (.int .i64 0)))])
 .ret)
 .skip))
 (.seq (.rg [p 6 (.mv (.t 0)),
 p 7 (.bin .shl (.k (.int .i64 1)) (.t 6)),
 p 2 (.mv (.t 7))])
 .ret))),
 [.tmp 2]⟩
def F39 : Fnc := ⟨(.seq (.rg [p 4 (.box (.t 0)),
 p 8 (.new [.slice none 0 0, .int .i64 0, .slice none 0 0]),
 p 9 (.mv (.k (.int .i64 0))),
 p 10 (.mv (.k (.bool false)))])
 (.seq (.rg [p 12 (.ldn 3 (.t 4)),
 p 13 (.call 97 [(.t 12)]),
 p 11 (.new [.slice none 0 0, .int .i64 0, .slice none 0 0]),
 ⟨none, .stn 3 (.t 11) (.t 13), none, false⟩])
 (.seq (.seq (.rg [p 14 (.ldn 3 (.t 4)),
 p 15 (.call 40 [(.t 14)]),
 p 16 (.not (.t 15)),
 p 17 (.mv (.t 16)),
 ⟨(some 18), .mv (.t 1), (some (17, false)), false⟩,
 ⟨(some 19), .mv (.t 18), (some (17, false)), false⟩,
 ⟨(some 20), .mv (.t 3), (some (19, true)), false⟩,
 ⟨(some 21), .call 92 [(.t 20), (.k (.int .i64 2))], (some (19, true)), false⟩,
 ⟨(some 22), .not (.t 21), (some (19, true)), false⟩,
 ⟨(some 23), .pick (.t 19) (.t 22) (.k (.bool false)), (some (17, false)), false⟩,
 p 24 (.pick (.t 17) (.k (.bool true)) (.t 23))])
 (.cond (.t 24) (.seq (.rg [p 25 (.ldn 3 (.t 11)),
 ⟨none, .stn 3 (.t 8) (.t 25), none, false⟩,
 p 9 (.mv (.k (.int .i64 0))),
 p 10 (.mv (.k (.bool false)))])
 .ret)
 .skip))
 (.seq (.block 0 (.seq (.rg [p 33 (.mv (.t 2)),
 p 34 (.bin .eql (.t 33) (.k (.int .i64 16))),
 p 35 (.mv (.t 34)),
 ⟨(some 36), .mv (.t 1), (some (35, true)), false⟩,
 p 37 (.pick (.t 35) (.t 36) (.k (.bool false))),
 p 32 (.mv (.t 37))])
 (.cond (.t 32) (.rg [p 38 (.mv (.t 3)),
 p 39 (.fa 1 (.t 11)),
 ⟨none, .st (.t 39) (.t 38), none, false⟩])
 (.seq (.rg [p 41 (.mv (.t 2)),
 p 42 (.bin .eql (.t 41) (.k (.int .i64 16))),
 p 40 (.mv (.t 42))])
 (.cond (.t 40) (.seq (.rg [p 43 (.fa 1 (.t 4)),
 p 44 (.ld (.t 43)),
 p 3 (.mv (.t 44))])
 (.rg [⟨(some 45), .fa 1 (.t 4), none, true⟩,
 ⟨(some 46), .ld (.t 45), none, true⟩,
 ⟨(some 47), .bin .add (.t 46) (.k (.int .i64 1)), none, true⟩,
 ⟨(some 48), .call 51 [(.k (.int .i64 2))], none, true⟩,
 p 49 (.bin .rem (.t 47) (.t 48)),
 p 50 (.fa 1 (.t 11)),
 ⟨none, .st (.t 50) (.t 49), none, false⟩]))
 (.seq (.rg [p 52 (.mv (.t 2)),
 p 53 (.bin .eql (.t 52) (.k (.int .i64 20))),
 p 54 (.mv (.t 53)),
 ⟨(some 55), .mv (.t 1), (some (54, true)), false⟩,
 p 56 (.pick (.t 54) (.t 55) (.k (.bool false))),
 p 57 (.mv (.t 56)),
 ⟨(some 58), .fa 2 (.t 4), (some (57, true)), false⟩,
 ⟨(some 59), .ld (.t 58), (some (57, true)), false⟩,
 ⟨(some 60), .len (.t 59), (some (57, true)), false⟩,
 ⟨(some 61), .bin .lss (.t 60) (.k (.int .i64 4)), (some (57, true)), false⟩,
 p 62 (.pick (.t 57) (.t 61) (.k (.bool false))),
 p 51 (.mv (.t 62))])
 (.cond (.t 51) (.rg [p 63 (.fa 2 (.t 11)),
 p 64 (.ld (.t 63)),
 p 65 (.mv (.t 3)),
 p 66 (.bs 1 1 [.int .i64 0] [(0, (.t 65))]),
 p 67 (.app 1 8 (.t 64) (.t 66)),
 p 68 (.fa 2 (.t 11)),
 ⟨none, .st (.t 68) (.t 67), none, false⟩])
 (.seq (.rg [p 70 (.mv (.t 2)),
 p 71 (.bin .eql (.t 70) (.k (.int .i64 20))),
 p 72 (.mv (.t 71)),
 ⟨(some 73), .mv (.t 1), (some (72, true)), false⟩,
 ⟨(some 74), .not (.t 73), (some (72, true)), false⟩,
 p 75 (.pick (.t 72) (.t 74) (.k (.bool false))),
 p 76 (.mv (.t 75)),
 ⟨(some 77), .fa 2 (.t 4), (some (76, true)), false⟩,
 ⟨(some 78), .ld (.t 77), (some (76, true)), false⟩,
 ⟨(some 79), .len (.t 78), (some (76, true)), false⟩,
 ⟨(some 80), .bin .gtr (.t 79) (.k (.int .i64 0)), (some (76, true)), false⟩,
 p 81 (.pick (.t 76) (.t 80) (.k (.bool false))),
 p 69 (.mv (.t 81))])
 (.cond (.t 69) (.seq (.rg [p 82 (.fa 2 (.t 4)),
 p 83 (.ld (.t 82)),
 p 84 (.ia 1 (.t 83) (.k (.int .i64 0))),
 p 85 (.ld (.t 84)),
 p 3 (.mv (.t 85))])
 (.rg [p 86 (.fa 2 (.t 4)),
 p 87 (.ld (.t 86)),
 p 88 (.sl 1 (.t 87) (some (.k (.int .i64 1))) none none),
 p 89 (.call 253 [(.t 88)]),
 p 90 (.fa 2 (.t 11)),
 ⟨none, .st (.t 90) (.t 89), none, false⟩]))
 (.seq (.rg [p 92 (.mv (.t 2)),
 p 93 (.bin .geq (.t 92) (.k (.int .i64 16))),
 p 94 (.mv (.t 93)),
 ⟨(some 95), .mv (.t 2), (some (94, false)), false⟩,
 ⟨(some 96), .bin .lss (.t 95) (.k (.int .i64 0)), (some (94, false)), false⟩,
 p 97 (.pick (.t 94) (.k (.bool true)) (.t 96)),
 p 98 (.mv (.t 97)),
 ⟨(some 99), .mv (.t 2), (some (98, false)), false⟩,
 ⟨(some 100), .bin .rem (.t 99) (.k (.int .i64 4)), (some (98, false)), false⟩,
 ⟨(some 101), .bin .neq (.t 100) (.k (.int .i64 0)), (some (98, false)), false⟩,
 p 102 (.pick (.t 98) (.k (.bool true)) (.t 101)),
 p 91 (.mv (.t 102))])
 (.cond (.t 91) (.seq (.rg [p 103 (.ldn 3 (.t 11)),
 ⟨none, .stn 3 (.t 8) (.t 103), none, false⟩,
 p 9 (.mv (.k (.int .i64 0))),
 p 10 (.mv (.k (.bool false)))])
 .ret)
 (.seq (.rg [p 105 (.mv (.t 1)),
 p 104 (.mv (.t 105))])
 (.cond (.t 104) (.rg [p 106 (.fa 0 (.t 11)),
 p 107 (.ld (.t 106)),
 p 108 (.mv (.t 2)),
 p 109 (.bin .quo (.t 108) (.k (.int .i64 4))),
 p 110 (.mv (.t 3)),
 p 111 (.ia 1 (.t 107) (.t 109)),
 ⟨none, .st (.t 111) (.t 110), none, false⟩])
 (.rg [p 26 (.fa 0 (.t 4)),
 p 27 (.ld (.t 26)),
 p 28 (.mv (.t 2)),
 p 29 (.bin .quo (.t 28) (.k (.int .i64 4))),
 p 30 (.ia 1 (.t 27) (.t 29)),
 p 31 (.ld (.t 30)),
 p 3 (.mv (.t 31))]))))))))))))))
 (.seq (.rg [p 112 (.ldn 3 (.t 11)),
 p 113 (.mv (.t 3)),
 ⟨none, .stn 3 (.t 8) (.t 112), none, false⟩,
 p 9 (.mv (.t 113)),
 p 10 (.mv (.k (.bool true)))])
 .ret))))),
 [.celln 8 3, .tmp 9, .tmp 10]⟩
def F40 : Fnc := ⟨(.seq (.rg [p 1 (.box (.t 0)),
 p 2 (.mv (.k (.bool false)))])
 (.seq (.rg [p 3 (.mv (.k (.func (.func 41) #[] #[])))])
 (.seq (.rg [p 4 (.fa 0 (.t 1)),
 p 5 (.ld (.t 4)),
 p 6 (.len (.t 5)),
 p 7 (.bin .eql (.t 6) (.k (.int .i64 4))),
 p 8 (.mv (.t 7)),
 ⟨(some 9), .fa 2 (.t 1), (some (8, true)), false⟩,
 ⟨(some 10), .ld (.t 9), (some (8, true)), false⟩,
 ⟨(some 11), .len (.t 10), (some (8, true)), false⟩,
 ⟨(some 12), .bin .leq (.t 11) (.k (.int .i64 4)), (some (8, true)), false⟩,
 p 13 (.pick (.t 8) (.t 12) (.k (.bool false))),
 p 14 (.mv (.t 13)),
 ⟨(some 15), .fa 0 (.t 1), (some (14, true)), false⟩,
 ⟨(some 16), .ld (.t 15), (some (14, true)), false⟩,
 ⟨(some 17), .mv (.t 3), (some (14, true)), false⟩,
 ⟨(some 18), .call 257 [(.t 16), (.t 17)], (some (14, true)), false⟩,
 ⟨(some 19), .not (.t 18), (some (14, true)), false⟩,
 p 20 (.pick (.t 14) (.t 19) (.k (.bool false))),
 p 21 (.mv (.t 20)),
 ⟨(some 22), .fa 2 (.t 1), (some (21, true)), false⟩,
 ⟨(some 23), .ld (.t 22), (some (21, true)), false⟩,
 ⟨(some 24), .mv (.t 3), (some (21, true)), false⟩,
 ⟨(some 25), .call 257 [(.t 23), (.t 24)], (some (21, true)), false⟩,
 ⟨(some 26), .not (.t 25), (some (21, true)), false⟩,
 p 27 (.pick (.t 21) (.t 26) (.k (.bool false))),
 p 28 (.mv (.t 27)),
 ⟨(some 29), .fa 1 (.t 1), (some (28, true)), false⟩,
 ⟨(some 30), .ld (.t 29), (some (28, true)), false⟩,
 ⟨(some 31), .call 92 [(.t 30), (.k (.int .i64 2))], (some (28, true)), false⟩,
 p 32 (.pick (.t 28) (.t 31) (.k (.bool false))),
 p 2 (.mv (.t 32))])
 .ret))),
 [.tmp 2]⟩
def F41 : Fnc := ⟨(.seq (.rg [p 2 (.mv (.k (.bool false)))])
 (.seq (.rg [p 3 (.mv (.t 0)),
 p 4 (.call 92 [(.t 3), (.k (.int .i64 2))]),
 p 5 (.not (.t 4)),
 p 2 (.mv (.t 5))])
 .ret)),
 [.tmp 2]⟩
def F47 : Fnc := ⟨(.seq (.rg [p 6 (.mv (.k (.int .i64 0))),
 p 7 (.mv (.k (.bool false)))])
 (.seq (.seq (.rg [p 10 (.mv (.t 0)),
 p 11 (.mv (.t 1)),
 p 12 (.mv (.t 2)),
 p 13 (.call 86 [(.t 10), (.t 11), (.t 12)]),
 p 14 (.not (.t 13))])
 (.cond (.t 14) (.seq (.rg [p 6 (.mv (.k (.int .i64 0))),
 p 7 (.mv (.k (.bool false)))])
 .ret)
 .skip))
 (.seq (.rg [p 8 (.mv (.k (.int .i64 0)))])
 (.seq (.seq (.rg [p 15 (.mv (.t 2)),
 p 16 (.call 33 [(.t 15)]),
 p 17 (.mv (.k (.int .i64 0)))])
 (.block 0 (.loop (.seq (.rg [p 18 (.bin .lss (.t 17) (.t 16))])
 (.seq (.cond (.t 18) .skip
 (.exit 0))
 (.seq (.block 1 (.seq (.rg [p 19 (.mv (.t 17)),
 p 9 (.mv (.t 19))])
 (.rg [p 20 (.mv (.t 8)),
 p 21 (.mv (.t 0)),
 p 22 (.mv (.t 1)),
 p 23 (.mv (.t 9)),
 p 24 (.bin .add (.t 22) (.t 23)),
 p 25 (.ia 1 (.t 21) (.t 24)),
 p 26 (.ld (.t 25)),
 p 27 (.mv (.t 9)),
 p 28 (.bin .mul (.k (.int .i64 8)) (.t 27)),
 p 29 (.bin .shl (.t 26) (.t 28)),
 p 30 (.bin .or (.t 20) (.t 29)),
 p 8 (.mv (.t 30))])))
 (.rg [p 31 (.bin .add (.t 17) (.k (.int .i64 1))),
 p 17 (.mv (.t 31))])))))))
 (.seq (.rg [p 32 (.mv (.t 8)),
 p 6 (.mv (.t 32)),
 p 7 (.mv (.k (.bool true)))])
 .ret))))),
 [.tmp 6, .tmp 7]⟩
def F51 : Fnc := ⟨(.seq (.rg [p 2 (.mv (.k (.int .i64 0)))])
 (.seq (.seq (.rg [p 3 (.mv (.t 0)),
 p 4 (.call 33 [(.t 3)]),
 p 5 (.bin .eql (.t 4) (.k (.int .i64 0)))])
 (.cond (.t 5) (.seq (.rg [p 2 (.mv (.k (.int .i64 0)))])
 .ret)
 .skip))
 (.seq (.rg [p 6 (.mv (.t 0)),
 p 7 (.call 33 [(.t 6)]),
 p 8 (.bin .mul (.k (.int .i64 8)) (.t 7)),
 p 9 (.bin .shl (.k (.int .i64 1)) (.t 8)),
 p 2 (.mv (.t 9))])
 .ret))),
 [.tmp 2]⟩
def F52 : Fnc := ⟨(.seq (.rg [p 5 (.box (.t 0)),
 p 10 (.new [.slice none 0 0, .slice none 0 0, .int .i64 0, .slice none 0 0]),
 p 11 (.mv (.k (.int .i64 0))),
 p 12 (.mv (.k (.int .i64 0)))])
 (.seq (.rg [p 16 (.ldn 4 (.t 5)),
 p 17 (.call 98 [(.t 16)]),
 p 13 (.new [.slice none 0 0, .slice none 0 0, .int .i64 0, .slice none 0 0]),
 ⟨none, .stn 4 (.t 13) (.t 17), none, false⟩])
 (.seq (.seq (.rg [p 18 (.ldn 4 (.t 5)),
 p 19 (.call 53 [(.t 18)]),
 p 20 (.not (.t 19)),
 p 21 (.mv (.t 20)),
 ⟨(some 22), .mv (.t 2), (some (21, false)), false⟩,
 ⟨(some 23), .mv (.t 3), (some (21, false)), false⟩,
 ⟨(some 24), .call 21 [(.t 22), (.t 23)], (some (21, false)), false⟩,
 ⟨(some 25), .not (.t 24), (some (21, false)), false⟩,
 p 26 (.pick (.t 21) (.k (.bool true)) (.t 25)),
 p 27 (.mv (.t 26)),
 ⟨(some 28), .mv (.t 1), (some (27, false)), false⟩,
 ⟨(some 29), .mv (.t 28), (some (27, false)), false⟩,
 ⟨(some 30), .mv (.t 4), (some (29, true)), false⟩,
 ⟨(some 31), .mv (.t 3), (some (29, true)), false⟩,
 ⟨(some 32), .call 92 [(.t 30), (.t 31)], (some (29, true)), false⟩,
 ⟨(some 33), .not (.t 32), (some (29, true)), false⟩,
 ⟨(some 34), .pick (.t 29) (.t 33) (.k (.bool false)), (some (27, false)), false⟩,
 p 35 (.pick (.t 27) (.k (.bool true)) (.t 34))])
 (.cond (.t 35) (.seq (.rg [p 36 (.ldn 4 (.t 13)),
 ⟨none, .stn 4 (.t 10) (.t 36), none, false⟩,
 p 11 (.mv (.k (.int .i64 0))),
 p 12 (.mv (.k (.int .i64 1)))])
 .ret)
 .skip))
 (.seq (.rg [p 14 (.mv (.k (.bool false)))])
 (.seq (.seq (.rg [p 37 (.mv (.t 2)),
 p 38 (.call 73 [(.t 37)]),
 p 15 (.mv (.t 38))])
 (.block 0 (.seq (.rg [p 40 (.mv (.t 15)),
 p 41 (.bin .eql (.t 40) (.k (.int .i64 3))),
 p 42 (.mv (.t 41)),
 ⟨(some 43), .mv (.t 3), (some (42, true)), false⟩,
 ⟨(some 44), .bin .eql (.t 43) (.k (.int .i64 2)), (some (42, true)), false⟩,
 p 45 (.pick (.t 42) (.t 44) (.k (.bool false))),
 p 39 (.mv (.t 45))])
 (.cond (.t 39) (.rg [p 47 (.fa 1 (.t 5)),
 p 48 (.ldn 3 (.t 47)),
 p 49 (.mv (.t 1)),
 p 50 (.mv (.t 2)),
 p 51 (.bin .sub (.t 50) (.k (.int .i64 192))),
 p 52 (.mv (.t 4)),
 p 53 (.call 39 [(.t 48), (.t 49), (.t 51), (.t 52)]),
 p 46 (.mv (.t 53)),
 p 54 (.ext 0 (.t 46)),
 p 55 (.ext 1 (.t 46)),
 p 56 (.ext 2 (.t 46)),
 p 57 (.fa 1 (.t 13)),
 ⟨none, .stn 3 (.t 57) (.t 54), none, false⟩,
 p 4 (.mv (.t 55)),
 p 14 (.mv (.t 56))])
 (.seq (.rg [p 59 (.mv (.t 15)),
 p 60 (.bin .eql (.t 59) (.k (.int .i64 1))),
 p 61 (.mv (.t 60)),
 ⟨(some 62), .mv (.t 15), (some (61, false)), false⟩,
 ⟨(some 63), .bin .eql (.t 62) (.k (.int .i64 2)), (some (61, false)), false⟩,
 p 64 (.pick (.t 61) (.k (.bool true)) (.t 63)),
 p 58 (.mv (.t 64))])
 (.cond (.t 58) (.seq (.rg [p 65 (.mv (.t 1))])
 (.cond (.t 65) (.rg [p 67 (.fa 0 (.t 5)),
 p 68 (.ld (.t 67)),
 p 69 (.mv (.t 2)),
 p 70 (.mv (.t 3)),
 p 71 (.mv (.t 4)),
 p 72 (.call 62 [(.t 68), (.t 69), (.t 70), (.t 71)]),
 p 66 (.mv (.t 72)),
 p 73 (.ext 0 (.t 66)),
 p 74 (.ext 1 (.t 66)),
 p 75 (.fa 0 (.t 13)),
 ⟨none, .st (.t 75) (.t 73), none, false⟩,
 p 14 (.mv (.t 74))])
 (.rg [p 77 (.fa 0 (.t 5)),
 p 78 (.ld (.t 77)),
 p 79 (.mv (.t 2)),
 p 80 (.mv (.t 3)),
 p 81 (.call 47 [(.t 78), (.t 79), (.t 80)]),
 p 76 (.mv (.t 81)),
 p 82 (.ext 0 (.t 76)),
 p 83 (.ext 1 (.t 76)),
 p 4 (.mv (.t 82)),
 p 14 (.mv (.t 83))])))
 .skip))))))
 (.seq (.seq (.rg [p 84 (.mv (.t 14)),
 p 85 (.not (.t 84))])
 (.cond (.t 85) (.seq (.rg [p 86 (.ldn 4 (.t 5)),
 p 87 (.call 98 [(.t 86)]),
 ⟨none, .stn 4 (.t 10) (.t 87), none, false⟩,
 p 11 (.mv (.k (.int .i64 0))),
 p 12 (.mv (.k (.int .i64 1)))])
 .ret)
 .skip))
 (.seq (.rg [p 88 (.ldn 4 (.t 13)),
 p 89 (.mv (.t 4)),
 ⟨none, .stn 4 (.t 10) (.t 88), none, false⟩,
 p 11 (.mv (.t 89)),
 p 12 (.mv (.k (.int .i64 0)))])
 .ret))))))),
 [.celln 10 4, .tmp 11, .tmp 12]⟩
def F53 : Fnc := ⟨(.seq (.rg [p 1 (.box (.t 0)),
 p 2 (.mv (.k (.bool false)))])
 (.seq (.rg [p 3 (.fa 0 (.t 1)),
 p 4 (.ld (.t 3)),
 p 5 (.len (.t 4)),
 p 6 (.bin .eql (.t 5) (.k (.int .i64 192))),
 p 7 (.mv (.t 6)),
 ⟨(some 8), .fa 0 (.t 1), (some (7, true)), false⟩,
 ⟨(some 9), .ld (.t 8), (some (7, true)), false⟩,
 ⟨(some 10), .call 86 [(.t 9), (.k (.int .i64 0)), (.k (.int .i64 0))], (some (7, true)), false⟩,
 p 11 (.pick (.t 7) (.t 10) (.k (.bool false))),
 p 12 (.mv (.t 11)),
 ⟨(some 13), .fa 1 (.t 1), (some (12, true)), false⟩,
 ⟨(some 14), .ldn 3 (.t 13), (some (12, true)), false⟩,
 ⟨(some 15), .call 40 [(.t 14)], (some (12, true)), false⟩,
 p 16 (.pick (.t 12) (.t 15) (.k (.bool false))),
 p 2 (.mv (.t 16))])
 .ret)),
 [.tmp 2]⟩
def F62 : Fnc := ⟨(.seq (.rg [p 8 (.mv (.k (.slice none 0 0))),
 p 9 (.mv (.k (.bool false)))])
 (.seq (.rg [p 12 (.mv (.t 0)),
 p 13 (.call 253 [(.t 12)]),
 p 10 (.mv (.t 13))])
 (.seq (.seq (.rg [p 14 (.mv (.t 0)),
 p 15 (.mv (.t 1)),
 p 16 (.mv (.t 2)),
 p 17 (.call 86 [(.t 14), (.t 15), (.t 16)]),
 p 18 (.not (.t 17)),
 p 19 (.mv (.t 18)),
 ⟨(some 20), .mv (.t 3), (some (19, false)), false⟩,
 ⟨(some 21), .mv (.t 2), (some (19, false)), false⟩,
 ⟨(some 22), .call 92 [(.t 20), (.t 21)], (some (19, false)), false⟩,
 ⟨(some 23), .not (.t 22), (some (19, false)), false⟩,
 p 24 (.pick (.t 19) (.k (.bool true)) (.t 23))])
 (.cond (.t 24) (.seq (.rg [p 25 (.mv (.t 10)),
 p 8 (.mv (.t 25)),
 p 9 (.mv (.k (.bool false)))])
 .ret)
 .skip))
 (.seq (.seq (.rg [p 26 (.mv (.t 2)),
 p 27 (.call 33 [(.t 26)]),
 p 28 (.mv (.k (.int .i64 0)))])
 (.block 0 (.loop (.seq (.rg [p 29 (.bin .lss (.t 28) (.t 27))])
 (.seq (.cond (.t 29) .skip
 (.exit 0))
 (.seq (.block 1 (.seq (.rg [p 30 (.mv (.t 28)),
 p 11 (.mv (.t 30))])
 (.rg [p 31 (.mv (.t 10)),
 p 32 (.mv (.t 1)),
 p 33 (.mv (.t 11)),
 p 34 (.bin .add (.t 32) (.t 33)),
 p 35 (.mv (.t 3)),
 p 36 (.mv (.t 11)),
 p 37 (.bin .mul (.k (.int .i64 8)) (.t 36)),
 p 38 (.bin .shr (.t 35) (.t 37)),
 p 39 (.bin .and (.t 38) (.k (.int .i64 255))),
 p 40 (.ia 1 (.t 31) (.t 34)),
 ⟨none, .st (.t 40) (.t 39), none, false⟩])))
 (.rg [p 41 (.bin .add (.t 28) (.k (.int .i64 1))),
 p 28 (.mv (.t 41))])))))))
 (.seq (.rg [p 42 (.mv (.t 10)),
 p 8 (.mv (.t 42)),
 p 9 (.mv (.k (.bool true)))])
 .ret))))),
 [.tmp 8, .tmp 9]⟩
def F73 : Fnc := ⟨(.seq (.rg [p 2 (.mv (.k (.int .i64 0)))])
 (.seq (.block 0 (.seq (.rg [p 4 (.mv (.t 0)),
 p 5 (.bin .lss (.t 4) (.k (.int .i64 0))),
 p 6 (.mv (.t 5)),
 ⟨(some 7), .mv (.t 0), (some (6, false)), false⟩,
 ⟨(some 8), .bin .geq (.t 7) (.k (.int .i64 224)), (some (6, false)), false⟩,
 p 9 (.pick (.t 6) (.k (.bool true)) (.t 8)),
 p 3 (.mv (.t 9))])
 (.cond (.t 3) (.seq (.rg [p 2 (.mv (.k (.int .i64 0)))])
 .ret)
 (.seq (.rg [p 11 (.mv (.t 0)),
 p 12 (.bin .lss (.t 11) (.k (.int .i64 128))),
 p 10 (.mv (.t 12))])
 (.cond (.t 10) (.seq (.rg [p 2 (.mv (.k (.int .i64 1)))])
 .ret)
 (.seq (.rg [p 14 (.mv (.t 0)),
 p 15 (.bin .lss (.t 14) (.k (.int .i64 192))),
 p 13 (.mv (.t 15))])
 (.cond (.t 13) (.seq (.rg [p 2 (.mv (.k (.int .i64 2)))])
 .ret)
 .skip)))))))
 (.seq (.rg [p 2 (.mv (.k (.int .i64 3)))])
 .ret))),
 [.tmp 2]⟩
def F86 : Fnc := ⟨(.seq (.rg [p 6 (.mv (.k (.bool false)))])
 (.seq (.rg [p 7 (.mv (.t 0)),
 p 8 (.len (.t 7)),
 p 9 (.bin .leq (.t 8) (.k (.int .i64 512))),
 p 10 (.mv (.t 9)),
 ⟨(some 11), .mv (.t 0), (some (10, true)), false⟩,
 ⟨(some 12), .call 257 [(.t 11), (.k (.func (.func 87) #[] #[]))], (some (10, true)), false⟩,
 ⟨(some 13), .not (.t 12), (some (10, true)), false⟩,
 p 14 (.pick (.t 10) (.t 13) (.k (.bool false))),
 p 15 (.mv (.t 14)),
 ⟨(some 16), .mv (.t 1), (some (15, true)), false⟩,
 ⟨(some 17), .mv (.t 2), (some (15, true)), false⟩,
 ⟨(some 18), .call 21 [(.t 16), (.t 17)], (some (15, true)), false⟩,
 p 19 (.pick (.t 15) (.t 18) (.k (.bool false))),
 p 20 (.mv (.t 19)),
 ⟨(some 21), .mv (.t 1), (some (20, true)), false⟩,
 ⟨(some 22), .mv (.t 0), (some (20, true)), false⟩,
 ⟨(some 23), .len (.t 22), (some (20, true)), false⟩,
 ⟨(some 24), .mv (.t 2), (some (20, true)), false⟩,
 ⟨(some 25), .call 33 [(.t 24)], (some (20, true)), false⟩,
 ⟨(some 26), .bin .sub (.t 23) (.t 25), (some (20, true)), false⟩,
 ⟨(some 27), .bin .leq (.t 21) (.t 26), (some (20, true)), false⟩,
 p 28 (.pick (.t 20) (.t 27) (.k (.bool false))),
 p 6 (.mv (.t 28))])
 .ret)),
 [.tmp 6]⟩
def F87 : Fnc := ⟨(.seq (.rg [p 2 (.mv (.k (.bool false)))])
 (.seq (.rg [p 3 (.mv (.t 0)),
 p 4 (.call 103 [(.t 3), (.k (.int .i64 0)), (.k (.int .i64 255))]),
 p 5 (.not (.t 4)),
 p 2 (.mv (.t 5))])
 .ret)),
 [.tmp 2]⟩
def F92 : Fnc := ⟨(.seq (.rg [p 4 (.mv (.k (.bool false)))])
 (.seq (.rg [p 5 (.mv (.t 0)),
 p 6 (.mv (.t 1)),
 p 7 (.call 51 [(.t 6)]),
 p 8 (.bin .sub (.t 7) (.k (.int .i64 1))),
 p 9 (.call 103 [(.t 5), (.k (.int .i64 0)), (.t 8)]),
 p 4 (.mv (.t 9))])
 .ret)),
 [.tmp 4]⟩
def F97 : Fnc := ⟨(.seq (.rg [p 1 (.box (.t 0)),
 p 2 (.new [.slice none 0 0, .int .i64 0, .slice none 0 0])])
 (.seq (.rg [⟨(some 3), .fa 0 (.t 1), none, true⟩,
 ⟨(some 4), .ld (.t 3), none, true⟩,
 ⟨(some 5), .call 253 [(.t 4)], none, true⟩,
 ⟨(some 6), .fa 1 (.t 1), none, true⟩,
 ⟨(some 7), .ld (.t 6), none, true⟩,
 ⟨(some 8), .fa 2 (.t 1), none, true⟩,
 ⟨(some 9), .ld (.t 8), none, true⟩,
 ⟨(some 10), .call 253 [(.t 9)], none, true⟩,
 p 11 (.bd [.slice none 0 0, .int .i64 0, .slice none 0 0] [(0, 1, (.t 5)), (1, 1, (.t 7)), (2, 1, (.t 10))]),
 ⟨none, .stn 3 (.t 2) (.t 11), none, false⟩])
 .ret)),
 [.celln 2 3]⟩
def F98 : Fnc := ⟨(.seq (.rg [p 1 (.box (.t 0)),
 p 2 (.new [.slice none 0 0, .slice none 0 0, .int .i64 0, .slice none 0 0])])
 (.seq (.rg [⟨(some 3), .fa 0 (.t 1), none, true⟩,
 ⟨(some 4), .ld (.t 3), none, true⟩,
 ⟨(some 5), .call 253 [(.t 4)], none, true⟩,
 ⟨(some 6), .fa 1 (.t 1), none, true⟩,
 ⟨(some 7), .ldn 3 (.t 6), none, true⟩,
 p 8 (.call 97 [(.t 7)]),
 p 9 (.bd [.slice none 0 0, .slice none 0 0, .int .i64 0, .slice none 0 0] [(0, 1, (.t 5)), (1, 3, (.t 8))]),
 ⟨none, .stn 4 (.t 2) (.t 9), none, false⟩])
 .ret)),
 [.celln 2 4]⟩
def F103 : Fnc := ⟨(.seq (.rg [p 6 (.mv (.k (.bool false)))])
 (.seq (.rg [p 7 (.mv (.t 1)),
 p 8 (.mv (.t 0)),
 p 9 (.bin .leq (.t 7) (.t 8)),
 p 10 (.mv (.t 9)),
 ⟨(some 11), .mv (.t 0), (some (10, true)), false⟩,
 ⟨(some 12), .mv (.t 2), (some (10, true)), false⟩,
 ⟨(some 13), .bin .leq (.t 11) (.t 12), (some (10, true)), false⟩,
 p 14 (.pick (.t 10) (.t 13) (.k (.bool false))),
 p 6 (.mv (.t 14))])
 .ret)),
 [.tmp 6]⟩
def F129 : Fnc := ⟨(.seq (.rg [p 2 (.box (.t 0)),
 p 3 (.box (.t 1)),
 p 4 (.mv (.k (.bool false)))])
 (.seq (.seq (.rg [p 5 (.fa 0 (.t 2)),
 p 6 (.ld (.t 5)),
 p 7 (.fa 0 (.t 3)),
 p 8 (.ld (.t 7)),
 p 9 (.call 132 [(.t 6), (.t 8)]),
 p 10 (.not (.t 9))])
 (.cond (.t 10) (.seq (.rg [p 4 (.mv (.k (.bool false)))])
 .ret)
 .skip))
 (.seq (.seq (.rg [p 11 (.fa 1 (.t 2)),
 p 12 (.ld (.t 11)),
 p 13 (.fa 1 (.t 3)),
 p 14 (.ld (.t 13)),
 p 15 (.bin .neq (.t 12) (.t 14))])
 (.cond (.t 15) (.seq (.rg [p 4 (.mv (.k (.bool false)))])
 .ret)
 .skip))
 (.seq (.seq (.rg [p 16 (.fa 2 (.t 2)),
 p 17 (.ld (.t 16)),
 p 18 (.fa 2 (.t 3)),
 p 19 (.ld (.t 18)),
 p 20 (.call 132 [(.t 17), (.t 19)]),
 p 21 (.not (.t 20))])
 (.cond (.t 21) (.seq (.rg [p 4 (.mv (.k (.bool false)))])
 .ret)
 .skip))
 (.seq (.rg [p 4 (.mv (.k (.bool true)))])
 .ret))))),
 [.tmp 4]⟩
def F130 : Fnc := ⟨(.seq (.rg [p 2 (.box (.t 0)),
 p 3 (.box (.t 1)),
 p 4 (.mv (.k (.bool false)))])
 (.seq (.seq (.rg [p 5 (.fa 0 (.t 2)),
 p 6 (.ld (.t 5)),
 p 7 (.fa 0 (.t 3)),
 p 8 (.ld (.t 7)),
 p 9 (.bin .neq (.t 6) (.t 8))])
 (.cond (.t 9) (.seq (.rg [p 4 (.mv (.k (.bool false)))])
 .ret)
 .skip))
 (.seq (.seq (.rg [p 10 (.fa 1 (.t 2)),
 p 11 (.ld (.t 10)),
 p 12 (.fa 1 (.t 3)),
 p 13 (.ld (.t 12)),
 p 14 (.bin .neq (.t 11) (.t 13))])
 (.cond (.t 14) (.seq (.rg [p 4 (.mv (.k (.bool false)))])
 .ret)
 .skip))
 (.seq (.seq (.rg [p 15 (.fa 2 (.t 2)),
 p 16 (.ld (.t 15)),
 p 17 (.fa 2 (.t 3)),
 p 18 (.ld (.t 17)),
 p 19 (.eqb true (.t 16) (.t 18))])
 (.cond (.t 19) (.seq (.rg [p 4 (.mv (.k (.bool false)))])
 .ret)
 .skip))
 (.seq (.seq (.rg [p 20 (.fa 3 (.t 2)),
 p 21 (.ld (.t 20)),
 p 22 (.fa 3 (.t 3)),
 p 23 (.ld (.t 22)),
 p 24 (.bin .neq (.t 21) (.t 23))])
 (.cond (.t 24) (.seq (.rg [p 4 (.mv (.k (.bool false)))])
 .ret)
 .skip))
 (.seq (.seq (.rg [p 25 (.fa 4 (.t 2)),
 p 26 (.ld (.t 25)),
 p 27 (.fa 4 (.t 3)),
 p 28 (.ld (.t 27)),
 p 29 (.bin .neq (.t 26) (.t 28))])
 (.cond (.t 29) (.seq (.rg [p 4 (.mv (.k (.bool false)))])
 .ret)
 .skip))
 (.seq (.seq (.rg [p 30 (.fa 5 (.t 2)),
 p 31 (.ld (.t 30)),
 p 32 (.fa 5 (.t 3)),
 p 33 (.ld (.t 32)),
 p 34 (.bin .neq (.t 31) (.t 33))])
 (.cond (.t 34) (.seq (.rg [p 4 (.mv (.k (.bool false)))])
 .ret)
 .skip))
 (.seq (.seq (.rg [p 35 (.fa 6 (.t 2)),
 p 36 (.ld (.t 35)),
 p 37 (.fa 6 (.t 3)),
 p 38 (.ld (.t 37)),
 p 39 (.bin .neq (.t 36) (.t 38))])
 (.cond (.t 39) (.seq (.rg [p 4 (.mv (.k (.bool false)))])
 .ret)
 .skip))
 (.seq (.rg [p 4 (.mv (.k (.bool true)))])
 .ret))))))))),
 [.tmp 4]⟩
def F131 : Fnc := ⟨(.seq (.rg [p 4 (.mv (.k (.bool false)))])
 (.seq (.seq (.rg [p 6 (.mv (.t 0)),
 p 7 (.len (.t 6)),
 p 8 (.mv (.t 1)),
 p 9 (.len (.t 8)),
 p 10 (.bin .neq (.t 7) (.t 9))])
 (.cond (.t 10) (.seq (.rg [p 4 (.mv (.k (.bool false)))])
 .ret)
 .skip))
 (.seq (.seq (.rg [p 5 (.mv (.k (.int .i64 0)))])
 (.block 0 (.loop (.seq (.seq (.rg [p 11 (.mv (.t 5)),
 p 12 (.mv (.t 0)),
 p 13 (.len (.t 12)),
 p 14 (.bin .lss (.t 11) (.t 13))])
 (.cond (.t 14) .skip
 (.exit 0)))
 (.seq (.block 1 (.seq (.rg [⟨(some 17), .mv (.t 0), none, true⟩,
 ⟨(some 18), .mv (.t 5), none, true⟩,
 ⟨(some 19), .ia 7 (.t 17) (.t 18), none, true⟩,
 ⟨(some 20), .ldn 7 (.t 19), none, true⟩,
 ⟨(some 21), .mv (.t 1), none, true⟩,
 ⟨(some 22), .mv (.t 5), none, true⟩,
 ⟨(some 23), .ia 7 (.t 21) (.t 22), none, true⟩,
 ⟨(some 24), .ldn 7 (.t 23), none, true⟩,
 p 25 (.call 130 [(.t 20), (.t 24)]),
 p 26 (.not (.t 25))])
 (.cond (.t 26) (.seq (.rg [p 4 (.mv (.k (.bool false)))])
 .ret)
 .skip)))
 (.rg [p 15 (.mv (.t 5)),
 p 16 (.bin .add (.t 15) (.k (.int .i64 1))),
 p 5 (.mv (.t 16))]))))))
 (.seq (.rg [p 4 (.mv (.k (.bool true)))])
 .ret)))),
 [.tmp 4]⟩
def F132 : Fnc := ⟨(.seq (.rg [p 4 (.mv (.k (.bool false)))])
 (.seq (.seq (.rg [p 6 (.mv (.t 0)),
 p 7 (.len (.t 6)),
 p 8 (.mv (.t 1)),
 p 9 (.len (.t 8)),
 p 10 (.bin .neq (.t 7) (.t 9))])
 (.cond (.t 10) (.seq (.rg [p 4 (.mv (.k (.bool false)))])
 .ret)
 .skip))
 (.seq (.seq (.rg [p 5 (.mv (.k (.int .i64 0)))])
 (.block 0 (.loop (.seq (.seq (.rg [p 11 (.mv (.t 5)),
 p 12 (.mv (.t 0)),
 p 13 (.len (.t 12)),
 p 14 (.bin .lss (.t 11) (.t 13))])
 (.cond (.t 14) .skip
 (.exit 0)))
 (.seq (.block 1 (.seq (.rg [⟨(some 17), .mv (.t 0), none, true⟩,
 ⟨(some 18), .mv (.t 5), none, true⟩,
 ⟨(some 19), .ia 1 (.t 17) (.t 18), none, true⟩,
 ⟨(some 20), .ld (.t 19), none, true⟩,
 ⟨(some 21), .mv (.t 1), none, true⟩,
 ⟨(some 22), .mv (.t 5), none, true⟩,
 ⟨(some 23), .ia 1 (.t 21) (.t 22), none, true⟩,
 ⟨(some 24), .ld (.t 23), none, true⟩,
 p 25 (.bin .neq (.t 20) (.t 24))])
 (.cond (.t 25) (.seq (.rg [p 4 (.mv (.k (.bool false)))])
 .ret)
 .skip)))
 (.rg [p 15 (.mv (.t 5)),
 p 16 (.bin .add (.t 15) (.k (.int .i64 1))),
 p 5 (.mv (.t 16))]))))))
 (.seq (.rg [p 4 (.mv (.k (.bool true)))])
 .ret)))),
 [.tmp 4]⟩
def F135 : Fnc := ⟨(.seq (.rg [p 2 (.box (.t 0)),
 p 3 (.box (.t 1)),
 p 4 (.mv (.k (.bool false)))])
 (.seq (.seq (.rg [p 5 (.fa 0 (.t 2)),
 p 6 (.ld (.t 5)),
 p 7 (.fa 0 (.t 3)),
 p 8 (.ld (.t 7)),
 p 9 (.call 132 [(.t 6), (.t 8)]),
 p 10 (.not (.t 9))])
 (.cond (.t 10) (.seq (.rg [p 4 (.mv (.k (.bool false)))])
 .ret)
 .skip))
 (.seq (.seq (.rg [p 11 (.fa 1 (.t 2)),
 p 12 (.ldn 3 (.t 11)),
 p 13 (.fa 1 (.t 3)),
 p 14 (.ldn 3 (.t 13)),
 p 15 (.call 129 [(.t 12), (.t 14)]),
 p 16 (.not (.t 15))])
 (.cond (.t 16) (.seq (.rg [p 4 (.mv (.k (.bool false)))])
 .ret)
 .skip))
 (.seq (.rg [p 4 (.mv (.k (.bool true)))])
 .ret)))),
 [.tmp 4]⟩
def F142 : Fnc := ⟨(.seq (.rg [p 4 (.mv (.k (.int .i64 0)))])
 (.seq (.seq (.rg [p 5 (.mv (.k (.int .i64 0)))])
 (.block 0 (.loop (.seq (.seq (.rg [p 6 (.mv (.t 5)),
 p 7 (.mv (.t 0)),
 p 8 (.len (.t 7)),
 p 9 (.bin .lss (.t 6) (.t 8))])
 (.cond (.t 9) .skip
 (.exit 0)))
 (.seq (.block 1 (.seq (.rg [p 12 (.mv (.t 0)),
 p 13 (.mv (.t 5)),
 p 14 (.mv (.t 1)),
 p 15 (.ia 7 (.t 12) (.t 13)),
 p 16 (.fa 0 (.t 15)),
 ⟨none, .st (.t 16) (.t 14), none, false⟩])
 (.seq (.rg [p 17 (.mv (.t 1)),
 p 18 (.bin .add (.t 17) (.k (.int .i64 1))),
 p 1 (.mv (.t 18))])
 (.seq (.rg [p 19 (.mv (.t 0)),
 p 20 (.mv (.t 5)),
 p 21 (.mv (.t 1)),
 p 22 (.ia 7 (.t 19) (.t 20)),
 p 23 (.fa 1 (.t 22)),
 ⟨none, .st (.t 23) (.t 21), none, false⟩])
 (.seq (.rg [p 24 (.mv (.t 1)),
 p 25 (.bin .add (.t 24) (.k (.int .i64 1))),
 p 1 (.mv (.t 25))])
 (.seq (.rg [p 26 (.mv (.t 0)),
 p 27 (.mv (.t 5)),
 p 28 (.mv (.t 1)),
 p 29 (.bin .rem (.t 28) (.k (.int .i64 3))),
 p 30 (.bin .eql (.t 29) (.k (.int .i64 0))),
 p 31 (.ia 7 (.t 26) (.t 27)),
 p 32 (.fa 2 (.t 31)),
 ⟨none, .st (.t 32) (.t 30), none, false⟩])
 (.seq (.rg [p 33 (.mv (.t 1)),
 p 34 (.bin .add (.t 33) (.k (.int .i64 1))),
 p 1 (.mv (.t 34))])
 (.seq (.rg [p 35 (.mv (.t 0)),
 p 36 (.mv (.t 5)),
 p 37 (.mv (.t 1)),
 p 38 (.ia 7 (.t 35) (.t 36)),
 p 39 (.fa 3 (.t 38)),
 ⟨none, .st (.t 39) (.t 37), none, false⟩])
 (.seq (.rg [p 40 (.mv (.t 1)),
 p 41 (.bin .add (.t 40) (.k (.int .i64 1))),
 p 1 (.mv (.t 41))])
 (.seq (.rg [p 42 (.mv (.t 0)),
 p 43 (.mv (.t 5)),
 p 44 (.mv (.t 1)),
 p 45 (.ia 7 (.t 42) (.t 43)),
 p 46 (.fa 4 (.t 45)),
 ⟨none, .st (.t 46) (.t 44), none, false⟩])
 (.seq (.rg [p 47 (.mv (.t 1)),
 p 48 (.bin .add (.t 47) (.k (.int .i64 1))),
 p 1 (.mv (.t 48))])
 (.seq (.rg [p 49 (.mv (.t 0)),
 p 50 (.mv (.t 5)),
 p 51 (.mv (.t 1)),
 p 52 (.ia 7 (.t 49) (.t 50)),
 p 53 (.fa 5 (.t 52)),
 ⟨none, .st (.t 53) (.t 51), none, false⟩])
 (.seq (.rg [p 54 (.mv (.t 1)),
 p 55 (.bin .add (.t 54) (.k (.int .i64 1))),
 p 1 (.mv (.t 55))])
 (.seq (.rg [p 56 (.mv (.t 0)),
 p 57 (.mv (.t 5)),
 p 58 (.mv (.t 1)),
 p 59 (.ia 7 (.t 56) (.t 57)),
 p 60 (.fa 6 (.t 59)),
 ⟨none, .st (.t 60) (.t 58), none, false⟩])
 (.rg [p 61 (.mv (.t 1)),
 p 62 (.bin .add (.t 61) (.k (.int .i64 1))),
 p 1 (.mv (.t 62))])))))))))))))))
 (.rg [p 10 (.mv (.t 5)),
 p 11 (.bin .add (.t 10) (.k (.int .i64 1))),
 p 5 (.mv (.t 11))]))))))
 (.seq (.rg [p 63 (.mv (.t 1)),
 p 4 (.mv (.t 63))])
 .ret))),
 [.tmp 4]⟩
def F147 : Fnc := ⟨(.seq (.rg [p 4 (.mv (.k (.int .i64 0)))])
 (.seq (.rg [p 5 (.mv (.t 1)),
 p 6 (.mv (.t 0)),
 p 7 (.len (.t 6)),
 p 8 (.bin .sub (.t 5) (.t 7)),
 p 1 (.mv (.t 8))])
 (.seq (.seq (.rg [p 9 (.mv (.t 1)),
 p 10 (.bin .lss (.t 9) (.k (.int .i64 0)))])
 (.cond (.t 10) (.seq (.rg [p 4 (.mv (.k (.int .i64 (-1))))])
 .ret)
 .skip))
 (.seq (.rg [p 11 (.mv (.t 1)),
 p 4 (.mv (.t 11))])
 .ret)))),
 [.tmp 4]⟩
def F161 : Fnc := ⟨(.seq (.rg [p 1 (.box (.t 0)),
 p 2 (.new [.int .i64 0, .int .i64 0, .bool false, .int .i64 0, .int .i64 0, .int .i64 0, .int .i64 0])])
 (.seq (.rg [p 3 (.new [.int .i64 0, .int .i64 0, .bool false, .int .i64 0, .int .i64 0, .int .i64 0, .int .i64 0])])
 (.seq (.rg [p 4 (.fa 0 (.t 1)),
 p 5 (.ld (.t 4)),
 p 6 (.fa 0 (.t 3)),
 ⟨none, .st (.t 6) (.t 5), none, false⟩])
 (.seq (.rg [p 7 (.fa 1 (.t 1)),
 p 8 (.ld (.t 7)),
 p 9 (.fa 1 (.t 3)),
 ⟨none, .st (.t 9) (.t 8), none, false⟩])
 (.seq (.rg [p 10 (.fa 2 (.t 1)),
 p 11 (.ld (.t 10)),
 p 12 (.fa 2 (.t 3)),
 ⟨none, .st (.t 12) (.t 11), none, false⟩])
 (.seq (.rg [p 13 (.fa 3 (.t 1)),
 p 14 (.ld (.t 13)),
 p 15 (.fa 3 (.t 3)),
 ⟨none, .st (.t 15) (.t 14), none, false⟩])
 (.seq (.rg [p 16 (.fa 4 (.t 1)),
 p 17 (.ld (.t 16)),
 p 18 (.fa 4 (.t 3)),
 ⟨none, .st (.t 18) (.t 17), none, false⟩])
 (.seq (.rg [p 19 (.fa 5 (.t 1)),
 p 20 (.ld (.t 19)),
 p 21 (.fa 5 (.t 3)),
 ⟨none, .st (.t 21) (.t 20), none, false⟩])
 (.seq (.rg [p 22 (.fa 6 (.t 1)),
 p 23 (.ld (.t 22)),
 p 24 (.fa 6 (.t 3)),
 ⟨none, .st (.t 24) (.t 23), none, false⟩])
 (.seq (.rg [p 25 (.ldn 7 (.t 3)),
 ⟨none, .stn 7 (.t 2) (.t 25), none, false⟩])
 .ret)))))))))),
 [.celln 2 7]⟩
def F162 : Fnc := ⟨(.seq (.rg [p 2 (.mv (.k (.slice none 0 0)))])
 (.seq (.rg [p 5 (.mv (.t 0)),
 p 6 (.len (.t 5)),
 p 7 (.mk 7 56 [.int .i64 0, .int .i64 0, .bool false, .int .i64 0, .int .i64 0, .int .i64 0, .int .i64 0] (.t 6) (.t 6)),
 p 3 (.mv (.t 7))])
 (.seq (.seq (.rg [p 4 (.mv (.k (.int .i64 0)))])
 (.block 0 (.loop (.seq (.seq (.rg [p 8 (.mv (.t 4)),
 p 9 (.mv (.t 0)),
 p 10 (.len (.t 9)),
 p 11 (.bin .lss (.t 8) (.t 10))])
 (.cond (.t 11) .skip
 (.exit 0)))
 (.seq (.block 1 (.rg [p 14 (.mv (.t 3)),
 p 15 (.mv (.t 4)),
 p 16 (.mv (.t 0)),
 p 17 (.mv (.t 4)),
 p 18 (.ia 7 (.t 16) (.t 17)),
 p 19 (.ldn 7 (.t 18)),
 p 20 (.call 161 [(.t 19)]),
 p 21 (.ia 7 (.t 14) (.t 15)),
 ⟨none, .stn 7 (.t 21) (.t 20), none, false⟩]))
 (.rg [p 12 (.mv (.t 4)),
 p 13 (.bin .add (.t 12) (.k (.int .i64 1))),
 p 4 (.mv (.t 13))]))))))
 (.seq (.rg [p 22 (.mv (.t 3)),
 p 2 (.mv (.t 22))])
 .ret)))),
 [.tmp 2]⟩
def F172 : Fnc := ⟨(.seq (.rg [p 4 (.mv (.k (.bool false)))])
 (.seq (.rg [p 5 (.mv (.t 1)),
 p 6 (.call 183 [(.t 5)]),
 p 7 (.bin .gtr (.t 6) (.k (.int .i64 0))),
 p 8 (.mv (.t 7)),
 ⟨(some 9), .mv (.t 0), (some (8, true)), false⟩,
 ⟨(some 10), .bin .geq (.t 9) (.k (.int .i64 0)), (some (8, true)), false⟩,
 p 11 (.pick (.t 8) (.t 10) (.k (.bool false))),
 p 12 (.mv (.t 11)),
 ⟨(some 13), .mv (.t 0), (some (12, true)), false⟩,
 ⟨(some 14), .mv (.t 1), (some (12, true)), false⟩,
 ⟨(some 15), .call 183 [(.t 14)], (some (12, true)), false⟩,
 ⟨(some 16), .bin .rem (.t 13) (.t 15), (some (12, true)), false⟩,
 ⟨(some 17), .bin .eql (.t 16) (.k (.int .i64 0)), (some (12, true)), false⟩,
 p 18 (.pick (.t 12) (.t 17) (.k (.bool false))),
 p 4 (.mv (.t 18))])
 .ret)),
 [.tmp 4]⟩
def F183 : Fnc := ⟨(.seq (.rg [p 2 (.mv (.k (.int .i64 0)))])
 (.seq (.seq (.rg [p 3 (.mv (.t 0)),
 p 4 (.call 230 [(.t 3), (.k (.int .i64 0)), (.k (.int .i64 2))]),
 p 5 (.not (.t 4))])
 (.cond (.t 5) (.seq (.rg [p 2 (.mv (.k (.int .i64 0)))])
 .ret)
 .skip))
 (.seq (.rg [p 6 (.mv (.t 0)),
 p 7 (.bin .shl (.k (.int .i64 1)) (.t 6)),
 p 2 (.mv (.t 7))])
 .ret))),
 [.tmp 2]⟩
def F188 : Fnc := ⟨(.seq (.rg [p 0 (.new [.slice none 0 0, .int .i64 0, .slice none 0 0])])
 (.seq (.rg [p 1 (.mk 1 8 [.int .i64 0] (.k (.int .i64 4)) (.k (.int .i64 4))),
 p 2 (.bd [.slice none 0 0, .int .i64 0, .slice none 0 0] [(0, 1, (.t 1))]),
 ⟨none, .stn 3 (.t 0) (.t 2), none, false⟩])
 .ret)),
 [.celln 0 3]⟩
def F189 : Fnc := ⟨(.seq (.rg [p 1 (.box (.t 0)),
 p 2 (.mv (.k (.bool false)))])
 (.seq (.rg [p 3 (.fa 0 (.t 1)),
 p 4 (.ld (.t 3)),
 p 5 (.len (.t 4)),
 p 6 (.bin .eql (.t 5) (.k (.int .i64 4))),
 p 7 (.mv (.t 6)),
 ⟨(some 8), .fa 0 (.t 1), (some (7, true)), false⟩,
 ⟨(some 9), .ld (.t 8), (some (7, true)), false⟩,
 ⟨(some 10), .call 250 [(.t 9)], (some (7, true)), false⟩,
 p 11 (.pick (.t 7) (.t 10) (.k (.bool false))),
 p 12 (.mv (.t 11)),
 ⟨(some 13), .fa 1 (.t 1), (some (12, true)), true⟩,
 ⟨(some 14), .ld (.t 13), (some (12, true)), true⟩,
 ⟨(some 15), .call 201 [(.k (.int .i64 2))], (some (12, true)), true⟩,
 ⟨(some 16), .bin .sub (.t 15) (.k (.int .i64 1)), (some (12, true)), true⟩,
 ⟨(some 17), .call 230 [(.t 14), (.k (.int .i64 0)), (.t 16)], (some (12, true)), false⟩,
 p 18 (.pick (.t 12) (.t 17) (.k (.bool false))),
 p 19 (.mv (.t 18)),
 ⟨(some 20), .fa 2 (.t 1), (some (19, true)), false⟩,
 ⟨(some 21), .ld (.t 20), (some (19, true)), false⟩,
 ⟨(some 22), .len (.t 21), (some (19, true)), false⟩,
 ⟨(some 23), .bin .leq (.t 22) (.k (.int .i64 4)), (some (19, true)), false⟩,
 p 24 (.pick (.t 19) (.t 23) (.k (.bool false))),
 p 25 (.mv (.t 24)),
 ⟨(some 26), .fa 2 (.t 1), (some (25, true)), false⟩,
 ⟨(some 27), .ld (.t 26), (some (25, true)), false⟩,
 ⟨(some 28), .call 250 [(.t 27)], (some (25, true)), false⟩,
 p 29 (.pick (.t 25) (.t 28) (.k (.bool false))),
 p 2 (.mv (.t 29))])
 .ret)),
 [.tmp 2]⟩
def F201 : Fnc := ⟨(.seq (.rg [p 2 (.mv (.k (.int .i64 0)))])
 (.seq (.seq (.rg [p 3 (.mv (.t 0)),
 p 4 (.call 183 [(.t 3)]),
 p 5 (.bin .eql (.t 4) (.k (.int .i64 0)))])
 (.cond (.t 5) (.seq (.rg [p 2 (.mv (.k (.int .i64 0)))])
 .ret)
 .skip))
 (.seq (.rg [p 6 (.mv (.t 0)),
 p 7 (.call 183 [(.t 6)]),
 p 8 (.bin .mul (.k (.int .i64 8)) (.t 7)),
 p 9 (.bin .shl (.k (.int .i64 1)) (.t 8)),
 p 2 (.mv (.t 9))])
 .ret))),
 [.tmp 2]⟩
def F202 : Fnc := ⟨(.seq (.rg [p 0 (.new [.slice none 0 0, .slice none 0 0, .int .i64 0, .slice none 0 0])])
 (.seq (.rg [⟨(some 1), .mk 1 8 [.int .i64 0] (.k (.int .i64 192)) (.k (.int .i64 192)), none, true⟩,
 ⟨(some 2), .call 188 [], none, true⟩,
 p 3 (.bd [.slice none 0 0, .slice none 0 0, .int .i64 0, .slice none 0 0] [(0, 1, (.t 1)), (1, 3, (.t 2))]),
 ⟨none, .stn 4 (.t 0) (.t 3), none, false⟩])
 .ret)),
 [.celln 0 4]⟩
def F203 : Fnc := ⟨(.seq (.rg [p 1 (.box (.t 0)),
 p 2 (.mv (.k (.bool false)))])
 (.seq (.rg [p 3 (.fa 0 (.t 1)),
 p 4 (.ld (.t 3)),
 p 5 (.len (.t 4)),
 p 6 (.bin .eql (.t 5) (.k (.int .i64 192))),
 p 7 (.mv (.t 6)),
 ⟨(some 8), .fa 0 (.t 1), (some (7, true)), false⟩,
 ⟨(some 9), .ld (.t 8), (some (7, true)), false⟩,
 ⟨(some 10), .call 238 [(.t 9)], (some (7, true)), false⟩,
 p 11 (.pick (.t 7) (.t 10) (.k (.bool false))),
 p 12 (.mv (.t 11)),
 ⟨(some 13), .fa 1 (.t 1), (some (12, true)), false⟩,
 ⟨(some 14), .ldn 3 (.t 13), (some (12, true)), false⟩,
 ⟨(some 15), .call 189 [(.t 14)], (some (12, true)), false⟩,
 p 16 (.pick (.t 12) (.t 15) (.k (.bool false))),
 p 2 (.mv (.t 16))])
 .ret)),
 [.tmp 2]⟩
def F230 : Fnc := ⟨(.seq (.rg [p 6 (.mv (.k (.bool false)))])
 (.seq (.rg [p 7 (.mv (.t 0)),
 p 8 (.mv (.t 1)),
 p 9 (.bin .geq (.t 7) (.t 8)),
 p 10 (.mv (.t 9)),
 ⟨(some 11), .mv (.t 0), (some (10, true)), false⟩,
 ⟨(some 12), .mv (.t 2), (some (10, true)), false⟩,
 ⟨(some 13), .bin .leq (.t 11) (.t 12), (some (10, true)), false⟩,
 p 14 (.pick (.t 10) (.t 13) (.k (.bool false))),
 p 6 (.mv (.t 14))])
 .ret)),
 [.tmp 6]⟩
def F238 : Fnc := ⟨(.seq (.rg [p 2 (.mv (.k (.bool false)))])
 (.seq (.seq (.rg [p 3 (.mv (.k (.int .i64 0)))])
 (.block 0 (.loop (.seq (.seq (.rg [p 4 (.mv (.t 3)),
 p 5 (.mv (.t 0)),
 p 6 (.len (.t 5)),
 p 7 (.bin .lss (.t 4) (.t 6))])
 (.cond (.t 7) .skip
 (.exit 0)))
 (.seq (.block 1 (.seq (.rg [p 10 (.mv (.t 0)),
 p 11 (.mv (.t 3)),
 p 12 (.ia 1 (.t 10) (.t 11)),
 p 13 (.ld (.t 12)),
 p 14 (.call 230 [(.t 13), (.k (.int .i64 0)), (.k (.int .i64 255))]),
 p 15 (.not (.t 14))])
 (.cond (.t 15) (.seq (.rg [p 2 (.mv (.k (.bool false)))])
 .ret)
 .skip)))
 (.rg [p 8 (.mv (.t 3)),
 p 9 (.bin .add (.t 8) (.k (.int .i64 1))),
 p 3 (.mv (.t 9))]))))))
 (.seq (.rg [p 16 (.mv (.t 0)),
 p 17 (.len (.t 16)),
 p 18 (.bin .leq (.t 17) (.k (.int .i64 512))),
 p 2 (.mv (.t 18))])
 .ret))),
 [.tmp 2]⟩
def F250 : Fnc := ⟨(.seq (.rg [p 2 (.mv (.k (.bool false)))])
 (.seq (.seq (.rg [p 3 (.mv (.k (.int .i64 0)))])
 (.block 0 (.loop (.seq (.seq (.rg [p 4 (.mv (.t 3)),
 p 5 (.mv (.t 0)),
 p 6 (.len (.t 5)),
 p 7 (.bin .lss (.t 4) (.t 6))])
 (.cond (.t 7) .skip
 (.exit 0)))
 (.seq (.block 1 (.seq (.rg [⟨(some 10), .mv (.t 0), none, true⟩,
 ⟨(some 11), .mv (.t 3), none, true⟩,
 ⟨(some 12), .ia 1 (.t 10) (.t 11), none, true⟩,
 ⟨(some 13), .ld (.t 12), none, true⟩,
 ⟨(some 14), .call 201 [(.k (.int .i64 2))], none, true⟩,
 ⟨(some 15), .bin .sub (.t 14) (.k (.int .i64 1)), none, true⟩,
 p 16 (.call 230 [(.t 13), (.k (.int .i64 0)), (.t 15)]),
 p 17 (.not (.t 16))])
 (.cond (.t 17) (.seq (.rg [p 2 (.mv (.k (.bool false)))])
 .ret)
 .skip)))
 (.rg [p 8 (.mv (.t 3)),
 p 9 (.bin .add (.t 8) (.k (.int .i64 1))),
 p 3 (.mv (.t 9))]))))))
 (.seq (.rg [p 2 (.mv (.k (.bool true)))])
 .ret))),
 [.tmp 2]⟩
def F253 : Fnc := ⟨(.seq (.rg [p 2 (.mv (.k (.slice none 0 0)))])
 (.seq (.seq (.rg [p 3 (.mv (.t 0)),
 p 4 (.eqnil false (.t 3))])
 (.cond (.t 4) (.seq (.rg [p 2 (.mv (.k (.slice none 0 0)))])
 .ret)
 .skip))
 (.seq (.rg [p 5 (.bs 1 0 [.int .i64 0] []),
 p 6 (.mv (.t 0)),
 p 7 (.app 1 8 (.t 5) (.t 6)),
 p 2 (.mv (.t 7))])
 .ret))),
 [.tmp 2]⟩
def F257 : Fnc := ⟨(.seq (.rg [p 4 (.mv (.k (.bool false)))])
 (.seq (.rg [p 5 (.mv (.t 0)),
 p 6 (.mv (.t 1)),
 p 7 (.call 266 [(.t 5), (.t 6)]),
 p 8 (.bin .geq (.t 7) (.k (.int .i64 0))),
 p 4 (.mv (.t 8))])
 .ret)),
 [.tmp 4]⟩
def F266 : Fnc := ⟨(.seq (.rg [p 4 (.mv (.k (.int .i64 0)))])
 (.seq (.seq (.rg [p 6 (.mv (.t 0)),
 p 7 (.len (.t 6)),
 p 8 (.mv (.k (.int .i64 0)))])
 (.block 0 (.loop (.seq (.rg [p 9 (.bin .lss (.t 8) (.t 7))])
 (.seq (.cond (.t 9) .skip
 (.exit 0))
 (.seq (.block 1 (.seq (.rg [p 10 (.mv (.t 8)),
 p 5 (.mv (.t 10))])
 (.seq (.rg [p 11 (.mv (.t 1)),
 p 12 (.mv (.t 0)),
 p 13 (.mv (.t 5)),
 p 14 (.ia 1 (.t 12) (.t 13)),
 p 15 (.ld (.t 14)),
 p 16 (.calli (.t 11) [(.t 15)])])
 (.cond (.t 16) (.seq (.rg [p 17 (.mv (.t 5)),
 p 4 (.mv (.t 17))])
 .ret)
 .skip))))
 (.rg [p 18 (.bin .add (.t 8) (.k (.int .i64 1))),
 p 8 (.mv (.t 18))])))))))
 (.seq (.rg [p 4 (.mv (.k (.int .i64 (-1))))])
 .ret))),
 [.tmp 4]⟩
def F337 : Fnc := ⟨(.seq (.rg [p 4 (.mv (.k (.int .i64 0)))])
 (.seq (.seq (.rg [p 5 (.mv (.k (.int .i64 0)))])
 (.block 0 (.loop (.seq (.seq (.rg [p 6 (.mv (.t 5)),
 p 7 (.mv (.t 0)),
 p 8 (.len (.t 7)),
 p 9 (.bin .lss (.t 6) (.t 8))])
 (.cond (.t 9) .skip
 (.exit 0)))
 (.seq (.block 1 (.seq (.rg [p 12 (.mv (.t 0)),
 p 13 (.mv (.t 5)),
 p 14 (.mv (.t 1)),
 p 15 (.ia 1 (.t 12) (.t 13)),
 ⟨none, .st (.t 15) (.t 14), none, false⟩])
 (.rg [p 16 (.mv (.t 1)),
 p 17 (.bin .add (.t 16) (.k (.int .i64 1))),
 p 1 (.mv (.t 17))])))
 (.rg [p 10 (.mv (.t 5)),
 p 11 (.bin .add (.t 10) (.k (.int .i64 1))),
 p 5 (.mv (.t 11))]))))))
 (.seq (.rg [p 18 (.mv (.t 1)),
 p 4 (.mv (.t 18))])
 .ret))),
 [.tmp 4]⟩
def F347 : Fnc := ⟨(.seq (.rg [p 2 (.mv (.k (.bool false)))])
 (.seq (.rg [p 3 (.mv (.k (.int .i64 1048576)))])
 (.seq (.rg [p 14 (.mv (.t 0)),
 p 15 (.mv (.t 3)),
 p 16 (.call 147 [(.t 14), (.t 15)]),
 p 3 (.mv (.t 16))])
 (.seq (.seq (.rg [p 17 (.mv (.t 3)),
 p 18 (.bin .lss (.t 17) (.k (.int .i64 0)))])
 (.cond (.t 18) (.seq (.rg [p 2 (.mv (.k (.bool true)))])
 .ret)
 .skip))
 (.seq (.rg [p 20 (.mv (.t 0)),
 p 21 (.call 162 [(.t 20)]),
 p 22 (.call 360 [(.t 21)]),
 p 19 (.mv (.t 22)),
 p 23 (.ext 0 (.t 19)),
 p 24 (.ext 1 (.t 19)),
 p 4 (.new [.slice none 0 0, .slice none 0 0, .int .i64 0, .slice none 0 0]),
 ⟨none, .stn 4 (.t 4) (.t 23), none, false⟩,
 p 5 (.mv (.t 24))])
 (.seq (.rg [p 25 (.mv (.t 0)),
 p 26 (.call 162 [(.t 25)]),
 p 6 (.mv (.t 26))])
 (.seq (.rg [p 28 (.mv (.t 6)),
 p 29 (.call 361 [(.t 28)]),
 p 27 (.mv (.t 29)),
 p 30 (.ext 0 (.t 27)),
 p 31 (.ext 1 (.t 27)),
 p 7 (.new [.slice none 0 0, .slice none 0 0, .int .i64 0, .slice none 0 0]),
 ⟨none, .stn 4 (.t 7) (.t 30), none, false⟩,
 p 8 (.mv (.t 31))])
 (.seq (.seq (.rg [p 32 (.ldn 4 (.t 7)),
 p 33 (.ldn 4 (.t 4)),
 p 34 (.call 135 [(.t 32), (.t 33)]),
 p 35 (.not (.t 34)),
 p 36 (.mv (.t 35)),
 ⟨(some 37), .mv (.t 8), (some (36, false)), false⟩,
 ⟨(some 38), .mv (.t 5), (some (36, false)), false⟩,
 ⟨(some 39), .bin .neq (.t 37) (.t 38), (some (36, false)), false⟩,
 p 40 (.pick (.t 36) (.k (.bool true)) (.t 39))])
 (.cond (.t 40) (.seq (.rg [p 2 (.mv (.k (.bool false)))])
 .ret)
 .skip))
 (.seq (.seq (.rg [p 41 (.mv (.t 6)),
 p 42 (.mv (.t 0)),
 p 43 (.call 162 [(.t 42)]),
 p 44 (.call 131 [(.t 41), (.t 43)]),
 p 45 (.not (.t 44))])
 (.cond (.t 45) (.seq (.rg [p 2 (.mv (.k (.bool false)))])
 .ret)
 .skip))
 (.seq (.rg [p 9 (.mv (.k (.int .i64 1)))])
 (.seq (.rg [p 46 (.mv (.t 6)),
 p 47 (.mv (.t 9)),
 p 48 (.call 142 [(.t 46), (.t 47)]),
 p 9 (.mv (.t 48))])
 (.seq (.seq (.rg [p 49 (.mv (.t 9)),
 p 50 (.bin .lss (.t 49) (.k (.int .i64 0))),
 p 51 (.mv (.t 50)),
 ⟨(some 52), .ldn 4 (.t 7), (some (51, false)), false⟩,
 ⟨(some 53), .ldn 4 (.t 4), (some (51, false)), false⟩,
 ⟨(some 54), .call 135 [(.t 52), (.t 53)], (some (51, false)), false⟩,
 ⟨(some 55), .not (.t 54), (some (51, false)), false⟩,
 p 56 (.pick (.t 51) (.k (.bool true)) (.t 55)),
 p 57 (.mv (.t 56)),
 ⟨(some 58), .mv (.t 8), (some (57, false)), false⟩,
 ⟨(some 59), .mv (.t 5), (some (57, false)), false⟩,
 ⟨(some 60), .bin .neq (.t 58) (.t 59), (some (57, false)), false⟩,
 p 61 (.pick (.t 57) (.k (.bool true)) (.t 60))])
 (.cond (.t 61) (.seq (.rg [p 2 (.mv (.k (.bool false)))])
 .ret)
 .skip))
 (.seq (.rg [p 10 (.mv (.k (.int .i64 1)))])
 (.seq (.rg [p 62 (.ldn 4 (.t 7)),
 p 63 (.mv (.t 10)),
 p 64 (.call 362 [(.t 62), (.t 63)]),
 p 10 (.mv (.t 64))])
 (.seq (.rg [p 11 (.mv (.k (.int .i64 1)))])
 (.seq (.rg [p 65 (.ldn 4 (.t 7)),
 p 66 (.mv (.t 11)),
 p 67 (.call 363 [(.t 65), (.t 66)]),
 p 11 (.mv (.t 67))])
 (.seq (.seq (.rg [p 68 (.mv (.t 11)),
 p 69 (.bin .lss (.t 68) (.k (.int .i64 0)))])
 (.cond (.t 69) (.seq (.rg [p 2 (.mv (.k (.bool false)))])
 .ret)
 .skip))
 (.seq (.seq (.rg [p 70 (.mv (.t 11)),
 p 71 (.mv (.t 10)),
 p 72 (.bin .neq (.t 70) (.t 71))])
 (.cond (.t 72) (.seq (.rg [p 2 (.mv (.k (.bool false)))])
 .ret)
 .skip))
 (.seq (.rg [p 74 (.mv (.t 0)),
 p 75 (.call 162 [(.t 74)]),
 p 76 (.call 361 [(.t 75)]),
 p 73 (.mv (.t 76)),
 p 77 (.ext 0 (.t 73)),
 p 78 (.ext 1 (.t 73)),
 p 12 (.new [.slice none 0 0, .slice none 0 0, .int .i64 0, .slice none 0 0]),
 ⟨none, .stn 4 (.t 12) (.t 77), none, false⟩,
 p 13 (.mv (.t 78))])
 (.seq (.seq (.rg [p 79 (.ldn 4 (.t 12)),
 p 80 (.ldn 4 (.t 4)),
 p 81 (.call 135 [(.t 79), (.t 80)]),
 p 82 (.not (.t 81)),
 p 83 (.mv (.t 82)),
 ⟨(some 84), .mv (.t 13), (some (83, false)), false⟩,
 ⟨(some 85), .mv (.t 5), (some (83, false)), false⟩,
 ⟨(some 86), .bin .neq (.t 84) (.t 85), (some (83, false)), false⟩,
 p 87 (.pick (.t 83) (.k (.bool true)) (.t 86))])
 (.cond (.t 87) (.seq (.rg [p 2 (.mv (.k (.bool false)))])
 .ret)
 .skip))
 (.seq (.rg [p 11 (.mv (.k (.int .i64 1)))])
 (.seq (.rg [p 88 (.ldn 4 (.t 7)),
 p 89 (.mv (.t 11)),
 p 90 (.call 363 [(.t 88), (.t 89)]),
 p 11 (.mv (.t 90))])
 (.seq (.seq (.rg [p 91 (.mv (.t 11)),
 p 92 (.bin .lss (.t 91) (.k (.int .i64 0)))])
 (.cond (.t 92) (.seq (.rg [p 2 (.mv (.k (.bool false)))])
 .ret)
 .skip))
 (.seq (.seq (.rg [p 93 (.mv (.t 11)),
 p 94 (.mv (.t 10)),
 p 95 (.bin .neq (.t 93) (.t 94))])
 (.cond (.t 95) (.seq (.rg [p 2 (.mv (.k (.bool false)))])
 .ret)
 .skip))
 (.seq (.rg [p 2 (.mv (.k (.bool true)))])
 .ret))))))))))))))))))))))))),
 [.tmp 2]⟩
def F360 : Fnc := ⟨(.seq (.rg [p 2 (.new [.slice none 0 0, .slice none 0 0, .int .i64 0, .slice none 0 0]),
 p 3 (.mv (.k (.int .i64 0)))])
 (.seq (.rg [p 9 (.call 202 []),
 p 4 (.new [.slice none 0 0, .slice none 0 0, .int .i64 0, .slice none 0 0]),
 ⟨none, .stn 4 (.t 4) (.t 9), none, false⟩])
 (.seq (.seq (.rg [p 5 (.mv (.k (.int .i64 0)))])
 (.block 0 (.loop (.seq (.seq (.rg [p 10 (.mv (.t 5)),
 p 11 (.mv (.t 0)),
 p 12 (.len (.t 11)),
 p 13 (.bin .lss (.t 10) (.t 12))])
 (.cond (.t 13) .skip
 (.exit 0)))
 (.seq (.block 1 (.seq (.seq (.rg [p 16 (.mv (.t 0)),
 p 17 (.mv (.t 5)),
 p 18 (.ia 7 (.t 16) (.t 17)),
 p 19 (.fa 6 (.t 18)),
 p 20 (.ld (.t 19)),
 p 21 (.bin .eql (.t 20) (.k (.int .i64 1)))])
 (.cond (.t 21) (.exit 1)
 .skip))
 (.seq (.rg [⟨(some 23), .ldn 4 (.t 4), none, true⟩,
 ⟨(some 24), .mv (.t 0), none, true⟩,
 ⟨(some 25), .mv (.t 5), none, true⟩,
 ⟨(some 26), .ia 7 (.t 24) (.t 25), none, true⟩,
 ⟨(some 27), .fa 2 (.t 26), none, true⟩,
 ⟨(some 28), .ld (.t 27), none, true⟩,
 ⟨(some 29), .mv (.t 0), none, true⟩,
 ⟨(some 30), .mv (.t 5), none, true⟩,
 ⟨(some 31), .ia 7 (.t 29) (.t 30), none, true⟩,
 ⟨(some 32), .fa 3 (.t 31), none, true⟩,
 ⟨(some 33), .ld (.t 32), none, true⟩,
 ⟨(some 34), .mv (.t 0), none, true⟩,
 ⟨(some 35), .mv (.t 5), none, true⟩,
 ⟨(some 36), .ia 7 (.t 34) (.t 35), none, true⟩,
 ⟨(some 37), .fa 4 (.t 36), none, true⟩,
 ⟨(some 38), .ld (.t 37), none, true⟩,
 ⟨(some 39), .mv (.t 0), none, true⟩,
 ⟨(some 40), .mv (.t 5), none, true⟩,
 ⟨(some 41), .ia 7 (.t 39) (.t 40), none, true⟩,
 ⟨(some 42), .fa 5 (.t 41), none, true⟩,
 ⟨(some 43), .ld (.t 42), none, true⟩,
 ⟨(some 44), .call 377 [(.t 23), (.t 28), (.t 33), (.t 38), (.t 43)], none, true⟩,
 ⟨(some 22), .mv (.t 44), none, true⟩,
 ⟨(some 45), .ext 0 (.t 22), none, true⟩,
 ⟨(some 46), .ext 1 (.t 22), none, true⟩,
 ⟨(some 47), .ext 2 (.t 22), none, true⟩,
 ⟨(some 6), .new [.slice none 0 0, .slice none 0 0, .int .i64 0, .slice none 0 0], none, true⟩,
 ⟨none, .stn 4 (.t 6) (.t 45), none, true⟩,
 ⟨(some 7), .mv (.t 46), none, true⟩,
 p 8 (.mv (.t 47))])
 (.seq (.seq (.rg [p 48 (.mv (.t 8)),
 p 49 (.mv (.t 0)),
 p 50 (.mv (.t 5)),
 p 51 (.ia 7 (.t 49) (.t 50)),
 p 52 (.fa 6 (.t 51)),
 p 53 (.ld (.t 52)),
 p 54 (.bin .neq (.t 48) (.t 53)),
 p 55 (.mv (.t 54)),
 ⟨(some 56), .mv (.t 7), (some (55, false)), false⟩,
 ⟨(some 57), .mv (.t 0), (some (55, false)), false⟩,
 ⟨(some 58), .mv (.t 5), (some (55, false)), false⟩,
 ⟨(some 59), .ia 7 (.t 57) (.t 58), (some (55, false)), false⟩,
 ⟨(some 60), .fa 5 (.t 59), (some (55, false)), false⟩,
 ⟨(some 61), .ld (.t 60), (some (55, false)), false⟩,
 ⟨(some 62), .bin .neq (.t 56) (.t 61), (some (55, false)), false⟩,
 p 63 (.pick (.t 55) (.k (.bool true)) (.t 62))])
 (.cond (.t 63) (.seq (.rg [p 64 (.ldn 4 (.t 4)),
 p 65 (.mv (.t 5)),
 ⟨none, .stn 4 (.t 2) (.t 64), none, false⟩,
 p 3 (.mv (.t 65))])
 .ret)
 .skip))
 (.rg [p 66 (.ldn 4 (.t 6)),
 ⟨none, .stn 4 (.t 4) (.t 66), none, false⟩])))))
 (.rg [p 14 (.mv (.t 5)),
 p 15 (.bin .add (.t 14) (.k (.int .i64 1))),
 p 5 (.mv (.t 15))]))))))
 (.seq (.rg [p 67 (.ldn 4 (.t 4)),
 ⟨none, .stn 4 (.t 2) (.t 67), none, false⟩,
 p 3 (.mv (.k (.int .i64 (-1))))])
 .ret)))),
 [.celln 2 4, .tmp 3]⟩
def F361 : Fnc := ⟨(.seq (.rg [p 2 (.new [.slice none 0 0, .slice none 0 0, .int .i64 0, .slice none 0 0]),
 p 3 (.mv (.k (.int .i64 0)))])
 (.seq (.rg [p 10 (.call 378 []),
 p 4 (.new [.slice none 0 0, .slice none 0 0, .int .i64 0, .slice none 0 0]),
 ⟨none, .stn 4 (.t 4) (.t 10), none, false⟩])
 (.seq (.seq (.rg [p 11 (.mv (.t 0)),
 p 12 (.len (.t 11)),
 p 13 (.mv (.k (.int .i64 0)))])
 (.block 0 (.loop (.seq (.rg [p 14 (.bin .lss (.t 13) (.t 12))])
 (.seq (.cond (.t 14) .skip
 (.exit 0))
 (.seq (.block 1 (.seq (.rg [p 15 (.mv (.t 13)),
 p 16 (.ia 7 (.t 11) (.t 13)),
 p 17 (.ldn 7 (.t 16)),
 p 6 (.new [.int .i64 0, .int .i64 0, .bool false, .int .i64 0, .int .i64 0, .int .i64 0, .int .i64 0]),
 p 5 (.mv (.t 15)),
 ⟨none, .stn 7 (.t 6) (.t 17), none, false⟩])
 (.seq (.seq (.rg [p 18 (.fa 6 (.t 6)),
 p 19 (.ld (.t 18)),
 p 20 (.bin .eql (.t 19) (.k (.int .i64 1)))])
 (.cond (.t 20) (.exit 1)
 .skip))
 (.seq (.rg [p 22 (.ldn 4 (.t 4)),
 p 23 (.fa 2 (.t 6)),
 p 24 (.ld (.t 23)),
 p 25 (.fa 3 (.t 6)),
 p 26 (.ld (.t 25)),
 p 27 (.fa 4 (.t 6)),
 p 28 (.ld (.t 27)),
 p 29 (.fa 5 (.t 6)),
 p 30 (.ld (.t 29)),
 p 31 (.call 52 [(.t 22), (.t 24), (.t 26), (.t 28), (.t 30)]),
 p 21 (.mv (.t 31)),
 p 32 (.ext 0 (.t 21)),
 p 33 (.ext 1 (.t 21)),
 p 34 (.ext 2 (.t 21)),
 p 7 (.new [.slice none 0 0, .slice none 0 0, .int .i64 0, .slice none 0 0]),
 ⟨none, .stn 4 (.t 7) (.t 32), none, false⟩,
 p 8 (.mv (.t 33)),
 p 9 (.mv (.t 34))])
 (.seq (.seq (.rg [p 35 (.mv (.t 9)),
 p 36 (.fa 6 (.t 6)),
 p 37 (.ld (.t 36)),
 p 38 (.bin .neq (.t 35) (.t 37)),
 p 39 (.mv (.t 38)),
 ⟨(some 40), .mv (.t 8), (some (39, false)), false⟩,
 ⟨(some 41), .fa 5 (.t 6), (some (39, false)), false⟩,
 ⟨(some 42), .ld (.t 41), (some (39, false)), false⟩,
 ⟨(some 43), .bin .neq (.t 40) (.t 42), (some (39, false)), false⟩,
 p 44 (.pick (.t 39) (.k (.bool true)) (.t 43))])
 (.cond (.t 44) (.seq (.rg [p 45 (.ldn 4 (.t 4)),
 p 46 (.mv (.t 5)),
 ⟨none, .stn 4 (.t 2) (.t 45), none, false⟩,
 p 3 (.mv (.t 46))])
 .ret)
 .skip))
 (.rg [p 47 (.ldn 4 (.t 7)),
 ⟨none, .stn 4 (.t 4) (.t 47), none, false⟩]))))))
 (.rg [p 48 (.bin .add (.t 13) (.k (.int .i64 1))),
 p 13 (.mv (.t 48))])))))))
 (.seq (.rg [p 49 (.ldn 4 (.t 4)),
 ⟨none, .stn 4 (.t 2) (.t 49), none, false⟩,
 p 3 (.mv (.k (.int .i64 (-1))))])
 .ret)))),
 [.celln 2 4, .tmp 3]⟩
def F362 : Fnc := ⟨(.seq (.rg [p 2 (.box (.t 0)),
 p 4 (.mv (.k (.int .i64 0)))])
 (.seq (.rg [p 5 (.fa 0 (.t 2)),
 p 6 (.ld (.t 5)),
 p 7 (.mv (.t 1)),
 p 8 (.call 337 [(.t 6), (.t 7)]),
 p 1 (.mv (.t 8))])
 (.seq (.rg [p 9 (.fa 1 (.t 2)),
 p 10 (.ldn 3 (.t 9)),
 p 11 (.mv (.t 1)),
 p 12 (.call 379 [(.t 10), (.t 11)]),
 p 1 (.mv (.t 12))])
 (.seq (.rg [p 13 (.mv (.t 1)),
 p 4 (.mv (.t 13))])
 .ret)))),
 [.tmp 4]⟩
def F363 : Fnc := ⟨(.seq (.rg [p 2 (.box (.t 0)),
 p 4 (.mv (.k (.int .i64 0)))])
 (.seq (.rg [p 5 (.fa 0 (.t 2)),
 p 6 (.ld (.t 5)),
 p 7 (.mv (.t 1)),
 p 8 (.call 380 [(.t 6), (.t 7)]),
 p 1 (.mv (.t 8))])
 (.seq (.seq (.rg [p 9 (.mv (.t 1)),
 p 10 (.bin .lss (.t 9) (.k (.int .i64 0)))])
 (.cond (.t 10) (.seq (.rg [p 4 (.mv (.k (.int .i64 (-1))))])
 .ret)
 .skip))
 (.seq (.rg [p 11 (.fa 1 (.t 2)),
 p 12 (.ldn 3 (.t 11)),
 p 13 (.mv (.t 1)),
 p 14 (.call 381 [(.t 12), (.t 13)]),
 p 1 (.mv (.t 14))])
 (.seq (.seq (.rg [p 15 (.mv (.t 1)),
 p 16 (.bin .lss (.t 15) (.k (.int .i64 0)))])
 (.cond (.t 16) (.seq (.rg [p 4 (.mv (.k (.int .i64 (-1))))])
 .ret)
 .skip))
 (.seq (.rg [p 17 (.mv (.t 1)),
 p 4 (.mv (.t 17))])
 .ret)))))),
 [.tmp 4]⟩
def F377 : Fnc := ⟨(.seq (.rg [p 5 (.box (.t 0)),
 p 10 (.new [.slice none 0 0, .slice none 0 0, .int .i64 0, .slice none 0 0]),
 p 11 (.mv (.k (.int .i64 0))),
 p 12 (.mv (.k (.int .i64 0)))])
 (.seq (.rg [p 19 (.ldn 4 (.t 5)),
 p 20 (.call 395 [(.t 19)]),
 p 13 (.new [.slice none 0 0, .slice none 0 0, .int .i64 0, .slice none 0 0]),
 ⟨none, .stn 4 (.t 13) (.t 20), none, false⟩])
 (.seq (.seq (.rg [p 21 (.ldn 4 (.t 5)),
 p 22 (.call 203 [(.t 21)]),
 p 23 (.not (.t 22)),
 p 24 (.mv (.t 23)),
 ⟨(some 25), .mv (.t 2), (some (24, false)), false⟩,
 ⟨(some 26), .mv (.t 3), (some (24, false)), false⟩,
 ⟨(some 27), .call 172 [(.t 25), (.t 26)], (some (24, false)), false⟩,
 ⟨(some 28), .not (.t 27), (some (24, false)), false⟩,
 p 29 (.pick (.t 24) (.k (.bool true)) (.t 28)),
 p 30 (.mv (.t 29)),
 ⟨(some 31), .mv (.t 1), (some (30, false)), false⟩,
 ⟨(some 32), .mv (.t 31), (some (30, false)), false⟩,
 ⟨(some 33), .mv (.t 4), (some (32, true)), false⟩,
 ⟨(some 34), .mv (.t 3), (some (32, true)), false⟩,
 ⟨(some 35), .call 201 [(.t 34)], (some (32, true)), false⟩,
 ⟨(some 36), .bin .sub (.t 35) (.k (.int .i64 1)), (some (32, true)), false⟩,
 ⟨(some 37), .call 230 [(.t 33), (.k (.int .i64 0)), (.t 36)], (some (32, true)), false⟩,
 ⟨(some 38), .not (.t 37), (some (32, true)), false⟩,
 ⟨(some 39), .pick (.t 32) (.t 38) (.k (.bool false)), (some (30, false)), false⟩,
 p 40 (.pick (.t 30) (.k (.bool true)) (.t 39))])
 (.cond (.t 40) (.seq (.rg [p 41 (.ldn 4 (.t 13)),
 ⟨none, .stn 4 (.t 10) (.t 41), none, false⟩,
 p 11 (.mv (.k (.int .i64 0))),
 p 12 (.mv (.k (.int .i64 1)))])
 .ret)
 .skip))
 (.seq (.seq (.rg [p 42 (.mv (.t 2)),
 p 43 (.call 396 [(.t 42)])])
 (.block 0 (.seq (.seq (.rg [p 45 (.bin .eql (.t 43) (.k (.int .i64 1))),
 p 44 (.mv (.t 45))])
 (.cond (.t 44) .skip
 (.rg [p 46 (.bin .eql (.t 43) (.k (.int .i64 2))),
 p 44 (.mv (.t 46))])))
 (.cond (.t 44) (.seq (.seq (.rg [p 47 (.mv (.t 1))])
 (.cond (.t 47) (.seq (.rg [p 49 (.fa 0 (.t 5)),
 p 50 (.ld (.t 49)),
 p 51 (.mv (.t 2)),
 p 52 (.mv (.t 3)),
 p 53 (.mv (.t 4)),
 p 54 (.call 397 [(.t 50), (.t 51), (.t 52), (.t 53)]),
 p 48 (.mv (.t 54)),
 p 55 (.ext 0 (.t 48)),
 p 56 (.ext 1 (.t 48)),
 p 57 (.fa 0 (.t 13)),
 ⟨none, .st (.t 57) (.t 55), none, false⟩])
 (.seq (.rg [p 58 (.ldn 4 (.t 13)),
 p 59 (.mv (.t 4)),
 ⟨none, .stn 4 (.t 10) (.t 58), none, false⟩,
 p 11 (.mv (.t 59)),
 p 12 (.mv (.k (.int .i64 0)))])
 .ret))
 .skip))
 (.seq (.rg [p 61 (.fa 0 (.t 5)),
 p 62 (.ld (.t 61)),
 p 63 (.mv (.t 2)),
 p 64 (.mv (.t 3)),
 p 65 (.call 398 [(.t 62), (.t 63), (.t 64)]),
 p 60 (.mv (.t 65)),
 p 66 (.ext 0 (.t 60)),
 p 67 (.ext 1 (.t 60)),
 p 14 (.mv (.t 66)),
 p 15 (.mv (.t 67))])
 (.seq (.rg [p 68 (.ldn 4 (.t 13)),
 p 69 (.mv (.t 14)),
 ⟨none, .stn 4 (.t 10) (.t 68), none, false⟩,
 p 11 (.mv (.t 69)),
 p 12 (.mv (.k (.int .i64 0)))])
 .ret)))
 (.seq (.rg [p 71 (.bin .eql (.t 43) (.k (.int .i64 3))),
 p 70 (.mv (.t 71))])
 (.cond (.t 70) (.seq (.rg [p 73 (.fa 1 (.t 5)),
 p 74 (.ldn 3 (.t 73)),
 p 75 (.mv (.t 1)),
 p 76 (.mv (.t 2)),
 p 77 (.bin .sub (.t 76) (.k (.int .i64 192))),
 p 78 (.mv (.t 4)),
 p 79 (.call 399 [(.t 74), (.t 75), (.t 77), (.t 78)]),
 p 72 (.mv (.t 79)),
 p 80 (.ext 0 (.t 72)),
 p 81 (.ext 1 (.t 72)),
 p 82 (.ext 2 (.t 72)),
 p 16 (.new [.slice none 0 0, .int .i64 0, .slice none 0 0]),
 ⟨none, .stn 3 (.t 16) (.t 80), none, false⟩,
 p 17 (.mv (.t 81)),
 p 18 (.mv (.t 82))])
 (.seq (.rg [p 83 (.mv (.t 3)),
 p 84 (.bin .eql (.t 83) (.k (.int .i64 2))),
 p 85 (.mv (.t 84)),
 ⟨(some 86), .mv (.t 18), (some (85, true)), false⟩,
 p 87 (.pick (.t 85) (.t 86) (.k (.bool false)))])
 (.cond (.t 87) (.seq (.rg [p 88 (.ldn 3 (.t 16)),
 p 89 (.fa 1 (.t 13)),
 ⟨none, .stn 3 (.t 89) (.t 88), none, false⟩])
 (.seq (.rg [p 90 (.ldn 4 (.t 13)),
 p 91 (.mv (.t 17)),
 ⟨none, .stn 4 (.t 10) (.t 90), none, false⟩,
 p 11 (.mv (.t 91)),
 p 12 (.mv (.k (.int .i64 0)))])
 .ret))
 .skip)))
 .skip))))))
 (.seq (.rg [p 92 (.ldn 4 (.t 13)),
 ⟨none, .stn 4 (.t 10) (.t 92), none, false⟩,
 p 11 (.mv (.k (.int .i64 0))),
 p 12 (.mv (.k (.int .i64 1)))])
 .ret))))),
 [.celln 10 4, .tmp 11, .tmp 12]⟩
def F378 : Fnc := ⟨(.seq (.rg [p 0 (.new [.slice none 0 0, .slice none 0 0, .int .i64 0, .slice none 0 0])])
 (.seq (.rg [⟨(some 1), .mk 1 8 [.int .i64 0] (.k (.int .i64 192)) (.k (.int .i64 192)), none, true⟩,
 ⟨(some 2), .call 400 [], none, true⟩,
 p 3 (.bd [.slice none 0 0, .slice none 0 0, .int .i64 0, .slice none 0 0] [(0, 1, (.t 1)), (1, 3, (.t 2))]),
 ⟨none, .stn 4 (.t 0) (.t 3), none, false⟩])
 .ret)),
 [.celln 0 4]⟩
def F379 : Fnc := ⟨(.seq (.rg [p 2 (.box (.t 0)),
 p 4 (.mv (.k (.int .i64 0)))])
 (.seq (.rg [p 5 (.fa 0 (.t 2)),
 p 6 (.ld (.t 5)),
 p 7 (.mv (.t 1)),
 p 8 (.call 337 [(.t 6), (.t 7)]),
 p 1 (.mv (.t 8))])
 (.seq (.rg [p 9 (.fa 2 (.t 2)),
 p 10 (.ld (.t 9)),
 p 11 (.mv (.t 1)),
 p 12 (.call 337 [(.t 10), (.t 11)]),
 p 1 (.mv (.t 12))])
 (.seq (.rg [p 13 (.mv (.t 1)),
 p 4 (.mv (.t 13))])
 .ret)))),
 [.tmp 4]⟩
def F380 : Fnc := ⟨(.seq (.rg [p 4 (.mv (.k (.int .i64 0)))])
 (.seq (.seq (.rg [p 5 (.mv (.k (.int .i64 0)))])
 (.block 0 (.loop (.seq (.seq (.rg [p 6 (.mv (.t 5)),
 p 7 (.mv (.t 0)),
 p 8 (.len (.t 7)),
 p 9 (.bin .lss (.t 6) (.t 8))])
 (.cond (.t 9) .skip
 (.exit 0)))
 (.seq (.block 1 (.seq (.seq (.rg [p 12 (.mv (.t 0)),
 p 13 (.mv (.t 5)),
 p 14 (.ia 1 (.t 12) (.t 13)),
 p 15 (.ld (.t 14)),
 p 16 (.mv (.t 1)),
 p 17 (.bin .neq (.t 15) (.t 16))])
 (.cond (.t 17) (.seq (.rg [p 4 (.mv (.k (.int .i64 (-1))))])
 .ret)
 .skip))
 (.rg [p 18 (.mv (.t 1)),
 p 19 (.bin .add (.t 18) (.k (.int .i64 1))),
 p 1 (.mv (.t 19))])))
 (.rg [p 10 (.mv (.t 5)),
 p 11 (.bin .add (.t 10) (.k (.int .i64 1))),
 p 5 (.mv (.t 11))]))))))
 (.seq (.rg [p 20 (.mv (.t 1)),
 p 4 (.mv (.t 20))])
 .ret))),
 [.tmp 4]⟩
def F381 : Fnc := ⟨(.seq (.rg [p 2 (.box (.t 0)),
 p 4 (.mv (.k (.int .i64 0)))])
 (.seq (.rg [p 5 (.fa 0 (.t 2)),
 p 6 (.ld (.t 5)),
 p 7 (.mv (.t 1)),
 p 8 (.call 380 [(.t 6), (.t 7)]),
 p 1 (.mv (.t 8))])
 (.seq (.seq (.rg [p 9 (.mv (.t 1)),
 p 10 (.bin .lss (.t 9) (.k (.int .i64 0)))])
 (.cond (.t 10) (.seq (.rg [p 4 (.mv (.k (.int .i64 (-1))))])
 .ret)
 .skip))
 (.seq (.rg [p 11 (.fa 2 (.t 2)),
 p 12 (.ld (.t 11)),
 p 13 (.mv (.t 1)),
 p 14 (.call 380 [(.t 12), (.t 13)]),
 p 1 (.mv (.t 14))])
 (.seq (.seq (.rg [p 15 (.mv (.t 1)),
 p 16 (.bin .lss (.t 15) (.k (.int .i64 0)))])
 (.cond (.t 16) (.seq (.rg [p 4 (.mv (.k (.int .i64 (-1))))])
 .ret)
 .skip))
 (.seq (.rg [p 17 (.mv (.t 1)),
 p 4 (.mv (.t 17))])
 .ret)))))),
 [.tmp 4]⟩
def F395 : Fnc := ⟨(.seq (.rg [p 1 (.box (.t 0)),
 p 2 (.new [.slice none 0 0, .slice none 0 0, .int .i64 0, .slice none 0 0])])
 (.seq (.rg [⟨(some 3), .bs 1 0 [.int .i64 0] [], none, true⟩,
 ⟨(some 4), .fa 0 (.t 1), none, true⟩,
 ⟨(some 5), .ld (.t 4), none, true⟩,
 ⟨(some 6), .app 1 8 (.t 3) (.t 5), none, true⟩,
 ⟨(some 7), .fa 1 (.t 1), none, true⟩,
 ⟨(some 8), .ldn 3 (.t 7), none, true⟩,
 p 9 (.call 405 [(.t 8)]),
 p 10 (.bd [.slice none 0 0, .slice none 0 0, .int .i64 0, .slice none 0 0] [(0, 1, (.t 6)), (1, 3, (.t 9))]),
 ⟨none, .stn 4 (.t 2) (.t 10), none, false⟩])
 .ret)),
 [.celln 2 4]⟩
def F396 : Fnc := ⟨(.seq (.rg [p 2 (.mv (.k (.int .i64 0)))])
 (.seq (.block 0 (.seq (.rg [p 4 (.mv (.t 0)),
 p 5 (.bin .lss (.t 4) (.k (.int .i64 0))),
 p 6 (.mv (.t 5)),
 ⟨(some 7), .mv (.t 0), (some (6, false)), false⟩,
 ⟨(some 8), .bin .geq (.t 7) (.k (.int .i64 224)), (some (6, false)), false⟩,
 p 9 (.pick (.t 6) (.k (.bool true)) (.t 8)),
 p 3 (.mv (.t 9))])
 (.cond (.t 3) (.seq (.rg [p 2 (.mv (.k (.int .i64 0)))])
 .ret)
 (.seq (.rg [p 11 (.mv (.t 0)),
 p 12 (.bin .lss (.t 11) (.k (.int .i64 128))),
 p 10 (.mv (.t 12))])
 (.cond (.t 10) (.seq (.rg [p 2 (.mv (.k (.int .i64 1)))])
 .ret)
 (.seq (.rg [p 14 (.mv (.t 0)),
 p 15 (.bin .lss (.t 14) (.k (.int .i64 192))),
 p 13 (.mv (.t 15))])
 (.cond (.t 13) (.seq (.rg [p 2 (.mv (.k (.int .i64 2)))])
 .ret)
 .skip)))))))
 (.seq (.rg [p 2 (.mv (.k (.int .i64 3)))])
 .ret))),
 [.tmp 2]⟩
def F397 : Fnc := ⟨(.seq (.rg [p 8 (.mv (.k (.slice none 0 0))),
 p 9 (.mv (.k (.bool false)))])
 (.seq (.rg [p 12 (.bs 1 0 [.int .i64 0] []),
 p 13 (.mv (.t 0)),
 p 14 (.app 1 8 (.t 12) (.t 13)),
 p 10 (.mv (.t 14))])
 (.seq (.seq (.rg [p 15 (.mv (.t 0)),
 p 16 (.mv (.t 1)),
 p 17 (.mv (.t 2)),
 p 18 (.call 406 [(.t 15), (.t 16), (.t 17)]),
 p 19 (.not (.t 18)),
 p 20 (.mv (.t 19)),
 ⟨(some 21), .mv (.t 3), (some (20, false)), false⟩,
 ⟨(some 22), .mv (.t 2), (some (20, false)), false⟩,
 ⟨(some 23), .call 201 [(.t 22)], (some (20, false)), false⟩,
 ⟨(some 24), .bin .sub (.t 23) (.k (.int .i64 1)), (some (20, false)), false⟩,
 ⟨(some 25), .call 230 [(.t 21), (.k (.int .i64 0)), (.t 24)], (some (20, false)), false⟩,
 ⟨(some 26), .not (.t 25), (some (20, false)), false⟩,
 p 27 (.pick (.t 20) (.k (.bool true)) (.t 26))])
 (.cond (.t 27) (.seq (.rg [p 28 (.mv (.t 10)),
 p 8 (.mv (.t 28)),
 p 9 (.mv (.k (.bool false)))])
 .ret)
 .skip))
 (.seq (.seq (.rg [p 11 (.mv (.k (.int .i64 0)))])
 (.block 0 (.loop (.seq (.seq (.rg [p 29 (.mv (.t 11)),
 p 30 (.mv (.t 2)),
 p 31 (.call 183 [(.t 30)]),
 p 32 (.bin .lss (.t 29) (.t 31))])
 (.cond (.t 32) .skip
 (.exit 0)))
 (.seq (.block 1 (.seq (.rg [p 35 (.mv (.t 10)),
 p 36 (.mv (.t 1)),
 p 37 (.mv (.t 11)),
 p 38 (.bin .add (.t 36) (.t 37)),
 p 39 (.mv (.t 3)),
 p 40 (.bin .rem (.t 39) (.k (.int .i64 256))),
 p 41 (.ia 1 (.t 35) (.t 38)),
 ⟨none, .st (.t 41) (.t 40), none, false⟩])
 (.rg [p 42 (.mv (.t 3)),
 p 43 (.bin .quo (.t 42) (.k (.int .i64 256))),
 p 3 (.mv (.t 43))])))
 (.rg [p 33 (.mv (.t 11)),
 p 34 (.bin .add (.t 33) (.k (.int .i64 1))),
 p 11 (.mv (.t 34))]))))))
 (.seq (.rg [p 44 (.mv (.t 10)),
 p 8 (.mv (.t 44)),
 p 9 (.mv (.k (.bool true)))])
 .ret))))),
 [.tmp 8, .tmp 9]⟩
def F398 : Fnc := ⟨(.seq (.rg [p 6 (.mv (.k (.int .i64 0))),
 p 7 (.mv (.k (.bool false)))])
 (.seq (.seq (.rg [p 10 (.mv (.t 0)),
 p 11 (.mv (.t 1)),
 p 12 (.mv (.t 2)),
 p 13 (.call 406 [(.t 10), (.t 11), (.t 12)]),
 p 14 (.not (.t 13))])
 (.cond (.t 14) (.seq (.rg [p 6 (.mv (.k (.int .i64 0))),
 p 7 (.mv (.k (.bool false)))])
 .ret)
 .skip))
 (.seq (.rg [p 8 (.mv (.k (.int .i64 0)))])
 (.seq (.seq (.rg [p 15 (.mv (.t 2)),
 p 16 (.call 183 [(.t 15)]),
 p 17 (.bin .sub (.t 16) (.k (.int .i64 1))),
 p 9 (.mv (.t 17))])
 (.block 0 (.loop (.seq (.seq (.rg [p 18 (.mv (.t 9)),
 p 19 (.bin .geq (.t 18) (.k (.int .i64 0)))])
 (.cond (.t 19) .skip
 (.exit 0)))
 (.seq (.block 1 (.rg [p 22 (.mv (.t 8)),
 p 23 (.bin .mul (.t 22) (.k (.int .i64 256))),
 p 24 (.mv (.t 0)),
 p 25 (.mv (.t 1)),
 p 26 (.mv (.t 9)),
 p 27 (.bin .add (.t 25) (.t 26)),
 p 28 (.ia 1 (.t 24) (.t 27)),
 p 29 (.ld (.t 28)),
 p 30 (.bin .add (.t 23) (.t 29)),
 p 8 (.mv (.t 30))]))
 (.rg [p 20 (.mv (.t 9)),
 p 21 (.bin .sub (.t 20) (.k (.int .i64 1))),
 p 9 (.mv (.t 21))]))))))
 (.seq (.rg [p 31 (.mv (.t 8)),
 p 6 (.mv (.t 31)),
 p 7 (.mv (.k (.bool true)))])
 .ret))))),
 [.tmp 6, .tmp 7]⟩
def F399 : Fnc := ⟨(.seq (.rg [p 4 (.box (.t 0)),
 p 8 (.new [.slice none 0 0, .int .i64 0, .slice none 0 0]),
 p 9 (.mv (.k (.int .i64 0))),
 p 10 (.mv (.k (.bool false)))])
 (.seq (.rg [p 14 (.ldn 3 (.t 4)),
 p 15 (.call 405 [(.t 14)]),
 p 11 (.new [.slice none 0 0, .int .i64 0, .slice none 0 0]),
 ⟨none, .stn 3 (.t 11) (.t 15), none, false⟩])
 (.seq (.seq (.rg [p 16 (.ldn 3 (.t 4)),
 p 17 (.call 189 [(.t 16)]),
 p 18 (.not (.t 17)),
 p 19 (.mv (.t 18)),
 ⟨(some 20), .mv (.t 2), (some (19, false)), false⟩,
 ⟨(some 21), .bin .rem (.t 20) (.k (.int .i64 4)), (some (19, false)), false⟩,
 ⟨(some 22), .bin .neq (.t 21) (.k (.int .i64 0)), (some (19, false)), false⟩,
 p 23 (.pick (.t 19) (.k (.bool true)) (.t 22)),
 p 24 (.mv (.t 23)),
 ⟨(some 25), .mv (.t 1), (some (24, false)), false⟩,
 ⟨(some 26), .mv (.t 25), (some (24, false)), false⟩,
 ⟨(some 27), .mv (.t 3), (some (26, true)), false⟩,
 ⟨(some 28), .call 201 [(.k (.int .i64 2))], (some (26, true)), false⟩,
 ⟨(some 29), .bin .sub (.t 28) (.k (.int .i64 1)), (some (26, true)), false⟩,
 ⟨(some 30), .call 230 [(.t 27), (.k (.int .i64 0)), (.t 29)], (some (26, true)), false⟩,
 ⟨(some 31), .not (.t 30), (some (26, true)), false⟩,
 ⟨(some 32), .pick (.t 26) (.t 31) (.k (.bool false)), (some (24, false)), false⟩,
 p 33 (.pick (.t 24) (.k (.bool true)) (.t 32))])
 (.cond (.t 33) (.seq (.rg [p 34 (.ldn 3 (.t 11)),
 ⟨none, .stn 3 (.t 8) (.t 34), none, false⟩,
 p 9 (.mv (.k (.int .i64 0))),
 p 10 (.mv (.k (.bool false)))])
 .ret)
 .skip))
 (.seq (.block 0 (.seq (.rg [p 36 (.mv (.t 2)),
 p 37 (.call 230 [(.t 36), (.k (.int .i64 0)), (.k (.int .i64 12))]),
 p 38 (.mv (.t 37)),
 ⟨(some 39), .mv (.t 1), (some (38, true)), false⟩,
 p 40 (.pick (.t 38) (.t 39) (.k (.bool false))),
 p 35 (.mv (.t 40))])
 (.cond (.t 35) (.seq (.rg [p 41 (.fa 0 (.t 11)),
 p 42 (.ld (.t 41)),
 p 43 (.mv (.t 2)),
 p 44 (.bin .quo (.t 43) (.k (.int .i64 4))),
 p 45 (.mv (.t 3)),
 p 46 (.ia 1 (.t 42) (.t 44)),
 ⟨none, .st (.t 46) (.t 45), none, false⟩])
 (.seq (.rg [p 47 (.ldn 3 (.t 11)),
 p 48 (.mv (.t 3)),
 ⟨none, .stn 3 (.t 8) (.t 47), none, false⟩,
 p 9 (.mv (.t 48)),
 p 10 (.mv (.k (.bool true)))])
 .ret))
 (.seq (.rg [p 50 (.mv (.t 2)),
 p 51 (.call 230 [(.t 50), (.k (.int .i64 0)), (.k (.int .i64 12))]),
 p 49 (.mv (.t 51))])
 (.cond (.t 49) (.seq (.rg [⟨(some 52), .ldn 3 (.t 11), none, true⟩,
 ⟨(some 53), .fa 0 (.t 11), none, true⟩,
 ⟨(some 54), .ld (.t 53), none, true⟩,
 ⟨(some 55), .mv (.t 2), none, true⟩,
 ⟨(some 56), .bin .quo (.t 55) (.k (.int .i64 4)), none, true⟩,
 ⟨(some 57), .ia 1 (.t 54) (.t 56), none, true⟩,
 ⟨(some 58), .ld (.t 57), none, true⟩,
 ⟨none, .stn 3 (.t 8) (.t 52), none, true⟩,
 p 9 (.mv (.t 58)),
 p 10 (.mv (.k (.bool true)))])
 .ret)
 (.seq (.rg [p 60 (.mv (.t 2)),
 p 61 (.bin .eql (.t 60) (.k (.int .i64 16))),
 p 62 (.mv (.t 61)),
 ⟨(some 63), .mv (.t 1), (some (62, true)), false⟩,
 p 64 (.pick (.t 62) (.t 63) (.k (.bool false))),
 p 59 (.mv (.t 64))])
 (.cond (.t 59) (.seq (.rg [p 65 (.mv (.t 3)),
 p 66 (.fa 1 (.t 11)),
 ⟨none, .st (.t 66) (.t 65), none, false⟩])
 (.seq (.rg [p 67 (.ldn 3 (.t 11)),
 p 68 (.mv (.t 3)),
 ⟨none, .stn 3 (.t 8) (.t 67), none, false⟩,
 p 9 (.mv (.t 68)),
 p 10 (.mv (.k (.bool true)))])
 .ret))
 (.seq (.rg [p 70 (.mv (.t 2)),
 p 71 (.bin .eql (.t 70) (.k (.int .i64 16))),
 p 69 (.mv (.t 71))])
 (.cond (.t 69) (.seq (.rg [p 72 (.fa 1 (.t 11)),
 p 73 (.ld (.t 72)),
 p 12 (.mv (.t 73))])
 (.seq (.rg [p 74 (.mv (.t 12)),
 p 75 (.bin .add (.t 74) (.k (.int .i64 1))),
 p 76 (.call 201 [(.k (.int .i64 2))]),
 p 77 (.bin .rem (.t 75) (.t 76)),
 p 78 (.fa 1 (.t 11)),
 ⟨none, .st (.t 78) (.t 77), none, false⟩])
 (.seq (.rg [p 79 (.ldn 3 (.t 11)),
 p 80 (.mv (.t 12)),
 ⟨none, .stn 3 (.t 8) (.t 79), none, false⟩,
 p 9 (.mv (.t 80)),
 p 10 (.mv (.k (.bool true)))])
 .ret)))
 (.seq (.rg [p 82 (.mv (.t 2)),
 p 83 (.bin .eql (.t 82) (.k (.int .i64 20))),
 p 84 (.mv (.t 83)),
 ⟨(some 85), .mv (.t 1), (some (84, true)), false⟩,
 p 86 (.pick (.t 84) (.t 85) (.k (.bool false))),
 p 87 (.mv (.t 86)),
 ⟨(some 88), .fa 2 (.t 11), (some (87, true)), false⟩,
 ⟨(some 89), .ld (.t 88), (some (87, true)), false⟩,
 ⟨(some 90), .len (.t 89), (some (87, true)), false⟩,
 ⟨(some 91), .bin .lss (.t 90) (.k (.int .i64 4)), (some (87, true)), false⟩,
 p 92 (.pick (.t 87) (.t 91) (.k (.bool false))),
 p 81 (.mv (.t 92))])
 (.cond (.t 81) (.seq (.rg [p 93 (.fa 2 (.t 11)),
 p 94 (.ld (.t 93)),
 p 95 (.mv (.t 3)),
 p 96 (.bs 1 1 [.int .i64 0] [(0, (.t 95))]),
 p 97 (.app 1 8 (.t 94) (.t 96)),
 p 98 (.fa 2 (.t 11)),
 ⟨none, .st (.t 98) (.t 97), none, false⟩])
 (.seq (.rg [p 99 (.ldn 3 (.t 11)),
 p 100 (.mv (.t 3)),
 ⟨none, .stn 3 (.t 8) (.t 99), none, false⟩,
 p 9 (.mv (.t 100)),
 p 10 (.mv (.k (.bool true)))])
 .ret))
 (.seq (.rg [p 102 (.mv (.t 2)),
 p 103 (.bin .eql (.t 102) (.k (.int .i64 20))),
 p 104 (.mv (.t 103)),
 ⟨(some 105), .mv (.t 1), (some (104, true)), false⟩,
 ⟨(some 106), .not (.t 105), (some (104, true)), false⟩,
 p 107 (.pick (.t 104) (.t 106) (.k (.bool false))),
 p 108 (.mv (.t 107)),
 ⟨(some 109), .fa 2 (.t 11), (some (108, true)), false⟩,
 ⟨(some 110), .ld (.t 109), (some (108, true)), false⟩,
 ⟨(some 111), .len (.t 110), (some (108, true)), false⟩,
 ⟨(some 112), .bin .gtr (.t 111) (.k (.int .i64 0)), (some (108, true)), false⟩,
 p 113 (.pick (.t 108) (.t 112) (.k (.bool false))),
 p 101 (.mv (.t 113))])
 (.cond (.t 101) (.seq (.rg [p 114 (.fa 2 (.t 11)),
 p 115 (.ld (.t 114)),
 p 116 (.ia 1 (.t 115) (.k (.int .i64 0))),
 p 117 (.ld (.t 116)),
 p 13 (.mv (.t 117))])
 (.seq (.rg [p 118 (.fa 2 (.t 11)),
 p 119 (.ld (.t 118)),
 p 120 (.sl 1 (.t 119) (some (.k (.int .i64 1))) none none),
 p 121 (.fa 2 (.t 11)),
 ⟨none, .st (.t 121) (.t 120), none, false⟩])
 (.seq (.rg [p 122 (.ldn 3 (.t 11)),
 p 123 (.mv (.t 13)),
 ⟨none, .stn 3 (.t 8) (.t 122), none, false⟩,
 p 9 (.mv (.t 123)),
 p 10 (.mv (.k (.bool true)))])
 .ret)))
 .skip)))))))))))))
 (.seq (.rg [p 124 (.ldn 3 (.t 11)),
 ⟨none, .stn 3 (.t 8) (.t 124), none, false⟩,
 p 9 (.mv (.k (.int .i64 0))),
 p 10 (.mv (.k (.bool false)))])
 .ret))))),
 [.celln 8 3, .tmp 9, .tmp 10]⟩
def F400 : Fnc := ⟨(.seq (.rg [p 0 (.new [.slice none 0 0, .int .i64 0, .slice none 0 0])])
 (.seq (.rg [p 1 (.mk 1 8 [.int .i64 0] (.k (.int .i64 4)) (.k (.int .i64 4))),
 p 2 (.bd [.slice none 0 0, .int .i64 0, .slice none 0 0] [(0, 1, (.t 1))]),
 ⟨none, .stn 3 (.t 0) (.t 2), none, false⟩])
 .ret)),
 [.celln 0 3]⟩
def F405 : Fnc := ⟨(.seq (.rg [p 1 (.box (.t 0)),
 p 2 (.new [.slice none 0 0, .int .i64 0, .slice none 0 0])])
 (.seq (.rg [⟨(some 3), .bs 1 0 [.int .i64 0] [], none, true⟩,
 ⟨(some 4), .fa 0 (.t 1), none, true⟩,
 ⟨(some 5), .ld (.t 4), none, true⟩,
 ⟨(some 6), .app 1 8 (.t 3) (.t 5), none, true⟩,
 ⟨(some 7), .fa 1 (.t 1), none, true⟩,
 ⟨(some 8), .ld (.t 7), none, true⟩,
 ⟨(some 9), .bs 1 0 [.int .i64 0] [], none, true⟩,
 ⟨(some 10), .fa 2 (.t 1), none, true⟩,
 ⟨(some 11), .ld (.t 10), none, true⟩,
 ⟨(some 12), .app 1 8 (.t 9) (.t 11), none, true⟩,
 p 13 (.bd [.slice none 0 0, .int .i64 0, .slice none 0 0] [(0, 1, (.t 6)), (1, 1, (.t 8)), (2, 1, (.t 12))]),
 ⟨none, .stn 3 (.t 2) (.t 13), none, false⟩])
 .ret)),
 [.celln 2 3]⟩
def F406 : Fnc := ⟨(.seq (.rg [p 6 (.mv (.k (.bool false)))])
 (.seq (.rg [p 7 (.mv (.t 0)),
 p 8 (.call 238 [(.t 7)]),
 p 9 (.mv (.t 8)),
 ⟨(some 10), .mv (.t 1), (some (9, true)), false⟩,
 ⟨(some 11), .mv (.t 2), (some (9, true)), false⟩,
 ⟨(some 12), .call 172 [(.t 10), (.t 11)], (some (9, true)), false⟩,
 p 13 (.pick (.t 9) (.t 12) (.k (.bool false))),
 p 14 (.mv (.t 13)),
 ⟨(some 15), .mv (.t 1), (some (14, true)), false⟩,
 ⟨(some 16), .mv (.t 0), (some (14, true)), false⟩,
 ⟨(some 17), .len (.t 16), (some (14, true)), false⟩,
 ⟨(some 18), .mv (.t 2), (some (14, true)), false⟩,
 ⟨(some 19), .call 183 [(.t 18)], (some (14, true)), false⟩,
 ⟨(some 20), .bin .sub (.t 17) (.t 19), (some (14, true)), false⟩,
 ⟨(some 21), .bin .leq (.t 15) (.t 20), (some (14, true)), false⟩,
 p 22 (.pick (.t 14) (.t 21) (.k (.bool false))),
 p 6 (.mv (.t 22))])
 .ret)),
 [.tmp 6]⟩
end Go.Proofs.Ytdialnejieoelaa.AL
