/- Functions in the small language, printed by program. -/
import Derived.Test.YtoppcdecolponaaGreatAl0
namespace Go.Proofs.YtoppcdecolponaaGreat.AL
open Go
def F2 : Fnc := ⟨(.seq (.rg [p 2 (.mv (.k (.bool false)))])
 (.seq (.rg [p 11 (.mv (.t 0)),
 p 12 (.nilc (.t 11)),
 p 13 (.fa 7 (.t 12)),
 p 14 (.ld (.t 13)),
 p 15 (.len (.t 14)),
 p 16 (.mk 1 8 [.int .i64 0] (.t 15) (.t 15)),
 p 3 (.mv (.t 16))])
 (.seq (.seq (.rg [p 17 (.mv (.t 0)),
 p 18 (.call 13 [(.t 17)]),
 p 19 (.len (.t 18)),
 p 20 (.mv (.k (.int .i64 0)))])
 (.block 0 (.loop (.seq (.rg [p 21 (.bin .lss (.t 20) (.t 19))])
 (.seq (.cond (.t 21) .skip
 (.exit 0))
 (.seq (.block 1 (.seq (.rg [p 22 (.ia 8 (.t 18) (.t 20)),
 p 23 (.ldn 8 (.t 22)),
 p 5 (.new [.bool false, .int .i64 0, .int .i64 0, .bool false, .int .i64 0, .int .i64 0, .int .i64 0, .bool false]),
 ⟨none, .stn 8 (.t 5) (.t 23), none, false⟩])
 (.seq (.seq (.rg [⟨(some 24), .mv (.t 0), none, true⟩,
 ⟨(some 25), .nilc (.t 24), none, true⟩,
 ⟨(some 26), .fa 0 (.t 25), none, true⟩,
 ⟨(some 27), .ldn 6 (.t 26), none, true⟩,
 ⟨(some 28), .fa 1 (.t 5), none, true⟩,
 ⟨(some 29), .ld (.t 28), none, true⟩,
 p 30 (.call 91 [(.t 27), (.t 29)]),
 p 31 (.not (.t 30)),
 p 32 (.mv (.t 31)),
 ⟨(some 33), .fa 4 (.t 5), (some (32, false)), false⟩,
 ⟨(some 34), .ld (.t 33), (some (32, false)), false⟩,
 ⟨(some 35), .call 103 [(.t 34), (.k (.int .i64 1)), (.k (.int .i64 3))], (some (32, false)), false⟩,
 ⟨(some 36), .not (.t 35), (some (32, false)), false⟩,
 p 37 (.pick (.t 32) (.k (.bool true)) (.t 36)),
 p 38 (.mv (.t 37)),
 ⟨(some 39), .mv (.t 0), (some (38, false)), true⟩,
 ⟨(some 40), .nilc (.t 39), (some (38, false)), true⟩,
 ⟨(some 41), .fa 11 (.t 40), (some (38, false)), true⟩,
 ⟨(some 42), .ld (.t 41), (some (38, false)), true⟩,
 ⟨(some 43), .fa 1 (.t 5), (some (38, false)), true⟩,
 ⟨(some 44), .ld (.t 43), (some (38, false)), true⟩,
 ⟨(some 45), .ia 1 (.t 42) (.t 44), (some (38, false)), false⟩,
 ⟨(some 46), .ld (.t 45), (some (38, false)), false⟩,
 ⟨(some 47), .bin .neq (.t 46) (.k (.int .i64 0)), (some (38, false)), false⟩,
 p 48 (.pick (.t 38) (.k (.bool true)) (.t 47))])
 (.cond (.t 48) (.seq (.rg [p 2 (.mv (.k (.bool false)))])
 .ret)
 .skip))
 (.rg [p 49 (.mv (.t 3)),
 p 50 (.fa 1 (.t 5)),
 p 51 (.ld (.t 50)),
 p 52 (.ia 1 (.t 49) (.t 51)),
 p 53 (.ld (.t 52)),
 p 54 (.bin .add (.t 53) (.k (.int .i64 1))),
 p 55 (.ia 1 (.t 49) (.t 51)),
 ⟨none, .st (.t 55) (.t 54), none, false⟩]))))
 (.rg [p 56 (.bin .add (.t 20) (.k (.int .i64 1))),
 p 20 (.mv (.t 56))])))))))
 (.seq (.seq (.rg [p 57 (.mv (.t 0)),
 p 58 (.nilc (.t 57)),
 p 59 (.fa 7 (.t 58)),
 p 60 (.ld (.t 59)),
 p 61 (.len (.t 60)),
 p 62 (.mv (.k (.int .i64 0)))])
 (.block 2 (.loop (.seq (.rg [p 63 (.bin .lss (.t 62) (.t 61))])
 (.seq (.cond (.t 63) .skip
 (.exit 2))
 (.seq (.block 3 (.seq (.rg [p 64 (.mv (.t 62)),
 p 65 (.ia 6 (.t 60) (.t 62)),
 p 66 (.ldn 6 (.t 65)),
 p 7 (.new [.slice none 0 0, .int .i64 0, .int .i64 0, .int .i64 0, .bool false, .bool false]),
 p 6 (.mv (.t 64)),
 ⟨none, .stn 6 (.t 7) (.t 66), none, false⟩])
 (.seq (.rg [⟨(some 67), .fa 1 (.t 7), none, true⟩,
 ⟨(some 68), .ld (.t 67), none, true⟩,
 ⟨(some 69), .fa 2 (.t 7), none, true⟩,
 ⟨(some 70), .ld (.t 69), none, true⟩,
 ⟨(some 71), .bin .sub (.t 68) (.t 70), none, true⟩,
 ⟨(some 72), .mv (.t 3), none, true⟩,
 ⟨(some 73), .mv (.t 6), none, true⟩,
 ⟨(some 74), .ia 1 (.t 72) (.t 73), none, true⟩,
 ⟨(some 75), .ld (.t 74), none, true⟩,
 p 76 (.bin .neq (.t 71) (.t 75))])
 (.cond (.t 76) (.seq (.rg [p 2 (.mv (.k (.bool false)))])
 .ret)
 .skip))))
 (.rg [p 77 (.bin .add (.t 62) (.k (.int .i64 1))),
 p 62 (.mv (.t 77))])))))))
 (.seq (.seq (.rg [p 78 (.mv (.t 0)),
 p 79 (.nilc (.t 78)),
 p 80 (.fa 15 (.t 79)),
 p 81 (.ldn 8 (.t 80)),
 p 8 (.new [.bool false, .int .i64 0, .int .i64 0, .bool false, .int .i64 0, .int .i64 0, .int .i64 0, .bool false]),
 ⟨none, .stn 8 (.t 8) (.t 81), none, false⟩])
 (.seq (.rg [p 82 (.fa 0 (.t 8)),
 p 83 (.ld (.t 82)),
 p 84 (.mv (.t 83)),
 ⟨(some 85), .fa 2 (.t 8), (some (84, true)), true⟩,
 ⟨(some 86), .ld (.t 85), (some (84, true)), true⟩,
 ⟨(some 87), .mv (.t 0), (some (84, true)), true⟩,
 ⟨(some 88), .nilc (.t 87), (some (84, true)), true⟩,
 ⟨(some 89), .fa 7 (.t 88), (some (84, true)), true⟩,
 ⟨(some 90), .ld (.t 89), (some (84, true)), true⟩,
 ⟨(some 91), .fa 1 (.t 8), (some (84, true)), true⟩,
 ⟨(some 92), .ld (.t 91), (some (84, true)), true⟩,
 ⟨(some 93), .ia 6 (.t 90) (.t 92), (some (84, true)), true⟩,
 ⟨(some 94), .fa 1 (.t 93), (some (84, true)), true⟩,
 ⟨(some 95), .ld (.t 94), (some (84, true)), true⟩,
 ⟨(some 96), .bin .sub (.t 95) (.k (.int .i64 1)), (some (84, true)), true⟩,
 ⟨(some 97), .bin .neq (.t 86) (.t 96), (some (84, true)), false⟩,
 ⟨(some 98), .mv (.t 97), (some (84, true)), false⟩,
 ⟨(some 99), .fa 5 (.t 8), (some (98, false)), false⟩,
 ⟨(some 100), .ld (.t 99), (some (98, false)), false⟩,
 ⟨(some 101), .bin .neq (.t 100) (.k (.int .i64 0)), (some (98, false)), false⟩,
 ⟨(some 102), .pick (.t 98) (.k (.bool true)) (.t 101), (some (84, true)), false⟩,
 ⟨(some 103), .mv (.t 102), (some (84, true)), false⟩,
 ⟨(some 104), .fa 6 (.t 8), (some (103, false)), false⟩,
 ⟨(some 105), .ld (.t 104), (some (103, false)), false⟩,
 ⟨(some 106), .bin .neq (.t 105) (.k (.int .i64 0)), (some (103, false)), false⟩,
 ⟨(some 107), .pick (.t 103) (.k (.bool true)) (.t 106), (some (84, true)), false⟩,
 ⟨(some 108), .mv (.t 107), (some (84, true)), false⟩,
 ⟨(some 109), .fa 7 (.t 8), (some (108, false)), false⟩,
 ⟨(some 110), .ld (.t 109), (some (108, false)), false⟩,
 ⟨(some 111), .pick (.t 108) (.k (.bool true)) (.t 110), (some (84, true)), false⟩,
 p 112 (.pick (.t 84) (.t 111) (.k (.bool false))),
 p 113 (.mv (.t 112)),
 ⟨(some 114), .fa 0 (.t 8), (some (113, false)), false⟩,
 ⟨(some 115), .ld (.t 114), (some (113, false)), false⟩,
 ⟨(some 116), .not (.t 115), (some (113, false)), false⟩,
 ⟨(some 117), .mv (.t 116), (some (113, false)), false⟩,
 ⟨(some 118), .ldn 8 (.t 8), (some (117, true)), true⟩,
 ⟨(some 119), .bd [.bool false, .int .i64 0, .int .i64 0, .bool false, .int .i64 0, .int .i64 0, .int .i64 0, .bool false] [], (some (117, true)), true⟩,
 ⟨(some 120), .eqs true [.b, .i, .i, .b, .i, .i, .i, .b] (.t 118) (.t 119), (some (117, true)), false⟩,
 ⟨(some 121), .pick (.t 117) (.t 120) (.k (.bool false)), (some (113, false)), false⟩,
 p 122 (.pick (.t 113) (.k (.bool true)) (.t 121))])
 (.cond (.t 122) (.seq (.rg [p 2 (.mv (.k (.bool false)))])
 .ret)
 .skip)))
 (.seq (.rg [p 123 (.mv (.t 0)),
 p 124 (.nilc (.t 123)),
 p 125 (.fa 23 (.t 124)),
 p 126 (.ldn 8 (.t 125)),
 p 9 (.new [.bool false, .int .i64 0, .int .i64 0, .bool false, .int .i64 0, .int .i64 0, .int .i64 0, .bool false]),
 ⟨none, .stn 8 (.t 9) (.t 126), none, false⟩])
 (.seq (.seq (.rg [p 127 (.fa 0 (.t 9)),
 p 128 (.ld (.t 127)),
 p 129 (.not (.t 128))])
 (.cond (.t 129) (.seq (.rg [p 130 (.ldn 8 (.t 9)),
 p 131 (.bd [.bool false, .int .i64 0, .int .i64 0, .bool false, .int .i64 0, .int .i64 0, .int .i64 0, .bool false] []),
 p 132 (.eqs false [.b, .i, .i, .b, .i, .i, .i, .b] (.t 130) (.t 131)),
 p 2 (.mv (.t 132))])
 .ret)
 .skip))
 (.seq (.rg [⟨(some 133), .mv (.t 0), none, true⟩,
 ⟨(some 134), .nilc (.t 133), none, true⟩,
 ⟨(some 135), .fa 7 (.t 134), none, true⟩,
 ⟨(some 136), .ld (.t 135), none, true⟩,
 ⟨(some 137), .fa 1 (.t 9), none, true⟩,
 ⟨(some 138), .ld (.t 137), none, true⟩,
 ⟨(some 139), .ia 6 (.t 136) (.t 138), none, true⟩,
 ⟨(some 140), .ldn 6 (.t 139), none, true⟩,
 ⟨(some 10), .new [.slice none 0 0, .int .i64 0, .int .i64 0, .int .i64 0, .bool false, .bool false], none, true⟩,
 ⟨none, .stn 6 (.t 10) (.t 140), none, false⟩])
 (.seq (.block 4 (.seq (.rg [⟨(some 142), .fa 2 (.t 9), none, true⟩,
 ⟨(some 143), .ld (.t 142), none, true⟩,
 ⟨(some 144), .fa 2 (.t 10), none, true⟩,
 ⟨(some 145), .ld (.t 144), none, true⟩,
 p 146 (.bin .neq (.t 143) (.t 145)),
 p 147 (.mv (.t 146)),
 ⟨(some 148), .fa 5 (.t 9), (some (147, false)), true⟩,
 ⟨(some 149), .ld (.t 148), (some (147, false)), true⟩,
 ⟨(some 150), .mv (.t 0), (some (147, false)), true⟩,
 ⟨(some 151), .nilc (.t 150), (some (147, false)), true⟩,
 ⟨(some 152), .fa 0 (.t 151), (some (147, false)), true⟩,
 ⟨(some 153), .fa 2 (.t 152), (some (147, false)), true⟩,
 ⟨(some 154), .ld (.t 153), (some (147, false)), true⟩,
 ⟨(some 155), .bin .add (.t 154) (.k (.int .i64 2)), (some (147, false)), true⟩,
 ⟨(some 156), .call 103 [(.t 149), (.k (.int .i64 0)), (.t 155)], (some (147, false)), false⟩,
 ⟨(some 157), .not (.t 156), (some (147, false)), false⟩,
 p 158 (.pick (.t 147) (.k (.bool true)) (.t 157)),
 p 159 (.mv (.t 158)),
 ⟨(some 160), .fa 6 (.t 9), (some (159, false)), false⟩,
 ⟨(some 161), .ld (.t 160), (some (159, false)), false⟩,
 ⟨(some 162), .call 103 [(.t 161), (.k (.int .i64 0)), (.k (.int .i64 3))], (some (159, false)), false⟩,
 ⟨(some 163), .not (.t 162), (some (159, false)), false⟩,
 p 164 (.pick (.t 159) (.k (.bool true)) (.t 163)),
 p 141 (.mv (.t 164))])
 (.cond (.t 141) (.seq (.rg [p 2 (.mv (.k (.bool false)))])
 .ret)
 (.seq (.rg [p 166 (.fa 6 (.t 9)),
 p 167 (.ld (.t 166)),
 p 168 (.bin .eql (.t 167) (.k (.int .i64 2))),
 p 169 (.mv (.t 168)),
 ⟨(some 170), .fa 3 (.t 10), (some (169, true)), true⟩,
 ⟨(some 171), .ld (.t 170), (some (169, true)), true⟩,
 ⟨(some 172), .mv (.t 0), (some (169, true)), true⟩,
 ⟨(some 173), .nilc (.t 172), (some (169, true)), true⟩,
 ⟨(some 174), .fa 0 (.t 173), (some (169, true)), true⟩,
 ⟨(some 175), .fa 3 (.t 174), (some (169, true)), true⟩,
 ⟨(some 176), .ld (.t 175), (some (169, true)), true⟩,
 ⟨(some 177), .bin .geq (.t 171) (.t 176), (some (169, true)), false⟩,
 p 178 (.pick (.t 169) (.t 177) (.k (.bool false))),
 p 165 (.mv (.t 178))])
 (.cond (.t 165) (.seq (.rg [p 2 (.mv (.k (.bool false)))])
 .ret)
 (.seq (.rg [p 180 (.fa 6 (.t 9)),
 p 181 (.ld (.t 180)),
 p 182 (.bin .eql (.t 181) (.k (.int .i64 3))),
 p 183 (.mv (.t 182)),
 ⟨(some 184), .fa 4 (.t 10), (some (183, true)), false⟩,
 ⟨(some 185), .ld (.t 184), (some (183, true)), false⟩,
 ⟨(some 186), .mv (.t 185), (some (183, true)), false⟩,
 ⟨(some 187), .fa 1 (.t 9), (some (186, false)), true⟩,
 ⟨(some 188), .ld (.t 187), (some (186, false)), true⟩,
 ⟨(some 189), .mv (.t 0), (some (186, false)), true⟩,
 ⟨(some 190), .nilc (.t 189), (some (186, false)), true⟩,
 ⟨(some 191), .fa 12 (.t 190), (some (186, false)), true⟩,
 ⟨(some 192), .ld (.t 191), (some (186, false)), true⟩,
 ⟨(some 193), .bin .eql (.t 188) (.t 192), (some (186, false)), false⟩,
 ⟨(some 194), .pick (.t 186) (.k (.bool true)) (.t 193), (some (183, true)), false⟩,
 p 195 (.pick (.t 183) (.t 194) (.k (.bool false))),
 p 179 (.mv (.t 195))])
 (.cond (.t 179) (.seq (.rg [p 2 (.mv (.k (.bool false)))])
 .ret)
 .skip)))))))
 (.seq (.rg [p 196 (.fa 7 (.t 9)),
 p 197 (.ld (.t 196)),
 p 198 (.not (.t 197)),
 p 199 (.mv (.t 198)),
 ⟨(some 200), .fa 5 (.t 9), (some (199, false)), false⟩,
 ⟨(some 201), .ld (.t 200), (some (199, false)), false⟩,
 ⟨(some 202), .bin .eql (.t 201) (.k (.int .i64 0)), (some (199, false)), false⟩,
 ⟨(some 203), .mv (.t 202), (some (199, false)), false⟩,
 ⟨(some 204), .fa 6 (.t 9), (some (203, true)), false⟩,
 ⟨(some 205), .ld (.t 204), (some (203, true)), false⟩,
 ⟨(some 206), .bin .neq (.t 205) (.k (.int .i64 0)), (some (203, true)), false⟩,
 ⟨(some 207), .pick (.t 203) (.t 206) (.k (.bool false)), (some (199, false)), false⟩,
 ⟨(some 208), .mv (.t 207), (some (199, false)), false⟩,
 ⟨(some 209), .mv (.t 0), (some (208, true)), false⟩,
 ⟨(some 210), .nilc (.t 209), (some (208, true)), false⟩,
 ⟨(some 211), .fa 15 (.t 210), (some (208, true)), false⟩,
 ⟨(some 212), .fa 0 (.t 211), (some (208, true)), false⟩,
 ⟨(some 213), .ld (.t 212), (some (208, true)), false⟩,
 ⟨(some 214), .not (.t 213), (some (208, true)), false⟩,
 ⟨(some 215), .pick (.t 208) (.t 214) (.k (.bool false)), (some (199, false)), false⟩,
 p 216 (.pick (.t 199) (.k (.bool true)) (.t 215)),
 p 2 (.mv (.t 216))])
 .ret)))))))))),
 [.tmp 2]⟩
def F3 : Fnc := ⟨(.seq (.rg [p 2 (.mv (.k (.bool false)))])
 (.seq (.rg [p 6 (.mv (.t 0)),
 p 7 (.nilc (.t 6)),
 p 8 (.fa 0 (.t 7)),
 p 9 (.fa 0 (.t 8)),
 p 10 (.ld (.t 9)),
 p 11 (.len (.t 10)),
 p 3 (.mv (.t 11))])
 (.seq (.seq (.rg [p 12 (.mv (.t 0)),
 p 13 (.nilc (.t 12)),
 p 14 (.fa 7 (.t 13)),
 p 15 (.ld (.t 14)),
 p 16 (.len (.t 15)),
 p 17 (.mv (.t 3)),
 p 18 (.bin .neq (.t 16) (.t 17)),
 p 19 (.mv (.t 18)),
 ⟨(some 20), .mv (.t 0), (some (19, false)), false⟩,
 ⟨(some 21), .nilc (.t 20), (some (19, false)), false⟩,
 ⟨(some 22), .fa 10 (.t 21), (some (19, false)), false⟩,
 ⟨(some 23), .ld (.t 22), (some (19, false)), false⟩,
 ⟨(some 24), .len (.t 23), (some (19, false)), false⟩,
 ⟨(some 25), .mv (.t 3), (some (19, false)), false⟩,
 ⟨(some 26), .bin .neq (.t 24) (.t 25), (some (19, false)), false⟩,
 p 27 (.pick (.t 19) (.k (.bool true)) (.t 26)),
 p 28 (.mv (.t 27)),
 ⟨(some 29), .mv (.t 0), (some (28, false)), false⟩,
 ⟨(some 30), .nilc (.t 29), (some (28, false)), false⟩,
 ⟨(some 31), .fa 11 (.t 30), (some (28, false)), false⟩,
 ⟨(some 32), .ld (.t 31), (some (28, false)), false⟩,
 ⟨(some 33), .len (.t 32), (some (28, false)), false⟩,
 ⟨(some 34), .mv (.t 3), (some (28, false)), false⟩,
 ⟨(some 35), .bin .neq (.t 33) (.t 34), (some (28, false)), false⟩,
 p 36 (.pick (.t 28) (.k (.bool true)) (.t 35))])
 (.cond (.t 36) (.seq (.rg [p 2 (.mv (.k (.bool false)))])
 .ret)
 .skip))
 (.seq (.seq (.rg [p 37 (.mv (.t 0)),
 p 38 (.nilc (.t 37)),
 p 39 (.fa 7 (.t 38)),
 p 40 (.ld (.t 39)),
 p 41 (.len (.t 40)),
 p 42 (.mv (.k (.int .i64 0)))])
 (.block 0 (.loop (.seq (.rg [p 43 (.bin .lss (.t 42) (.t 41))])
 (.seq (.cond (.t 43) .skip
 (.exit 0))
 (.seq (.block 1 (.seq (.rg [p 44 (.mv (.t 42)),
 p 45 (.ia 6 (.t 40) (.t 42)),
 p 46 (.ldn 6 (.t 45)),
 p 5 (.new [.slice none 0 0, .int .i64 0, .int .i64 0, .int .i64 0, .bool false, .bool false]),
 p 4 (.mv (.t 44)),
 ⟨none, .stn 6 (.t 5) (.t 46), none, false⟩])
 (.seq (.rg [p 47 (.ldn 6 (.t 5)),
 p 48 (.call 88 [(.t 47)]),
 p 49 (.not (.t 48)),
 p 50 (.mv (.t 49)),
 ⟨(some 51), .fa 3 (.t 5), (some (50, false)), true⟩,
 ⟨(some 52), .ld (.t 51), (some (50, false)), true⟩,
 ⟨(some 53), .mv (.t 0), (some (50, false)), true⟩,
 ⟨(some 54), .nilc (.t 53), (some (50, false)), true⟩,
 ⟨(some 55), .fa 0 (.t 54), (some (50, false)), true⟩,
 ⟨(some 56), .fa 3 (.t 55), (some (50, false)), true⟩,
 ⟨(some 57), .ld (.t 56), (some (50, false)), true⟩,
 ⟨(some 58), .bin .gtr (.t 52) (.t 57), (some (50, false)), false⟩,
 p 59 (.pick (.t 50) (.k (.bool true)) (.t 58)),
 p 60 (.mv (.t 59)),
 ⟨(some 61), .mv (.t 0), (some (60, false)), true⟩,
 ⟨(some 62), .nilc (.t 61), (some (60, false)), true⟩,
 ⟨(some 63), .fa 10 (.t 62), (some (60, false)), true⟩,
 ⟨(some 64), .ld (.t 63), (some (60, false)), true⟩,
 ⟨(some 65), .mv (.t 4), (some (60, false)), true⟩,
 ⟨(some 66), .ia 2 (.t 64) (.t 65), (some (60, false)), true⟩,
 ⟨(some 67), .ldn 2 (.t 66), (some (60, false)), true⟩,
 ⟨(some 68), .mv (.t 0), (some (60, false)), true⟩,
 ⟨(some 69), .nilc (.t 68), (some (60, false)), true⟩,
 ⟨(some 70), .fa 0 (.t 69), (some (60, false)), true⟩,
 ⟨(some 71), .fa 0 (.t 70), (some (60, false)), true⟩,
 ⟨(some 72), .ld (.t 71), (some (60, false)), true⟩,
 ⟨(some 73), .mv (.t 4), (some (60, false)), true⟩,
 ⟨(some 74), .ia 4 (.t 72) (.t 73), (some (60, false)), true⟩,
 ⟨(some 75), .ldn 4 (.t 74), (some (60, false)), true⟩,
 ⟨(some 76), .call 26 [(.t 67), (.t 75)], (some (60, false)), false⟩,
 ⟨(some 77), .not (.t 76), (some (60, false)), false⟩,
 p 78 (.pick (.t 60) (.k (.bool true)) (.t 77)),
 p 79 (.mv (.t 78)),
 ⟨(some 80), .mv (.t 0), (some (79, false)), true⟩,
 ⟨(some 81), .nilc (.t 80), (some (79, false)), true⟩,
 ⟨(some 82), .fa 11 (.t 81), (some (79, false)), true⟩,
 ⟨(some 83), .ld (.t 82), (some (79, false)), true⟩,
 ⟨(some 84), .mv (.t 4), (some (79, false)), true⟩,
 ⟨(some 85), .ia 1 (.t 83) (.t 84), (some (79, false)), true⟩,
 ⟨(some 86), .ld (.t 85), (some (79, false)), true⟩,
 ⟨(some 87), .mv (.t 0), (some (79, false)), true⟩,
 ⟨(some 88), .nilc (.t 87), (some (79, false)), true⟩,
 ⟨(some 89), .fa 0 (.t 88), (some (79, false)), true⟩,
 ⟨(some 90), .fa 4 (.t 89), (some (79, false)), true⟩,
 ⟨(some 91), .ld (.t 90), (some (79, false)), true⟩,
 ⟨(some 92), .call 103 [(.t 86), (.k (.int .i64 0)), (.t 91)], (some (79, false)), false⟩,
 ⟨(some 93), .not (.t 92), (some (79, false)), false⟩,
 p 94 (.pick (.t 79) (.k (.bool true)) (.t 93))])
 (.cond (.t 94) (.seq (.rg [p 2 (.mv (.k (.bool false)))])
 .ret)
 .skip))))
 (.rg [p 95 (.bin .add (.t 42) (.k (.int .i64 1))),
 p 42 (.mv (.t 95))])))))))
 (.seq (.rg [p 2 (.mv (.k (.bool true)))])
 .ret))))),
 [.tmp 2]⟩
def F9 : Fnc := ⟨(.seq (.rg [p 2 (.mv (.k (.bool false)))])
 (.seq (.seq (.rg [p 5 (.mv (.t 0)),
 p 6 (.nilc (.t 5)),
 p 7 (.fa 7 (.t 6)),
 p 8 (.ld (.t 7)),
 p 9 (.len (.t 8)),
 p 10 (.mv (.k (.int .i64 0)))])
 (.block 0 (.loop (.seq (.rg [p 11 (.bin .lss (.t 10) (.t 9))])
 (.seq (.cond (.t 11) .skip
 (.exit 0))
 (.seq (.block 1 (.seq (.rg [p 12 (.mv (.t 10)),
 p 13 (.ia 6 (.t 8) (.t 10)),
 p 14 (.ldn 6 (.t 13)),
 p 4 (.new [.slice none 0 0, .int .i64 0, .int .i64 0, .int .i64 0, .bool false, .bool false]),
 p 3 (.mv (.t 12)),
 ⟨none, .stn 6 (.t 4) (.t 14), none, false⟩])
 (.seq (.rg [p 15 (.fa 1 (.t 4)),
 p 16 (.ld (.t 15)),
 p 17 (.bin .gtr (.t 16) (.k (.int .i64 0))),
 p 18 (.mv (.t 17)),
 ⟨(some 19), .ldn 6 (.t 4), (some (18, true)), false⟩,
 ⟨(some 20), .call 93 [(.t 19)], (some (18, true)), false⟩,
 p 21 (.pick (.t 18) (.t 20) (.k (.bool false))),
 p 22 (.mv (.t 21)),
 ⟨(some 23), .mv (.t 0), (some (22, true)), false⟩,
 ⟨(some 24), .nilc (.t 23), (some (22, true)), false⟩,
 ⟨(some 25), .fa 12 (.t 24), (some (22, true)), false⟩,
 ⟨(some 26), .ld (.t 25), (some (22, true)), false⟩,
 ⟨(some 27), .mv (.t 3), (some (22, true)), false⟩,
 ⟨(some 28), .bin .neq (.t 26) (.t 27), (some (22, true)), false⟩,
 p 29 (.pick (.t 22) (.t 28) (.k (.bool false)))])
 (.cond (.t 29) (.seq (.rg [p 2 (.mv (.k (.bool false)))])
 .ret)
 .skip))))
 (.rg [p 30 (.bin .add (.t 10) (.k (.int .i64 1))),
 p 10 (.mv (.t 30))])))))))
 (.seq (.seq (.rg [p 31 (.mv (.t 0)),
 p 32 (.nilc (.t 31)),
 p 33 (.fa 12 (.t 32)),
 p 34 (.ld (.t 33)),
 p 35 (.bin .eql (.t 34) (.k (.int .i64 (-1))))])
 (.cond (.t 35) (.seq (.rg [p 36 (.mv (.t 0)),
 p 37 (.nilc (.t 36)),
 p 38 (.fa 13 (.t 37)),
 p 39 (.ld (.t 38)),
 p 40 (.bin .eql (.t 39) (.k (.int .i64 0))),
 p 2 (.mv (.t 40))])
 .ret)
 .skip))
 (.seq (.rg [⟨(some 41), .mv (.t 0), none, true⟩,
 ⟨(some 42), .nilc (.t 41), none, true⟩,
 ⟨(some 43), .fa 0 (.t 42), none, true⟩,
 ⟨(some 44), .ldn 6 (.t 43), none, true⟩,
 ⟨(some 45), .mv (.t 0), none, true⟩,
 ⟨(some 46), .nilc (.t 45), none, true⟩,
 ⟨(some 47), .fa 12 (.t 46), none, true⟩,
 ⟨(some 48), .ld (.t 47), none, true⟩,
 p 49 (.call 91 [(.t 44), (.t 48)]),
 p 50 (.mv (.t 49)),
 ⟨(some 51), .mv (.t 0), (some (50, true)), true⟩,
 ⟨(some 52), .nilc (.t 51), (some (50, true)), true⟩,
 ⟨(some 53), .fa 7 (.t 52), (some (50, true)), true⟩,
 ⟨(some 54), .ld (.t 53), (some (50, true)), true⟩,
 ⟨(some 55), .mv (.t 0), (some (50, true)), true⟩,
 ⟨(some 56), .nilc (.t 55), (some (50, true)), true⟩,
 ⟨(some 57), .fa 12 (.t 56), (some (50, true)), true⟩,
 ⟨(some 58), .ld (.t 57), (some (50, true)), true⟩,
 ⟨(some 59), .ia 6 (.t 54) (.t 58), (some (50, true)), false⟩,
 ⟨(some 60), .ldn 6 (.t 59), (some (50, true)), false⟩,
 ⟨(some 61), .call 93 [(.t 60)], (some (50, true)), false⟩,
 p 62 (.pick (.t 50) (.t 61) (.k (.bool false))),
 p 63 (.mv (.t 62)),
 ⟨(some 64), .mv (.t 0), (some (63, true)), true⟩,
 ⟨(some 65), .nilc (.t 64), (some (63, true)), true⟩,
 ⟨(some 66), .fa 11 (.t 65), (some (63, true)), true⟩,
 ⟨(some 67), .ld (.t 66), (some (63, true)), true⟩,
 ⟨(some 68), .mv (.t 0), (some (63, true)), true⟩,
 ⟨(some 69), .nilc (.t 68), (some (63, true)), true⟩,
 ⟨(some 70), .fa 12 (.t 69), (some (63, true)), true⟩,
 ⟨(some 71), .ld (.t 70), (some (63, true)), true⟩,
 ⟨(some 72), .ia 1 (.t 67) (.t 71), (some (63, true)), false⟩,
 ⟨(some 73), .ld (.t 72), (some (63, true)), false⟩,
 ⟨(some 74), .bin .eql (.t 73) (.k (.int .i64 0)), (some (63, true)), false⟩,
 p 75 (.pick (.t 63) (.t 74) (.k (.bool false))),
 p 76 (.mv (.t 75)),
 ⟨(some 77), .mv (.t 0), (some (76, true)), true⟩,
 ⟨(some 78), .nilc (.t 77), (some (76, true)), true⟩,
 ⟨(some 79), .fa 13 (.t 78), (some (76, true)), true⟩,
 ⟨(some 80), .ld (.t 79), (some (76, true)), true⟩,
 ⟨(some 81), .mv (.t 0), (some (76, true)), true⟩,
 ⟨(some 82), .nilc (.t 81), (some (76, true)), true⟩,
 ⟨(some 83), .fa 0 (.t 82), (some (76, true)), true⟩,
 ⟨(some 84), .fa 5 (.t 83), (some (76, true)), true⟩,
 ⟨(some 85), .ld (.t 84), (some (76, true)), true⟩,
 ⟨(some 86), .call 103 [(.t 80), (.k (.int .i64 0)), (.t 85)], (some (76, true)), false⟩,
 p 87 (.pick (.t 76) (.t 86) (.k (.bool false))),
 p 2 (.mv (.t 87))])
 .ret)))),
 [.tmp 2]⟩
def F10 : Fnc := ⟨(.seq (.rg [p 2 (.mv (.k (.bool false)))])
 (.seq (.rg [p 3 (.mv (.t 0)),
 p 4 (.nilc (.t 3)),
 p 5 (.fa 7 (.t 4)),
 p 6 (.ld (.t 5)),
 p 7 (.call 259 [(.t 6), (.k (.func (.func 11) #[] #[]))]),
 p 8 (.not (.t 7)),
 p 2 (.mv (.t 8))])
 .ret)),
 [.tmp 2]⟩
def F11 : Fnc := ⟨(.seq (.rg [p 1 (.box (.t 0)),
 p 2 (.mv (.k (.bool false)))])
 (.seq (.rg [p 3 (.fa 0 (.t 1)),
 p 4 (.ld (.t 3)),
 p 5 (.len (.t 4)),
 p 6 (.bin .gtr (.t 5) (.k (.int .i64 0))),
 p 2 (.mv (.t 6))])
 .ret)),
 [.tmp 2]⟩
def F12 : Fnc := ⟨(.seq (.rg [p 2 (.mv (.k (.bool false)))])
 (.seq (.rg [p 3 (.mv (.k (.int .i64 (-1))))])
 (.seq (.seq (.rg [p 6 (.mv (.t 0)),
 p 7 (.nilc (.t 6)),
 p 8 (.fa 36 (.t 7)),
 p 9 (.ld (.t 8)),
 p 10 (.len (.t 9)),
 p 11 (.mv (.k (.int .i64 0)))])
 (.block 0 (.loop (.seq (.rg [p 12 (.bin .lss (.t 11) (.t 10))])
 (.seq (.cond (.t 12) .skip
 (.exit 0))
 (.seq (.block 1 (.seq (.rg [p 13 (.ia 7 (.t 9) (.t 11)),
 p 14 (.ldn 7 (.t 13)),
 p 5 (.new [.int .i64 0, .int .i64 0, .bool false, .int .i64 0, .int .i64 0, .int .i64 0, .int .i64 0]),
 ⟨none, .stn 7 (.t 5) (.t 14), none, false⟩])
 (.seq (.seq (.rg [⟨(some 15), .fa 0 (.t 5), none, true⟩,
 ⟨(some 16), .ld (.t 15), none, true⟩,
 ⟨(some 17), .mv (.t 3), none, true⟩,
 p 18 (.bin .leq (.t 16) (.t 17)),
 p 19 (.mv (.t 18)),
 ⟨(some 20), .fa 0 (.t 5), (some (19, false)), true⟩,
 ⟨(some 21), .ld (.t 20), (some (19, false)), true⟩,
 ⟨(some 22), .mv (.t 0), (some (19, false)), true⟩,
 ⟨(some 23), .nilc (.t 22), (some (19, false)), true⟩,
 ⟨(some 24), .fa 6 (.t 23), (some (19, false)), true⟩,
 ⟨(some 25), .ld (.t 24), (some (19, false)), true⟩,
 ⟨(some 26), .bin .geq (.t 21) (.t 25), (some (19, false)), false⟩,
 p 27 (.pick (.t 19) (.k (.bool true)) (.t 26)),
 p 28 (.mv (.t 27)),
 ⟨(some 29), .mv (.t 0), (some (28, false)), true⟩,
 ⟨(some 30), .nilc (.t 29), (some (28, false)), true⟩,
 ⟨(some 31), .fa 0 (.t 30), (some (28, false)), true⟩,
 ⟨(some 32), .ldn 6 (.t 31), (some (28, false)), true⟩,
 ⟨(some 33), .fa 1 (.t 5), (some (28, false)), true⟩,
 ⟨(some 34), .ld (.t 33), (some (28, false)), true⟩,
 ⟨(some 35), .call 91 [(.t 32), (.t 34)], (some (28, false)), false⟩,
 ⟨(some 36), .not (.t 35), (some (28, false)), false⟩,
 p 37 (.pick (.t 28) (.k (.bool true)) (.t 36)),
 p 38 (.mv (.t 37)),
 ⟨(some 39), .fa 3 (.t 5), (some (38, false)), true⟩,
 ⟨(some 40), .ld (.t 39), (some (38, false)), true⟩,
 ⟨(some 41), .fa 4 (.t 5), (some (38, false)), true⟩,
 ⟨(some 42), .ld (.t 41), (some (38, false)), true⟩,
 ⟨(some 43), .call 21 [(.t 40), (.t 42)], (some (38, false)), false⟩,
 ⟨(some 44), .not (.t 43), (some (38, false)), false⟩,
 p 45 (.pick (.t 38) (.k (.bool true)) (.t 44)),
 p 46 (.mv (.t 45)),
 ⟨(some 47), .fa 3 (.t 5), (some (46, false)), false⟩,
 ⟨(some 48), .ld (.t 47), (some (46, false)), false⟩,
 ⟨(some 49), .bin .geq (.t 48) (.k (.int .i64 512)), (some (46, false)), false⟩,
 p 50 (.pick (.t 46) (.k (.bool true)) (.t 49)),
 p 51 (.mv (.t 50)),
 ⟨(some 52), .fa 5 (.t 5), (some (51, false)), true⟩,
 ⟨(some 53), .ld (.t 52), (some (51, false)), true⟩,
 ⟨(some 54), .fa 4 (.t 5), (some (51, false)), true⟩,
 ⟨(some 55), .ld (.t 54), (some (51, false)), true⟩,
 ⟨(some 56), .call 92 [(.t 53), (.t 55)], (some (51, false)), false⟩,
 ⟨(some 57), .not (.t 56), (some (51, false)), false⟩,
 p 58 (.pick (.t 51) (.k (.bool true)) (.t 57)),
 p 59 (.mv (.t 58)),
 ⟨(some 60), .fa 6 (.t 5), (some (59, false)), false⟩,
 ⟨(some 61), .ld (.t 60), (some (59, false)), false⟩,
 ⟨(some 62), .bin .neq (.t 61) (.k (.int .i64 0)), (some (59, false)), false⟩,
 ⟨(some 63), .mv (.t 62), (some (59, false)), false⟩,
 ⟨(some 64), .fa 6 (.t 5), (some (63, true)), false⟩,
 ⟨(some 65), .ld (.t 64), (some (63, true)), false⟩,
 ⟨(some 66), .bin .neq (.t 65) (.k (.int .i64 1)), (some (63, true)), false⟩,
 ⟨(some 67), .pick (.t 63) (.t 66) (.k (.bool false)), (some (59, false)), false⟩,
 p 68 (.pick (.t 59) (.k (.bool true)) (.t 67))])
 (.cond (.t 68) (.seq (.rg [p 2 (.mv (.k (.bool false)))])
 .ret)
 .skip))
 (.rg [p 69 (.fa 0 (.t 5)),
 p 70 (.ld (.t 69)),
 p 3 (.mv (.t 70))]))))
 (.rg [p 71 (.bin .add (.t 11) (.k (.int .i64 1))),
 p 11 (.mv (.t 71))])))))))
 (.seq (.rg [p 2 (.mv (.k (.bool true)))])
 .ret)))),
 [.tmp 2]⟩
def F13 : Fnc := ⟨(.seq (.rg [p 2 (.mv (.k (.slice none 0 0)))])
 (.seq (.rg [⟨(some 3), .mv (.t 0), none, true⟩,
 ⟨(some 4), .nilc (.t 3), none, true⟩,
 ⟨(some 5), .fa 15 (.t 4), none, true⟩,
 ⟨(some 6), .ldn 8 (.t 5), none, true⟩,
 ⟨(some 7), .mv (.t 0), none, true⟩,
 ⟨(some 8), .nilc (.t 7), none, true⟩,
 ⟨(some 9), .fa 23 (.t 8), none, true⟩,
 ⟨(some 10), .ldn 8 (.t 9), none, true⟩,
 p 11 (.bs 8 2 [.bool false, .int .i64 0, .int .i64 0, .bool false, .int .i64 0, .int .i64 0, .int .i64 0, .bool false] [(0, (.t 6)), (1, (.t 10))]),
 p 12 (.call 261 [(.t 11), (.k (.func (.func 14) #[] #[]))]),
 p 2 (.mv (.t 12))])
 .ret)),
 [.tmp 2]⟩
def F14 : Fnc := ⟨(.seq (.rg [p 1 (.box (.t 0)),
 p 2 (.mv (.k (.bool false)))])
 (.seq (.rg [p 3 (.fa 0 (.t 1)),
 p 4 (.ld (.t 3)),
 p 5 (.not (.t 4)),
 p 2 (.mv (.t 5))])
 .ret)),
 [.tmp 2]⟩
def F18 : Fnc := ⟨(.seq (.rg [p 2 (.mv (.k (.int .i64 0)))])
 (.seq (.seq (.rg [p 3 (.mv (.t 0)),
 p 4 (.nilc (.t 3)),
 p 5 (.fa 0 (.t 4)),
 p 6 (.ld (.t 5)),
 p 7 (.len (.t 6)),
 p 8 (.bin .eql (.t 7) (.k (.int .i64 0)))])
 (.cond (.t 8) (.seq (.rg [p 2 (.mv (.k (.int .i64 0)))])
 .ret)
 .skip))
 (.seq (.rg [p 9 (.mv (.t 0)),
 p 10 (.nilc (.t 9)),
 p 11 (.fa 0 (.t 10)),
 p 12 (.ld (.t 11)),
 p 13 (.ia 6 (.t 12) (.k (.int .i64 0))),
 p 14 (.fa 3 (.t 13)),
 p 15 (.ld (.t 14)),
 p 16 (.call 22 [(.t 15)]),
 p 2 (.mv (.t 16))])
 .ret))),
 [.tmp 2]⟩
def F21 : Fnc := ⟨(.seq (.rg [p 4 (.mv (.k (.bool false)))])
 (.seq (.rg [p 5 (.mv (.t 1)),
 p 6 (.call 103 [(.t 5), (.k (.int .i64 0)), (.k (.int .i64 2))]),
 p 7 (.mv (.t 6)),
 ⟨(some 8), .mv (.t 0), (some (7, true)), false⟩,
 ⟨(some 9), .bin .geq (.t 8) (.k (.int .i64 0)), (some (7, true)), false⟩,
 p 10 (.pick (.t 7) (.t 9) (.k (.bool false))),
 p 11 (.mv (.t 10)),
 ⟨(some 12), .mv (.t 0), (some (11, true)), false⟩,
 ⟨(some 13), .mv (.t 1), (some (11, true)), false⟩,
 ⟨(some 14), .call 33 [(.t 13)], (some (11, true)), false⟩,
 ⟨(some 15), .bin .rem (.t 12) (.t 14), (some (11, true)), false⟩,
 ⟨(some 16), .bin .eql (.t 15) (.k (.int .i64 0)), (some (11, true)), false⟩,
 p 17 (.pick (.t 11) (.t 16) (.k (.bool false))),
 p 4 (.mv (.t 17))])
 .ret)),
 [.tmp 4]⟩
def F22 : Fnc := ⟨(.seq (.rg [p 2 (.mv (.k (.int .i64 0)))])
 (.seq (.seq (.rg [p 3 (.mv (.t 0)),
 p 4 (.call 103 [(.t 3), (.k (.int .i64 0)), (.k (.int .i64 3))]),
 p 5 (.not (.t 4))])
 (.cond (.t 5) (.seq (.rg [p 2 (.mv (.k (.int .i64 0)))])
 .ret)
 .skip))
 (.seq (.rg [p 6 (.bs 1 4 [.int .i64 0] [(0, (.k (.int .i64 1))), (1, (.k (.int .i64 4))), (2, (.k (.int .i64 4))), (3, (.k (.int .i64 8)))]),
 p 7 (.mv (.t 0)),
 p 8 (.ia 1 (.t 6) (.t 7)),
 p 9 (.ld (.t 8)),
 p 2 (.mv (.t 9))])
 .ret))),
 [.tmp 2]⟩
def F26 : Fnc := ⟨(.seq (.rg [p 2 (.box (.t 0)),
 p 3 (.box (.t 1)),
 p 4 (.mv (.k (.bool false)))])
 (.seq (.seq (.rg [p 5 (.fa 1 (.t 3)),
 p 6 (.ld (.t 5)),
 p 7 (.not (.t 6))])
 (.cond (.t 7) (.seq (.rg [p 8 (.ldn 2 (.t 2)),
 p 9 (.bd [.int .i64 0, .int .i64 0] []),
 p 10 (.eqs false [.i, .i] (.t 8) (.t 9)),
 p 4 (.mv (.t 10))])
 .ret)
 .skip))
 (.seq (.rg [p 11 (.fa 0 (.t 2)),
 p 12 (.ld (.t 11)),
 p 13 (.fa 3 (.t 3)),
 p 14 (.ld (.t 13)),
 p 15 (.call 103 [(.t 12), (.k (.int .i64 0)), (.t 14)]),
 p 16 (.mv (.t 15)),
 ⟨(some 17), .fa 1 (.t 2), (some (16, true)), false⟩,
 ⟨(some 18), .ld (.t 17), (some (16, true)), false⟩,
 ⟨(some 19), .bin .geq (.t 18) (.k (.int .i64 0)), (some (16, true)), false⟩,
 p 20 (.pick (.t 16) (.t 19) (.k (.bool false))),
 p 21 (.mv (.t 20)),
 ⟨(some 22), .fa 1 (.t 2), (some (21, true)), false⟩,
 ⟨(some 23), .ld (.t 22), (some (21, true)), false⟩,
 ⟨(some 24), .fa 2 (.t 3), (some (21, true)), false⟩,
 ⟨(some 25), .ld (.t 24), (some (21, true)), false⟩,
 ⟨(some 26), .bin .lss (.t 23) (.t 25), (some (21, true)), false⟩,
 p 27 (.pick (.t 21) (.t 26) (.k (.bool false))),
 p 4 (.mv (.t 27))])
 .ret))),
 [.tmp 4]⟩
def F29 : Fnc := ⟨(.seq (.rg [p 6 (.mv (.k (.slice none 0 0)))])
 (.seq (.rg [p 9 (.bs 1 0 [.int .i64 0] []),
 p 7 (.mv (.t 9))])
 (.seq (.seq (.rg [p 10 (.mv (.t 2)),
 p 11 (.call 22 [(.t 10)]),
 p 12 (.mv (.k (.int .i64 0)))])
 (.block 0 (.loop (.seq (.rg [p 13 (.bin .lss (.t 12) (.t 11))])
 (.seq (.cond (.t 13) .skip
 (.exit 0))
 (.seq (.block 1 (.seq (.rg [p 14 (.mv (.t 0)),
 p 15 (.mv (.t 1)),
 p 16 (.mv (.t 2)),
 p 17 (.call 60 [(.t 14), (.t 15), (.t 16)]),
 p 8 (.mv (.t 17))])
 (.seq (.seq (.rg [p 18 (.mv (.t 8)),
 p 19 (.bin .lss (.t 18) (.k (.int .i64 0)))])
 (.cond (.t 19) (.seq (.rg [p 6 (.mv (.k (.slice none 0 0)))])
 .ret)
 .skip))
 (.seq (.rg [p 20 (.mv (.t 7)),
 p 21 (.mv (.t 0)),
 p 22 (.bs 1 1 [.int .i64 0] [(0, (.t 21))]),
 p 23 (.app 1 8 (.t 20) (.t 22)),
 p 7 (.mv (.t 23))])
 (.rg [p 24 (.mv (.t 8)),
 p 0 (.mv (.t 24))])))))
 (.rg [p 25 (.bin .add (.t 12) (.k (.int .i64 1))),
 p 12 (.mv (.t 25))])))))))
 (.seq (.rg [p 26 (.mv (.t 7)),
 p 6 (.mv (.t 26))])
 .ret)))),
 [.tmp 6]⟩
def F30 : Fnc := ⟨(.seq (.rg [p 6 (.mv (.k (.bool false)))])
 (.seq (.rg [p 10 (.mv (.t 0)),
 p 11 (.mv (.t 1)),
 p 12 (.mv (.t 2)),
 p 13 (.call 29 [(.t 10), (.t 11), (.t 12)]),
 p 7 (.mv (.t 13))])
 (.seq (.seq (.rg [p 14 (.mv (.t 7)),
 p 15 (.len (.t 14)),
 p 16 (.mv (.k (.int .i64 0)))])
 (.block 0 (.loop (.seq (.rg [p 17 (.bin .lss (.t 16) (.t 15))])
 (.seq (.cond (.t 17) .skip
 (.exit 0))
 (.seq (.block 1 (.seq (.rg [p 18 (.ia 1 (.t 14) (.t 16)),
 p 19 (.ld (.t 18)),
 p 9 (.mv (.t 19))])
 (.seq (.rg [p 20 (.mv (.t 9)),
 p 21 (.bin .quo (.t 20) (.k (.int .i64 64))),
 p 22 (.mv (.t 7)),
 p 23 (.ia 1 (.t 22) (.k (.int .i64 0))),
 p 24 (.ld (.t 23)),
 p 25 (.bin .quo (.t 24) (.k (.int .i64 64))),
 p 26 (.bin .neq (.t 21) (.t 25))])
 (.cond (.t 26) (.seq (.rg [p 6 (.mv (.k (.bool false)))])
 .ret)
 .skip))))
 (.rg [p 27 (.bin .add (.t 16) (.k (.int .i64 1))),
 p 16 (.mv (.t 27))])))))))
 (.seq (.rg [p 28 (.mv (.t 7)),
 p 29 (.len (.t 28)),
 p 30 (.bin .gtr (.t 29) (.k (.int .i64 0))),
 p 6 (.mv (.t 30))])
 .ret)))),
 [.tmp 6]⟩
def F31 : Fnc := ⟨(.seq (.rg [p 1 (.box (.t 0)),
 p 2 (.mv (.k (.bool false)))])
 (.seq (.rg [p 3 (.fa 0 (.t 1)),
 p 4 (.ldn 6 (.t 3)),
 p 5 (.call 34 [(.t 4)]),
 p 6 (.mv (.t 5)),
 ⟨(some 7), .fa 6 (.t 1), (some (6, true)), false⟩,
 ⟨(some 8), .ld (.t 7), (some (6, true)), false⟩,
 ⟨(some 9), .call 103 [(.t 8), (.k (.int .i64 0)), (.k (.int .i64 4000))], (some (6, true)), false⟩,
 p 10 (.pick (.t 6) (.t 9) (.k (.bool false))),
 p 11 (.mv (.t 10)),
 ⟨(some 12), .call 3 [(.t 1)], (some (11, true)), false⟩,
 p 13 (.pick (.t 11) (.t 12) (.k (.bool false))),
 p 14 (.mv (.t 13)),
 ⟨(some 15), .fa 8 (.t 1), (some (14, true)), false⟩,
 ⟨(some 16), .ldn 2 (.t 15), (some (14, true)), false⟩,
 ⟨(some 17), .fa 0 (.t 1), (some (14, true)), false⟩,
 ⟨(some 18), .ldn 6 (.t 17), (some (14, true)), false⟩,
 ⟨(some 19), .call 82 [(.t 16), (.t 18)], (some (14, true)), false⟩,
 p 20 (.pick (.t 14) (.t 19) (.k (.bool false))),
 p 21 (.mv (.t 20)),
 ⟨(some 22), .fa 14 (.t 1), (some (21, true)), false⟩,
 ⟨(some 23), .ld (.t 22), (some (21, true)), false⟩,
 ⟨(some 24), .bin .eql (.t 23) (.k (.int .i64 (-1))), (some (21, true)), false⟩,
 ⟨(some 25), .mv (.t 24), (some (21, true)), false⟩,
 ⟨(some 26), .fa 0 (.t 1), (some (25, false)), false⟩,
 ⟨(some 27), .ldn 6 (.t 26), (some (25, false)), false⟩,
 ⟨(some 28), .fa 14 (.t 1), (some (25, false)), false⟩,
 ⟨(some 29), .ld (.t 28), (some (25, false)), false⟩,
 ⟨(some 30), .call 91 [(.t 27), (.t 29)], (some (25, false)), false⟩,
 ⟨(some 31), .pick (.t 25) (.k (.bool true)) (.t 30), (some (21, true)), false⟩,
 p 32 (.pick (.t 21) (.t 31) (.k (.bool false))),
 p 33 (.mv (.t 32)),
 ⟨(some 34), .fa 31 (.t 1), (some (33, true)), false⟩,
 ⟨(some 35), .ldn 4 (.t 34), (some (33, true)), false⟩,
 ⟨(some 36), .call 53 [(.t 35)], (some (33, true)), false⟩,
 p 37 (.pick (.t 33) (.t 36) (.k (.bool false))),
 p 38 (.mv (.t 37)),
 ⟨(some 39), .fa 35 (.t 1), (some (38, true)), false⟩,
 ⟨(some 40), .ld (.t 39), (some (38, true)), false⟩,
 ⟨(some 41), .fa 6 (.t 1), (some (38, true)), false⟩,
 ⟨(some 42), .ld (.t 41), (some (38, true)), false⟩,
 ⟨(some 43), .call 103 [(.t 40), (.k (.int .i64 0)), (.t 42)], (some (38, true)), false⟩,
 p 44 (.pick (.t 38) (.t 43) (.k (.bool false))),
 p 45 (.mv (.t 44)),
 ⟨(some 46), .call 2 [(.t 1)], (some (45, true)), false⟩,
 p 47 (.pick (.t 45) (.t 46) (.k (.bool false))),
 p 48 (.mv (.t 47)),
 ⟨(some 49), .call 9 [(.t 1)], (some (48, true)), false⟩,
 p 50 (.pick (.t 48) (.t 49) (.k (.bool false))),
 p 51 (.mv (.t 50)),
 ⟨(some 52), .call 12 [(.t 1)], (some (51, true)), false⟩,
 p 53 (.pick (.t 51) (.t 52) (.k (.bool false))),
 p 2 (.mv (.t 53))])
 .ret)),
 [.tmp 2]⟩
def F33 : Fnc := ⟨(.seq (.rg [p 2 (.mv (.k (.int .i64 0)))])
 (.seq (.seq (.rg [p 3 (.mv (.t 0)),
 p 4 (.call 103 [(.t 3), (.k (.int .i64 0)), (.k (.int .i64 2))]),
 p 5 (.not (.t 4))])
 (.cond (.t 5) (.seq (.rg [p 2 (.mv (.k (.int .i64 0)))])
 .ret)
 .skip))
 (.seq (.rg [p 6 (.mv (.t 0)),
 p 7 (.bin .shl (.k (.int .i64 1)) (.t 6)),
 p 2 (.mv (.t 7))])
 .ret))),
 [.tmp 2]⟩
def F34 : Fnc := ⟨(.seq (.rg [p 1 (.box (.t 0)),
 p 2 (.mv (.k (.bool false)))])
 (.seq (.seq (.rg [p 3 (.fa 0 (.t 1)),
 p 4 (.ld (.t 3)),
 p 5 (.len (.t 4)),
 p 6 (.call 103 [(.t 5), (.k (.int .i64 1)), (.k (.int .i64 4))]),
 p 7 (.not (.t 6)),
 p 8 (.mv (.t 7)),
 ⟨(some 9), .fa 1 (.t 1), (some (8, false)), false⟩,
 ⟨(some 10), .ld (.t 9), (some (8, false)), false⟩,
 ⟨(some 11), .call 103 [(.t 10), (.k (.int .i64 1)), (.k (.int .i64 4))], (some (8, false)), false⟩,
 ⟨(some 12), .not (.t 11), (some (8, false)), false⟩,
 p 13 (.pick (.t 8) (.k (.bool true)) (.t 12)),
 p 14 (.mv (.t 13)),
 ⟨(some 15), .fa 4 (.t 1), (some (14, false)), false⟩,
 ⟨(some 16), .ld (.t 15), (some (14, false)), false⟩,
 ⟨(some 17), .call 103 [(.t 16), (.k (.int .i64 1)), (.k (.int .i64 12))], (some (14, false)), false⟩,
 ⟨(some 18), .not (.t 17), (some (14, false)), false⟩,
 p 19 (.pick (.t 14) (.k (.bool true)) (.t 18)),
 p 20 (.mv (.t 19)),
 ⟨(some 21), .ldn 6 (.t 1), (some (20, false)), false⟩,
 ⟨(some 22), .call 74 [(.t 21)], (some (20, false)), false⟩,
 ⟨(some 23), .bin .eql (.t 22) (.k (.int .i64 0)), (some (20, false)), false⟩,
 p 24 (.pick (.t 20) (.k (.bool true)) (.t 23))])
 (.cond (.t 24) (.seq (.rg [p 2 (.mv (.k (.bool false)))])
 .ret)
 .skip))
 (.seq (.rg [p 25 (.fa 0 (.t 1)),
 p 26 (.ld (.t 25)),
 p 27 (.fn 35 [(.t 1)]),
 p 28 (.call 258 [(.t 26), (.t 27)]),
 p 29 (.not (.t 28)),
 p 2 (.mv (.t 29))])
 .ret))),
 [.tmp 2]⟩
def F35 : Fnc := ⟨(.seq (.rg [p 2 (.box (.t 0)),
 p 3 (.mv (.k (.bool false)))])
 (.seq (.block 0 (.seq (.rg [p 5 (.fa 0 (.t 2)),
 p 6 (.ld (.t 5)),
 p 7 (.call 103 [(.t 6), (.k (.int .i64 1)), (.k (.int .i64 4))]),
 p 8 (.not (.t 7)),
 p 4 (.mv (.t 8))])
 (.cond (.t 4) (.seq (.rg [p 3 (.mv (.k (.bool true)))])
 .ret)
 (.seq (.rg [p 10 (.fa 1 (.t 2)),
 p 11 (.ld (.t 10)),
 p 9 (.mv (.t 11))])
 (.cond (.t 9) (.seq (.rg [⟨(some 12), .fa 2 (.t 2), none, true⟩,
 ⟨(some 13), .ld (.t 12), none, true⟩,
 ⟨(some 14), .ldn 6 (.t 1), none, true⟩,
 ⟨(some 15), .call 50 [(.t 14)], none, true⟩,
 p 16 (.call 103 [(.t 13), (.t 15), (.k (.int .i64 1000))]),
 p 17 (.not (.t 16)),
 p 18 (.mv (.t 17)),
 ⟨(some 19), .fa 3 (.t 2), (some (18, false)), false⟩,
 ⟨(some 20), .ld (.t 19), (some (18, false)), false⟩,
 ⟨(some 21), .call 103 [(.t 20), (.k (.int .i64 1)), (.k (.int .i64 8))], (some (18, false)), false⟩,
 ⟨(some 22), .not (.t 21), (some (18, false)), false⟩,
 p 23 (.pick (.t 18) (.k (.bool true)) (.t 22)),
 p 3 (.mv (.t 23))])
 .ret)
 .skip)))))
 (.seq (.rg [p 24 (.fa 2 (.t 2)),
 p 25 (.ld (.t 24)),
 p 26 (.bin .neq (.t 25) (.k (.int .i64 0))),
 p 27 (.mv (.t 26)),
 ⟨(some 28), .fa 3 (.t 2), (some (27, false)), false⟩,
 ⟨(some 29), .ld (.t 28), (some (27, false)), false⟩,
 ⟨(some 30), .bin .neq (.t 29) (.k (.int .i64 0)), (some (27, false)), false⟩,
 p 31 (.pick (.t 27) (.k (.bool true)) (.t 30)),
 p 3 (.mv (.t 31))])
 .ret))),
 [.tmp 3]⟩
def F37 : Fnc := ⟨(.seq (.rg [p 1 (.box (.t 0)),
 p 2 (.mv (.k (.int .i64 0)))])
 (.seq (.seq (.rg [p 3 (.fa 3 (.t 1)),
 p 4 (.ld (.t 3)),
 p 5 (.call 103 [(.t 4), (.k (.int .i64 0)), (.k (.int .i64 3))]),
 p 6 (.not (.t 5)),
 p 7 (.mv (.t 6)),
 ⟨(some 8), .fa 2 (.t 1), (some (7, false)), false⟩,
 ⟨(some 9), .ld (.t 8), (some (7, false)), false⟩,
 ⟨(some 10), .call 103 [(.t 9), (.k (.int .i64 0)), (.k (.int .i64 3))], (some (7, false)), false⟩,
 ⟨(some 11), .not (.t 10), (some (7, false)), false⟩,
 p 12 (.pick (.t 7) (.k (.bool true)) (.t 11))])
 (.cond (.t 12) (.seq (.rg [p 2 (.mv (.k (.int .i64 0)))])
 .ret)
 .skip))
 (.seq (.rg [p 13 (.fa 3 (.t 1)),
 p 14 (.ld (.t 13)),
 p 15 (.bin .add (.t 14) (.k (.int .i64 2))),
 p 16 (.fa 2 (.t 1)),
 p 17 (.ld (.t 16)),
 p 18 (.bin .add (.t 17) (.k (.int .i64 6))),
 p 19 (.bin .mul (.t 15) (.t 18)),
 p 2 (.mv (.t 19))])
 .ret))),
 [.tmp 2]⟩
def F40 : Fnc := ⟨(.seq (.rg [p 1 (.box (.t 0)),
 p 2 (.mv (.k (.bool false)))])
 (.seq (.rg [p 3 (.mv (.k (.func (.func 41) #[] #[])))])
 (.seq (.rg [p 4 (.fa 0 (.t 1)),
 p 5 (.ld (.t 4)),
 p 6 (.len (.t 5)),
 p 7 (.bin .eql (.t 6) (.k (.int .i64 4))),
 p 8 (.mv (.t 7)),
 ⟨(some 9), .fa 2 (.t 1), (some (8, true)), false⟩,
 ⟨(some 10), .ld (.t 9), (some (8, true)), false⟩,
 ⟨(some 11), .len (.t 10), (some (8, true)), false⟩,
 ⟨(some 12), .bin .leq (.t 11) (.k (.int .i64 4)), (some (8, true)), false⟩,
 p 13 (.pick (.t 8) (.t 12) (.k (.bool false))),
 p 14 (.mv (.t 13)),
 ⟨(some 15), .fa 0 (.t 1), (some (14, true)), false⟩,
 ⟨(some 16), .ld (.t 15), (some (14, true)), false⟩,
 ⟨(some 17), .mv (.t 3), (some (14, true)), false⟩,
 ⟨(some 18), .call 257 [(.t 16), (.t 17)], (some (14, true)), false⟩,
 ⟨(some 19), .not (.t 18), (some (14, true)), false⟩,
 p 20 (.pick (.t 14) (.t 19) (.k (.bool false))),
 p 21 (.mv (.t 20)),
 ⟨(some 22), .fa 2 (.t 1), (some (21, true)), false⟩,
 ⟨(some 23), .ld (.t 22), (some (21, true)), false⟩,
 ⟨(some 24), .mv (.t 3), (some (21, true)), false⟩,
 ⟨(some 25), .call 257 [(.t 23), (.t 24)], (some (21, true)), false⟩,
 ⟨(some 26), .not (.t 25), (some (21, true)), false⟩,
 p 27 (.pick (.t 21) (.t 26) (.k (.bool false))),
 p 28 (.mv (.t 27)),
 ⟨(some 29), .fa 1 (.t 1), (some (28, true)), false⟩,
 ⟨(some 30), .ld (.t 29), (some (28, true)), false⟩,
 ⟨(some 31), .call 92 [(.t 30), (.k (.int .i64 2))], (some (28, true)), false⟩,
 p 32 (.pick (.t 28) (.t 31) (.k (.bool false))),
 p 2 (.mv (.t 32))])
 .ret))),
 [.tmp 2]⟩
def F41 : Fnc := ⟨(.seq (.rg [p 2 (.mv (.k (.bool false)))])
 (.seq (.rg [p 3 (.mv (.t 0)),
 p 4 (.call 92 [(.t 3), (.k (.int .i64 2))]),
 p 5 (.not (.t 4)),
 p 2 (.mv (.t 5))])
 .ret)),
 [.tmp 2]⟩
def F49 : Fnc := ⟨(.seq (.rg [p 1 (.box (.t 0)),
 p 2 (.mv (.k (.bool false)))])
 (.seq (.rg [p 3 (.ldn 37 (.t 1)),
 p 4 (.call 31 [(.t 3)]),
 p 5 (.mv (.t 4)),
 ⟨(some 6), .call 10 [(.t 1)], (some (5, true)), false⟩,
 p 7 (.pick (.t 5) (.t 6) (.k (.bool false))),
 p 2 (.mv (.t 7))])
 .ret)),
 [.tmp 2]⟩
def F50 : Fnc := ⟨(.seq (.rg [p 1 (.box (.t 0)),
 p 2 (.mv (.k (.int .i64 0)))])
 (.seq (.rg [⟨(some 3), .ldn 6 (.t 1), none, true⟩,
 ⟨(some 4), .call 74 [(.t 3)], none, true⟩,
 ⟨(some 5), .bin .mul (.k (.int .i64 2)) (.t 4), none, true⟩,
 ⟨(some 6), .ldn 6 (.t 1), none, true⟩,
 ⟨(some 7), .call 101 [(.t 6)], none, true⟩,
 p 8 (.bin .mul (.t 5) (.t 7)),
 p 2 (.mv (.t 8))])
 .ret)),
 [.tmp 2]⟩
def F51 : Fnc := ⟨(.seq (.rg [p 2 (.mv (.k (.int .i64 0)))])
 (.seq (.seq (.rg [p 3 (.mv (.t 0)),
 p 4 (.call 33 [(.t 3)]),
 p 5 (.bin .eql (.t 4) (.k (.int .i64 0)))])
 (.cond (.t 5) (.seq (.rg [p 2 (.mv (.k (.int .i64 0)))])
 .ret)
 .skip))
 (.seq (.rg [p 6 (.mv (.t 0)),
 p 7 (.call 33 [(.t 6)]),
 p 8 (.bin .mul (.k (.int .i64 8)) (.t 7)),
 p 9 (.bin .shl (.k (.int .i64 1)) (.t 8)),
 p 2 (.mv (.t 9))])
 .ret))),
 [.tmp 2]⟩
def F53 : Fnc := ⟨(.seq (.rg [p 1 (.box (.t 0)),
 p 2 (.mv (.k (.bool false)))])
 (.seq (.rg [p 3 (.fa 0 (.t 1)),
 p 4 (.ld (.t 3)),
 p 5 (.len (.t 4)),
 p 6 (.bin .eql (.t 5) (.k (.int .i64 192))),
 p 7 (.mv (.t 6)),
 ⟨(some 8), .fa 0 (.t 1), (some (7, true)), false⟩,
 ⟨(some 9), .ld (.t 8), (some (7, true)), false⟩,
 ⟨(some 10), .call 86 [(.t 9), (.k (.int .i64 0)), (.k (.int .i64 0))], (some (7, true)), false⟩,
 p 11 (.pick (.t 7) (.t 10) (.k (.bool false))),
 p 12 (.mv (.t 11)),
 ⟨(some 13), .fa 1 (.t 1), (some (12, true)), false⟩,
 ⟨(some 14), .ldn 3 (.t 13), (some (12, true)), false⟩,
 ⟨(some 15), .call 40 [(.t 14)], (some (12, true)), false⟩,
 p 16 (.pick (.t 12) (.t 15) (.k (.bool false))),
 p 2 (.mv (.t 16))])
 .ret)),
 [.tmp 2]⟩
def F60 : Fnc := ⟨(.seq (.rg [p 6 (.mv (.k (.int .i64 0)))])
 (.seq (.seq (.rg [p 9 (.mv (.t 0)),
 p 10 (.mv (.t 1)),
 p 11 (.call 21 [(.t 9), (.t 10)]),
 p 12 (.not (.t 11)),
 p 13 (.mv (.t 12)),
 ⟨(some 14), .mv (.t 0), (some (13, false)), false⟩,
 ⟨(some 15), .bin .geq (.t 14) (.k (.int .i64 512)), (some (13, false)), false⟩,
 p 16 (.pick (.t 13) (.k (.bool true)) (.t 15)),
 p 17 (.mv (.t 16)),
 ⟨(some 18), .mv (.t 2), (some (17, false)), false⟩,
 ⟨(some 19), .call 22 [(.t 18)], (some (17, false)), false⟩,
 ⟨(some 20), .bin .eql (.t 19) (.k (.int .i64 0)), (some (17, false)), false⟩,
 p 21 (.pick (.t 17) (.k (.bool true)) (.t 20))])
 (.cond (.t 21) (.seq (.rg [p 6 (.mv (.k (.int .i64 (-1))))])
 .ret)
 .skip))
 (.seq (.rg [p 22 (.mv (.t 0)),
 p 23 (.mv (.t 1)),
 p 24 (.call 33 [(.t 23)]),
 p 25 (.bin .add (.t 22) (.t 24)),
 p 26 (.mv (.t 1)),
 p 27 (.call 33 [(.t 26)]),
 p 28 (.bin .mul (.k (.int .i64 4)) (.t 27)),
 p 7 (.mv (.t 25)),
 p 8 (.mv (.t 28))])
 (.seq (.seq (.rg [p 29 (.mv (.t 2)),
 p 30 (.bin .eql (.t 29) (.k (.int .i64 2))),
 p 31 (.mv (.t 30)),
 ⟨(some 32), .mv (.t 7), (some (31, true)), false⟩,
 ⟨(some 33), .mv (.t 8), (some (31, true)), false⟩,
 ⟨(some 34), .bin .rem (.t 32) (.t 33), (some (31, true)), false⟩,
 ⟨(some 35), .bin .eql (.t 34) (.k (.int .i64 0)), (some (31, true)), false⟩,
 p 36 (.pick (.t 31) (.t 35) (.k (.bool false)))])
 (.cond (.t 36) (.rg [p 37 (.mv (.t 7)),
 p 38 (.mv (.t 8)),
 p 39 (.bin .sub (.t 37) (.t 38)),
 p 7 (.mv (.t 39))])
 .skip))
 (.seq (.rg [p 40 (.mv (.t 7)),
 p 6 (.mv (.t 40))])
 .ret))))),
 [.tmp 6]⟩
def F66 : Fnc := ⟨(.seq (.rg [p 1 (.box (.t 0)),
 p 2 (.mv (.k (.bool false)))])
 (.seq (.rg [p 3 (.mv (.k (.int .i64 0)))])
 (.seq (.seq (.rg [p 4 (.fa 0 (.t 1)),
 p 5 (.ld (.t 4))])
 (.cond (.t 5) (.rg [p 6 (.fa 3 (.t 1)),
 p 7 (.ld (.t 6)),
 p 8 (.call 22 [(.t 7)]),
 p 3 (.mv (.t 8))])
 .skip))
 (.seq (.rg [p 9 (.fa 1 (.t 1)),
 p 10 (.ld (.t 9)),
 p 11 (.fa 2 (.t 1)),
 p 12 (.ld (.t 11)),
 p 13 (.fa 3 (.t 1)),
 p 14 (.ld (.t 13)),
 p 15 (.call 30 [(.t 10), (.t 12), (.t 14)]),
 p 16 (.mv (.t 15)),
 ⟨(some 17), .fa 5 (.t 1), (some (16, true)), false⟩,
 ⟨(some 18), .ld (.t 17), (some (16, true)), false⟩,
 ⟨(some 19), .len (.t 18), (some (16, true)), false⟩,
 ⟨(some 20), .mv (.t 3), (some (16, true)), false⟩,
 ⟨(some 21), .bin .eql (.t 19) (.t 20), (some (16, true)), false⟩,
 p 22 (.pick (.t 16) (.t 21) (.k (.bool false))),
 p 23 (.mv (.t 22)),
 ⟨(some 24), .fa 5 (.t 1), (some (23, true)), false⟩,
 ⟨(some 25), .ld (.t 24), (some (23, true)), false⟩,
 ⟨(some 26), .fn 67 [(.t 1)], (some (23, true)), false⟩,
 ⟨(some 27), .call 257 [(.t 25), (.t 26)], (some (23, true)), false⟩,
 ⟨(some 28), .not (.t 27), (some (23, true)), false⟩,
 p 29 (.pick (.t 23) (.t 28) (.k (.bool false))),
 p 2 (.mv (.t 29))])
 .ret)))),
 [.tmp 2]⟩
def F67 : Fnc := ⟨(.seq (.rg [p 3 (.mv (.k (.bool false)))])
 (.seq (.rg [p 4 (.mv (.t 0)),
 p 5 (.fa 2 (.t 1)),
 p 6 (.ld (.t 5)),
 p 7 (.call 92 [(.t 4), (.t 6)]),
 p 8 (.not (.t 7)),
 p 3 (.mv (.t 8))])
 .ret)),
 [.tmp 3]⟩
def F74 : Fnc := ⟨(.seq (.rg [p 1 (.box (.t 0)),
 p 2 (.mv (.k (.int .i64 0)))])
 (.seq (.seq (.rg [p 3 (.ldn 6 (.t 1)),
 p 4 (.call 37 [(.t 3)]),
 p 5 (.bin .eql (.t 4) (.k (.int .i64 0))),
 p 6 (.mv (.t 5)),
 ⟨(some 7), .fa 5 (.t 1), (some (6, false)), false⟩,
 ⟨(some 8), .ld (.t 7), (some (6, false)), false⟩,
 ⟨(some 9), .call 103 [(.t 8), (.k (.int .i64 1)), (.k (.int .i64 40))], (some (6, false)), false⟩,
 ⟨(some 10), .not (.t 9), (some (6, false)), false⟩,
 p 11 (.pick (.t 6) (.k (.bool true)) (.t 10))])
 (.cond (.t 11) (.seq (.rg [p 2 (.mv (.k (.int .i64 0)))])
 .ret)
 .skip))
 (.seq (.rg [⟨(some 12), .ldn 6 (.t 1), none, true⟩,
 ⟨(some 13), .call 37 [(.t 12)], none, true⟩,
 ⟨(some 14), .bin .mul (.k (.int .i64 2)) (.t 13), none, true⟩,
 ⟨(some 15), .fa 5 (.t 1), none, true⟩,
 ⟨(some 16), .ld (.t 15), none, true⟩,
 p 17 (.bin .add (.t 14) (.t 16)),
 p 2 (.mv (.t 17))])
 .ret))),
 [.tmp 2]⟩
def F77 : Fnc := ⟨(.seq (.rg [p 2 (.box (.t 0)),
 p 4 (.mv (.k (.int .i64 0)))])
 (.seq (.seq (.rg [p 5 (.ldn 6 (.t 2)),
 p 6 (.call 34 [(.t 5)]),
 p 7 (.not (.t 6)),
 p 8 (.mv (.t 7)),
 ⟨(some 9), .ldn 6 (.t 2), (some (8, false)), false⟩,
 ⟨(some 10), .mv (.t 1), (some (8, false)), false⟩,
 ⟨(some 11), .call 91 [(.t 9), (.t 10)], (some (8, false)), false⟩,
 ⟨(some 12), .not (.t 11), (some (8, false)), false⟩,
 p 13 (.pick (.t 8) (.k (.bool true)) (.t 12))])
 (.cond (.t 13) (.seq (.rg [p 4 (.mv (.k (.int .i64 0)))])
 .ret)
 .skip))
 (.seq (.rg [⟨(some 14), .fa 0 (.t 2), none, true⟩,
 ⟨(some 15), .ld (.t 14), none, true⟩,
 ⟨(some 16), .mv (.t 1), none, true⟩,
 ⟨(some 17), .ia 4 (.t 15) (.t 16), none, true⟩,
 ⟨(some 18), .fa 0 (.t 17), none, true⟩,
 ⟨(some 19), .ld (.t 18), none, true⟩,
 ⟨(some 20), .fa 1 (.t 2), none, true⟩,
 ⟨(some 21), .ld (.t 20), none, true⟩,
 p 22 (.bin .mul (.t 19) (.t 21)),
 p 4 (.mv (.t 22))])
 .ret))),
 [.tmp 4]⟩
def F82 : Fnc := ⟨(.seq (.rg [p 2 (.box (.t 0)),
 p 3 (.box (.t 1)),
 p 4 (.mv (.k (.bool false)))])
 (.seq (.rg [p 5 (.ldn 6 (.t 3)),
 p 6 (.call 34 [(.t 5)]),
 p 7 (.mv (.t 6)),
 ⟨(some 8), .ldn 6 (.t 3), (some (7, true)), true⟩,
 ⟨(some 9), .fa 0 (.t 2), (some (7, true)), true⟩,
 ⟨(some 10), .ld (.t 9), (some (7, true)), true⟩,
 ⟨(some 11), .call 91 [(.t 8), (.t 10)], (some (7, true)), false⟩,
 p 12 (.pick (.t 7) (.t 11) (.k (.bool false))),
 p 13 (.mv (.t 12)),
 ⟨(some 14), .fa 1 (.t 2), (some (13, true)), true⟩,
 ⟨(some 15), .ld (.t 14), (some (13, true)), true⟩,
 ⟨(some 16), .ldn 6 (.t 3), (some (13, true)), true⟩,
 ⟨(some 17), .fa 0 (.t 2), (some (13, true)), true⟩,
 ⟨(some 18), .ld (.t 17), (some (13, true)), true⟩,
 ⟨(some 19), .call 77 [(.t 16), (.t 18)], (some (13, true)), true⟩,
 ⟨(some 20), .call 103 [(.t 15), (.k (.int .i64 0)), (.t 19)], (some (13, true)), false⟩,
 p 21 (.pick (.t 13) (.t 20) (.k (.bool false))),
 p 4 (.mv (.t 21))])
 .ret)),
 [.tmp 4]⟩
def F86 : Fnc := ⟨(.seq (.rg [p 6 (.mv (.k (.bool false)))])
 (.seq (.rg [p 7 (.mv (.t 0)),
 p 8 (.len (.t 7)),
 p 9 (.bin .leq (.t 8) (.k (.int .i64 512))),
 p 10 (.mv (.t 9)),
 ⟨(some 11), .mv (.t 0), (some (10, true)), false⟩,
 ⟨(some 12), .call 257 [(.t 11), (.k (.func (.func 87) #[] #[]))], (some (10, true)), false⟩,
 ⟨(some 13), .not (.t 12), (some (10, true)), false⟩,
 p 14 (.pick (.t 10) (.t 13) (.k (.bool false))),
 p 15 (.mv (.t 14)),
 ⟨(some 16), .mv (.t 1), (some (15, true)), false⟩,
 ⟨(some 17), .mv (.t 2), (some (15, true)), false⟩,
 ⟨(some 18), .call 21 [(.t 16), (.t 17)], (some (15, true)), false⟩,
 p 19 (.pick (.t 15) (.t 18) (.k (.bool false))),
 p 20 (.mv (.t 19)),
 ⟨(some 21), .mv (.t 1), (some (20, true)), false⟩,
 ⟨(some 22), .mv (.t 0), (some (20, true)), false⟩,
 ⟨(some 23), .len (.t 22), (some (20, true)), false⟩,
 ⟨(some 24), .mv (.t 2), (some (20, true)), false⟩,
 ⟨(some 25), .call 33 [(.t 24)], (some (20, true)), false⟩,
 ⟨(some 26), .bin .sub (.t 23) (.t 25), (some (20, true)), false⟩,
 ⟨(some 27), .bin .leq (.t 21) (.t 26), (some (20, true)), false⟩,
 p 28 (.pick (.t 20) (.t 27) (.k (.bool false))),
 p 6 (.mv (.t 28))])
 .ret)),
 [.tmp 6]⟩
def F87 : Fnc := ⟨(.seq (.rg [p 2 (.mv (.k (.bool false)))])
 (.seq (.rg [p 3 (.mv (.t 0)),
 p 4 (.call 103 [(.t 3), (.k (.int .i64 0)), (.k (.int .i64 255))]),
 p 5 (.not (.t 4)),
 p 2 (.mv (.t 5))])
 .ret)),
 [.tmp 2]⟩
def F88 : Fnc := ⟨(.seq (.rg [p 1 (.box (.t 0)),
 p 2 (.mv (.k (.bool false)))])
 (.seq (.seq (.rg [p 3 (.fa 0 (.t 1)),
 p 4 (.ld (.t 3)),
 p 5 (.len (.t 4)),
 p 6 (.bin .gtr (.t 5) (.k (.int .i64 4))),
 p 7 (.mv (.t 6)),
 ⟨(some 8), .fa 3 (.t 1), (some (7, false)), false⟩,
 ⟨(some 9), .ld (.t 8), (some (7, false)), false⟩,
 ⟨(some 10), .bin .lss (.t 9) (.k (.int .i64 0)), (some (7, false)), false⟩,
 p 11 (.pick (.t 7) (.k (.bool true)) (.t 10)),
 p 12 (.mv (.t 11)),
 ⟨(some 13), .fa 0 (.t 1), (some (12, false)), false⟩,
 ⟨(some 14), .ld (.t 13), (some (12, false)), false⟩,
 ⟨(some 15), .call 260 [(.t 14), (.k (.func (.func 89) #[] #[]))], (some (12, false)), false⟩,
 p 16 (.pick (.t 12) (.k (.bool true)) (.t 15))])
 (.cond (.t 16) (.seq (.rg [p 2 (.mv (.k (.bool false)))])
 .ret)
 .skip))
 (.seq (.seq (.rg [p 17 (.fa 0 (.t 1)),
 p 18 (.ld (.t 17)),
 p 19 (.len (.t 18)),
 p 20 (.bin .eql (.t 19) (.k (.int .i64 0)))])
 (.cond (.t 20) (.seq (.rg [p 21 (.fa 1 (.t 1)),
 p 22 (.ld (.t 21)),
 p 23 (.bin .eql (.t 22) (.k (.int .i64 0))),
 p 24 (.mv (.t 23)),
 ⟨(some 25), .fa 2 (.t 1), (some (24, true)), false⟩,
 ⟨(some 26), .ld (.t 25), (some (24, true)), false⟩,
 ⟨(some 27), .bin .eql (.t 26) (.k (.int .i64 0)), (some (24, true)), false⟩,
 p 28 (.pick (.t 24) (.t 27) (.k (.bool false))),
 p 29 (.mv (.t 28)),
 ⟨(some 30), .fa 3 (.t 1), (some (29, true)), false⟩,
 ⟨(some 31), .ld (.t 30), (some (29, true)), false⟩,
 ⟨(some 32), .bin .eql (.t 31) (.k (.int .i64 0)), (some (29, true)), false⟩,
 p 33 (.pick (.t 29) (.t 32) (.k (.bool false))),
 p 34 (.mv (.t 33)),
 ⟨(some 35), .fa 4 (.t 1), (some (34, true)), false⟩,
 ⟨(some 36), .ld (.t 35), (some (34, true)), false⟩,
 ⟨(some 37), .not (.t 36), (some (34, true)), false⟩,
 p 38 (.pick (.t 34) (.t 37) (.k (.bool false))),
 p 39 (.mv (.t 38)),
 ⟨(some 40), .fa 5 (.t 1), (some (39, true)), false⟩,
 ⟨(some 41), .ld (.t 40), (some (39, true)), false⟩,
 ⟨(some 42), .not (.t 41), (some (39, true)), false⟩,
 p 43 (.pick (.t 39) (.t 42) (.k (.bool false))),
 p 2 (.mv (.t 43))])
 .ret)
 .skip))
 (.seq (.rg [⟨(some 44), .fa 2 (.t 1), none, true⟩,
 ⟨(some 45), .ld (.t 44), none, true⟩,
 ⟨(some 46), .call 18 [(.t 1)], none, true⟩,
 ⟨(some 47), .bin .sub (.t 46) (.k (.int .i64 1)), none, true⟩,
 p 48 (.call 103 [(.t 45), (.k (.int .i64 0)), (.t 47)]),
 p 49 (.mv (.t 48)),
 ⟨(some 50), .fa 1 (.t 1), (some (49, true)), true⟩,
 ⟨(some 51), .ld (.t 50), (some (49, true)), true⟩,
 ⟨(some 52), .fa 2 (.t 1), (some (49, true)), true⟩,
 ⟨(some 53), .ld (.t 52), (some (49, true)), true⟩,
 ⟨(some 54), .fa 2 (.t 1), (some (49, true)), true⟩,
 ⟨(some 55), .ld (.t 54), (some (49, true)), true⟩,
 ⟨(some 56), .bin .add (.t 55) (.k (.int .i64 2)), (some (49, true)), true⟩,
 ⟨(some 57), .call 18 [(.t 1)], (some (49, true)), true⟩,
 ⟨(some 58), .mn [(.t 56), (.t 57)], (some (49, true)), true⟩,
 ⟨(some 59), .call 103 [(.t 51), (.t 53), (.t 58)], (some (49, true)), false⟩,
 p 60 (.pick (.t 49) (.t 59) (.k (.bool false))),
 p 2 (.mv (.t 60))])
 .ret)))),
 [.tmp 2]⟩
def F89 : Fnc := ⟨(.seq (.rg [p 1 (.box (.t 0)),
 p 2 (.mv (.k (.bool false)))])
 (.seq (.rg [p 3 (.ldn 6 (.t 1)),
 p 4 (.call 66 [(.t 3)]),
 p 5 (.not (.t 4)),
 p 2 (.mv (.t 5))])
 .ret)),
 [.tmp 2]⟩
def F91 : Fnc := ⟨(.seq (.rg [p 2 (.box (.t 0)),
 p 4 (.mv (.k (.bool false)))])
 (.seq (.rg [p 5 (.mv (.t 1)),
 p 6 (.fa 0 (.t 2)),
 p 7 (.ld (.t 6)),
 p 8 (.len (.t 7)),
 p 9 (.bin .sub (.t 8) (.k (.int .i64 1))),
 p 10 (.call 103 [(.t 5), (.k (.int .i64 0)), (.t 9)]),
 p 4 (.mv (.t 10))])
 .ret)),
 [.tmp 4]⟩
def F92 : Fnc := ⟨(.seq (.rg [p 4 (.mv (.k (.bool false)))])
 (.seq (.rg [p 5 (.mv (.t 0)),
 p 6 (.mv (.t 1)),
 p 7 (.call 51 [(.t 6)]),
 p 8 (.bin .sub (.t 7) (.k (.int .i64 1))),
 p 9 (.call 103 [(.t 5), (.k (.int .i64 0)), (.t 8)]),
 p 4 (.mv (.t 9))])
 .ret)),
 [.tmp 4]⟩
def F93 : Fnc := ⟨(.seq (.rg [p 1 (.box (.t 0)),
 p 2 (.mv (.k (.bool false)))])
 (.seq (.rg [p 3 (.fa 0 (.t 1)),
 p 4 (.ld (.t 3)),
 p 5 (.len (.t 4)),
 p 6 (.bin .gtr (.t 5) (.k (.int .i64 0))),
 p 7 (.mv (.t 6)),
 ⟨(some 8), .fa 0 (.t 1), (some (7, true)), false⟩,
 ⟨(some 9), .ld (.t 8), (some (7, true)), false⟩,
 ⟨(some 10), .ia 6 (.t 9) (.k (.int .i64 0)), (some (7, true)), false⟩,
 ⟨(some 11), .fa 4 (.t 10), (some (7, true)), false⟩,
 ⟨(some 12), .ld (.t 11), (some (7, true)), false⟩,
 p 13 (.pick (.t 7) (.t 12) (.k (.bool false))),
 p 14 (.mv (.t 13)),
 ⟨(some 15), .fa 5 (.t 1), (some (14, true)), false⟩,
 ⟨(some 16), .ld (.t 15), (some (14, true)), false⟩,
 ⟨(some 17), .not (.t 16), (some (14, true)), false⟩,
 p 18 (.pick (.t 14) (.t 17) (.k (.bool false))),
 p 2 (.mv (.t 18))])
 .ret)),
 [.tmp 2]⟩
def F101 : Fnc := ⟨(.seq (.rg [p 1 (.box (.t 0)),
 p 2 (.mv (.k (.int .i64 0)))])
 (.seq (.rg [p 3 (.mv (.k (.int .i64 0)))])
 (.seq (.seq (.rg [p 6 (.fa 0 (.t 1)),
 p 7 (.ld (.t 6)),
 p 8 (.len (.t 7)),
 p 9 (.mv (.k (.int .i64 0)))])
 (.block 0 (.loop (.seq (.rg [p 10 (.bin .lss (.t 9) (.t 8))])
 (.seq (.cond (.t 10) .skip
 (.exit 0))
 (.seq (.block 1 (.seq (.rg [p 11 (.ia 4 (.t 7) (.t 9)),
 p 12 (.ldn 4 (.t 11)),
 p 5 (.new [.int .i64 0, .bool false, .int .i64 0, .int .i64 0]),
 ⟨none, .stn 4 (.t 5) (.t 12), none, false⟩])
 (.seq (.rg [p 13 (.fa 1 (.t 5)),
 p 14 (.ld (.t 13))])
 (.cond (.t 14) (.rg [p 15 (.mv (.t 3)),
 p 16 (.bin .add (.t 15) (.k (.int .i64 1))),
 p 3 (.mv (.t 16))])
 .skip))))
 (.rg [p 17 (.bin .add (.t 9) (.k (.int .i64 1))),
 p 9 (.mv (.t 17))])))))))
 (.seq (.rg [p 18 (.mv (.t 3)),
 p 2 (.mv (.t 18))])
 .ret)))),
 [.tmp 2]⟩
def F103 : Fnc := ⟨(.seq (.rg [p 6 (.mv (.k (.bool false)))])
 (.seq (.rg [p 7 (.mv (.t 1)),
 p 8 (.mv (.t 0)),
 p 9 (.bin .leq (.t 7) (.t 8)),
 p 10 (.mv (.t 9)),
 ⟨(some 11), .mv (.t 0), (some (10, true)), false⟩,
 ⟨(some 12), .mv (.t 2), (some (10, true)), false⟩,
 ⟨(some 13), .bin .leq (.t 11) (.t 12), (some (10, true)), false⟩,
 p 14 (.pick (.t 10) (.t 13) (.k (.bool false))),
 p 6 (.mv (.t 14))])
 .ret)),
 [.tmp 6]⟩
def F112 : Fnc := ⟨(.seq (.rg [p 1 (.box (.t 0)),
 p 2 (.mv (.k (.bool false)))])
 (.seq (.rg [p 3 (.mv (.k (.int .i64 1048576)))])
 (.seq (.rg [p 7 (.ldn 37 (.t 1)),
 p 8 (.mv (.t 3)),
 p 9 (.call 144 [(.t 7), (.t 8)]),
 p 3 (.mv (.t 9))])
 (.seq (.seq (.rg [p 10 (.mv (.t 3)),
 p 11 (.bin .lss (.t 10) (.k (.int .i64 0)))])
 (.cond (.t 11) (.seq (.rg [p 2 (.mv (.k (.bool true)))])
 .ret)
 .skip))
 (.seq (.rg [p 12 (.ldn 37 (.t 1)),
 p 13 (.call 158 [(.t 12)]),
 p 14 (.call 199 [(.t 13)]),
 p 4 (.mv (.t 14))])
 (.seq (.rg [p 15 (.ldn 37 (.t 1)),
 p 16 (.call 158 [(.t 15)]),
 p 5 (.new [.slice none 0 0, .int .i64 0, .int .i64 0, .int .i64 0, .int .i64 0, .int .i64 0, .int .i64 0, .slice none 0 0, .int .i64 0, .int .i64 0, .slice none 0 0, .slice none 0 0, .int .i64 0, .int .i64 0, .int .i64 0, .bool false, .int .i64 0, .int .i64 0, .bool false, .int .i64 0, .int .i64 0, .int .i64 0, .bool false, .bool false, .int .i64 0, .int .i64 0, .bool false, .int .i64 0, .int .i64 0, .int .i64 0, .bool false, .slice none 0 0, .slice none 0 0, .int .i64 0, .slice none 0 0, .int .i64 0, .slice none 0 0]),
 ⟨none, .stn 37 (.t 5) (.t 16), none, false⟩])
 (.seq (.rg [p 17 (.ldn 37 (.t 5)),
 p 18 (.call 49 [(.t 17)]),
 p 6 (.mv (.t 18))])
 (.seq (.seq (.rg [p 19 (.mv (.t 6)),
 p 20 (.mv (.t 4)),
 p 21 (.eqb true (.t 19) (.t 20))])
 (.cond (.t 21) (.seq (.rg [p 2 (.mv (.k (.bool false)))])
 .ret)
 .skip))
 (.seq (.seq (.rg [⟨(some 22), .ldn 37 (.t 5), none, true⟩,
 ⟨(some 23), .ldn 37 (.t 1), none, true⟩,
 ⟨(some 24), .call 158 [(.t 23)], none, true⟩,
 p 25 (.call 127 [(.t 22), (.t 24)]),
 p 26 (.not (.t 25))])
 (.cond (.t 26) (.seq (.rg [p 2 (.mv (.k (.bool false)))])
 .ret)
 .skip))
 (.seq (.rg [p 2 (.mv (.k (.bool true)))])
 .ret)))))))))),
 [.tmp 2]⟩
def F124 : Fnc := ⟨(.seq (.rg [p 2 (.box (.t 0)),
 p 3 (.box (.t 1)),
 p 4 (.mv (.k (.bool false)))])
 (.seq (.seq (.rg [p 5 (.fa 0 (.t 2)),
 p 6 (.ld (.t 5)),
 p 7 (.fa 0 (.t 3)),
 p 8 (.ld (.t 7)),
 p 9 (.eqb true (.t 6) (.t 8))])
 (.cond (.t 9) (.seq (.rg [p 4 (.mv (.k (.bool false)))])
 .ret)
 .skip))
 (.seq (.seq (.rg [p 10 (.fa 1 (.t 2)),
 p 11 (.ld (.t 10)),
 p 12 (.fa 1 (.t 3)),
 p 13 (.ld (.t 12)),
 p 14 (.bin .neq (.t 11) (.t 13))])
 (.cond (.t 14) (.seq (.rg [p 4 (.mv (.k (.bool false)))])
 .ret)
 .skip))
 (.seq (.seq (.rg [p 15 (.fa 2 (.t 2)),
 p 16 (.ld (.t 15)),
 p 17 (.fa 2 (.t 3)),
 p 18 (.ld (.t 17)),
 p 19 (.bin .neq (.t 16) (.t 18))])
 (.cond (.t 19) (.seq (.rg [p 4 (.mv (.k (.bool false)))])
 .ret)
 .skip))
 (.seq (.seq (.rg [p 20 (.fa 3 (.t 2)),
 p 21 (.ld (.t 20)),
 p 22 (.fa 3 (.t 3)),
 p 23 (.ld (.t 22)),
 p 24 (.eqb true (.t 21) (.t 23))])
 (.cond (.t 24) (.seq (.rg [p 4 (.mv (.k (.bool false)))])
 .ret)
 .skip))
 (.seq (.seq (.rg [p 25 (.fa 4 (.t 2)),
 p 26 (.ld (.t 25)),
 p 27 (.fa 4 (.t 3)),
 p 28 (.ld (.t 27)),
 p 29 (.bin .neq (.t 26) (.t 28))])
 (.cond (.t 29) (.seq (.rg [p 4 (.mv (.k (.bool false)))])
 .ret)
 .skip))
 (.seq (.seq (.rg [p 30 (.fa 5 (.t 2)),
 p 31 (.ld (.t 30)),
 p 32 (.fa 5 (.t 3)),
 p 33 (.ld (.t 32)),
 p 34 (.bin .neq (.t 31) (.t 33))])
 (.cond (.t 34) (.seq (.rg [p 4 (.mv (.k (.bool false)))])
 .ret)
 .skip))
 (.seq (.seq (.rg [p 35 (.fa 6 (.t 2)),
 p 36 (.ld (.t 35)),
 p 37 (.fa 6 (.t 3)),
 p 38 (.ld (.t 37)),
 p 39 (.bin .neq (.t 36) (.t 38))])
 (.cond (.t 39) (.seq (.rg [p 4 (.mv (.k (.bool false)))])
 .ret)
 .skip))
 (.seq (.seq (.rg [p 40 (.fa 7 (.t 2)),
 p 41 (.ld (.t 40)),
 p 42 (.fa 7 (.t 3)),
 p 43 (.ld (.t 42)),
 p 44 (.eqb true (.t 41) (.t 43))])
 (.cond (.t 44) (.seq (.rg [p 4 (.mv (.k (.bool false)))])
 .ret)
 .skip))
 (.seq (.rg [p 4 (.mv (.k (.bool true)))])
 .ret)))))))))),
 [.tmp 4]⟩
def F125 : Fnc := ⟨(.seq (.rg [p 2 (.box (.t 0)),
 p 3 (.box (.t 1)),
 p 4 (.mv (.k (.bool false)))])
 (.seq (.seq (.rg [p 5 (.fa 0 (.t 2)),
 p 6 (.ld (.t 5)),
 p 7 (.fa 0 (.t 3)),
 p 8 (.ld (.t 7)),
 p 9 (.bin .neq (.t 6) (.t 8))])
 (.cond (.t 9) (.seq (.rg [p 4 (.mv (.k (.bool false)))])
 .ret)
 .skip))
 (.seq (.seq (.rg [p 10 (.fa 1 (.t 2)),
 p 11 (.ld (.t 10)),
 p 12 (.fa 1 (.t 3)),
 p 13 (.ld (.t 12)),
 p 14 (.bin .neq (.t 11) (.t 13))])
 (.cond (.t 14) (.seq (.rg [p 4 (.mv (.k (.bool false)))])
 .ret)
 .skip))
 (.seq (.rg [p 4 (.mv (.k (.bool true)))])
 .ret)))),
 [.tmp 4]⟩
def F126 : Fnc := ⟨(.seq (.rg [p 4 (.mv (.k (.bool false)))])
 (.seq (.seq (.rg [p 6 (.mv (.t 0)),
 p 7 (.len (.t 6)),
 p 8 (.mv (.t 1)),
 p 9 (.len (.t 8)),
 p 10 (.bin .neq (.t 7) (.t 9))])
 (.cond (.t 10) (.seq (.rg [p 4 (.mv (.k (.bool false)))])
 .ret)
 .skip))
 (.seq (.seq (.rg [p 5 (.mv (.k (.int .i64 0)))])
 (.block 0 (.loop (.seq (.seq (.rg [p 11 (.mv (.t 5)),
 p 12 (.mv (.t 0)),
 p 13 (.len (.t 12)),
 p 14 (.bin .lss (.t 11) (.t 13))])
 (.cond (.t 14) .skip
 (.exit 0)))
 (.seq (.block 1 (.seq (.rg [⟨(some 17), .mv (.t 0), none, true⟩,
 ⟨(some 18), .mv (.t 5), none, true⟩,
 ⟨(some 19), .ia 2 (.t 17) (.t 18), none, true⟩,
 ⟨(some 20), .ldn 2 (.t 19), none, true⟩,
 ⟨(some 21), .mv (.t 1), none, true⟩,
 ⟨(some 22), .mv (.t 5), none, true⟩,
 ⟨(some 23), .ia 2 (.t 21) (.t 22), none, true⟩,
 ⟨(some 24), .ldn 2 (.t 23), none, true⟩,
 p 25 (.call 125 [(.t 20), (.t 24)]),
 p 26 (.not (.t 25))])
 (.cond (.t 26) (.seq (.rg [p 4 (.mv (.k (.bool false)))])
 .ret)
 .skip)))
 (.rg [p 15 (.mv (.t 5)),
 p 16 (.bin .add (.t 15) (.k (.int .i64 1))),
 p 5 (.mv (.t 16))]))))))
 (.seq (.rg [p 4 (.mv (.k (.bool true)))])
 .ret)))),
 [.tmp 4]⟩
def F127 : Fnc := ⟨(.seq (.rg [p 2 (.box (.t 0)),
 p 3 (.box (.t 1)),
 p 4 (.mv (.k (.bool false)))])
 (.seq (.seq (.rg [p 5 (.fa 0 (.t 2)),
 p 6 (.ldn 6 (.t 5)),
 p 7 (.fa 0 (.t 3)),
 p 8 (.ldn 6 (.t 7)),
 p 9 (.call 128 [(.t 6), (.t 8)]),
 p 10 (.not (.t 9))])
 (.cond (.t 10) (.seq (.rg [p 4 (.mv (.k (.bool false)))])
 .ret)
 .skip))
 (.seq (.seq (.rg [p 11 (.fa 6 (.t 2)),
 p 12 (.ld (.t 11)),
 p 13 (.fa 6 (.t 3)),
 p 14 (.ld (.t 13)),
 p 15 (.bin .neq (.t 12) (.t 14))])
 (.cond (.t 15) (.seq (.rg [p 4 (.mv (.k (.bool false)))])
 .ret)
 .skip))
 (.seq (.seq (.rg [p 16 (.fa 7 (.t 2)),
 p 17 (.ld (.t 16)),
 p 18 (.fa 7 (.t 3)),
 p 19 (.ld (.t 18)),
 p 20 (.call 137 [(.t 17), (.t 19)]),
 p 21 (.not (.t 20))])
 (.cond (.t 21) (.seq (.rg [p 4 (.mv (.k (.bool false)))])
 .ret)
 .skip))
 (.seq (.seq (.rg [p 22 (.fa 8 (.t 2)),
 p 23 (.ldn 2 (.t 22)),
 p 24 (.fa 8 (.t 3)),
 p 25 (.ldn 2 (.t 24)),
 p 26 (.call 140 [(.t 23), (.t 25)]),
 p 27 (.not (.t 26))])
 (.cond (.t 27) (.seq (.rg [p 4 (.mv (.k (.bool false)))])
 .ret)
 .skip))
 (.seq (.seq (.rg [p 28 (.fa 10 (.t 2)),
 p 29 (.ld (.t 28)),
 p 30 (.fa 10 (.t 3)),
 p 31 (.ld (.t 30)),
 p 32 (.call 126 [(.t 29), (.t 31)]),
 p 33 (.not (.t 32))])
 (.cond (.t 33) (.seq (.rg [p 4 (.mv (.k (.bool false)))])
 .ret)
 .skip))
 (.seq (.seq (.rg [p 34 (.fa 11 (.t 2)),
 p 35 (.ld (.t 34)),
 p 36 (.fa 11 (.t 3)),
 p 37 (.ld (.t 36)),
 p 38 (.call 132 [(.t 35), (.t 37)]),
 p 39 (.not (.t 38))])
 (.cond (.t 39) (.seq (.rg [p 4 (.mv (.k (.bool false)))])
 .ret)
 .skip))
 (.seq (.seq (.rg [p 40 (.fa 12 (.t 2)),
 p 41 (.ld (.t 40)),
 p 42 (.fa 12 (.t 3)),
 p 43 (.ld (.t 42)),
 p 44 (.bin .neq (.t 41) (.t 43))])
 (.cond (.t 44) (.seq (.rg [p 4 (.mv (.k (.bool false)))])
 .ret)
 .skip))
 (.seq (.seq (.rg [p 45 (.fa 13 (.t 2)),
 p 46 (.ld (.t 45)),
 p 47 (.fa 13 (.t 3)),
 p 48 (.ld (.t 47)),
 p 49 (.bin .neq (.t 46) (.t 48))])
 (.cond (.t 49) (.seq (.rg [p 4 (.mv (.k (.bool false)))])
 .ret)
 .skip))
 (.seq (.seq (.rg [p 50 (.fa 14 (.t 2)),
 p 51 (.ld (.t 50)),
 p 52 (.fa 14 (.t 3)),
 p 53 (.ld (.t 52)),
 p 54 (.bin .neq (.t 51) (.t 53))])
 (.cond (.t 54) (.seq (.rg [p 4 (.mv (.k (.bool false)))])
 .ret)
 .skip))
 (.seq (.seq (.rg [p 55 (.fa 15 (.t 2)),
 p 56 (.ldn 8 (.t 55)),
 p 57 (.fa 15 (.t 3)),
 p 58 (.ldn 8 (.t 57)),
 p 59 (.call 124 [(.t 56), (.t 58)]),
 p 60 (.not (.t 59))])
 (.cond (.t 60) (.seq (.rg [p 4 (.mv (.k (.bool false)))])
 .ret)
 .skip))
 (.seq (.seq (.rg [p 61 (.fa 23 (.t 2)),
 p 62 (.ldn 8 (.t 61)),
 p 63 (.fa 23 (.t 3)),
 p 64 (.ldn 8 (.t 63)),
 p 65 (.call 124 [(.t 62), (.t 64)]),
 p 66 (.not (.t 65))])
 (.cond (.t 66) (.seq (.rg [p 4 (.mv (.k (.bool false)))])
 .ret)
 .skip))
 (.seq (.seq (.rg [p 67 (.fa 31 (.t 2)),
 p 68 (.ldn 4 (.t 67)),
 p 69 (.fa 31 (.t 3)),
 p 70 (.ldn 4 (.t 69)),
 p 71 (.call 135 [(.t 68), (.t 70)]),
 p 72 (.not (.t 71))])
 (.cond (.t 72) (.seq (.rg [p 4 (.mv (.k (.bool false)))])
 .ret)
 .skip))
 (.seq (.seq (.rg [p 73 (.fa 35 (.t 2)),
 p 74 (.ld (.t 73)),
 p 75 (.fa 35 (.t 3)),
 p 76 (.ld (.t 75)),
 p 77 (.bin .neq (.t 74) (.t 76))])
 (.cond (.t 77) (.seq (.rg [p 4 (.mv (.k (.bool false)))])
 .ret)
 .skip))
 (.seq (.seq (.rg [p 78 (.fa 36 (.t 2)),
 p 79 (.ld (.t 78)),
 p 80 (.fa 36 (.t 3)),
 p 81 (.ld (.t 80)),
 p 82 (.call 131 [(.t 79), (.t 81)]),
 p 83 (.not (.t 82))])
 (.cond (.t 83) (.seq (.rg [p 4 (.mv (.k (.bool false)))])
 .ret)
 .skip))
 (.seq (.rg [p 4 (.mv (.k (.bool true)))])
 .ret)))))))))))))))),
 [.tmp 4]⟩
def F128 : Fnc := ⟨(.seq (.rg [p 2 (.box (.t 0)),
 p 3 (.box (.t 1)),
 p 4 (.mv (.k (.bool false)))])
 (.seq (.seq (.rg [p 5 (.fa 0 (.t 2)),
 p 6 (.ld (.t 5)),
 p 7 (.fa 0 (.t 3)),
 p 8 (.ld (.t 7)),
 p 9 (.call 134 [(.t 6), (.t 8)]),
 p 10 (.not (.t 9))])
 (.cond (.t 10) (.seq (.rg [p 4 (.mv (.k (.bool false)))])
 .ret)
 .skip))
 (.seq (.seq (.rg [p 11 (.fa 1 (.t 2)),
 p 12 (.ld (.t 11)),
 p 13 (.fa 1 (.t 3)),
 p 14 (.ld (.t 13)),
 p 15 (.bin .neq (.t 12) (.t 14))])
 (.cond (.t 15) (.seq (.rg [p 4 (.mv (.k (.bool false)))])
 .ret)
 .skip))
 (.seq (.seq (.rg [p 16 (.fa 2 (.t 2)),
 p 17 (.ld (.t 16)),
 p 18 (.fa 2 (.t 3)),
 p 19 (.ld (.t 18)),
 p 20 (.bin .neq (.t 17) (.t 19))])
 (.cond (.t 20) (.seq (.rg [p 4 (.mv (.k (.bool false)))])
 .ret)
 .skip))
 (.seq (.seq (.rg [p 21 (.fa 3 (.t 2)),
 p 22 (.ld (.t 21)),
 p 23 (.fa 3 (.t 3)),
 p 24 (.ld (.t 23)),
 p 25 (.bin .neq (.t 22) (.t 24))])
 (.cond (.t 25) (.seq (.rg [p 4 (.mv (.k (.bool false)))])
 .ret)
 .skip))
 (.seq (.seq (.rg [p 26 (.fa 4 (.t 2)),
 p 27 (.ld (.t 26)),
 p 28 (.fa 4 (.t 3)),
 p 29 (.ld (.t 28)),
 p 30 (.bin .neq (.t 27) (.t 29))])
 (.cond (.t 30) (.seq (.rg [p 4 (.mv (.k (.bool false)))])
 .ret)
 .skip))
 (.seq (.seq (.rg [p 31 (.fa 5 (.t 2)),
 p 32 (.ld (.t 31)),
 p 33 (.fa 5 (.t 3)),
 p 34 (.ld (.t 33)),
 p 35 (.bin .neq (.t 32) (.t 34))])
 (.cond (.t 35) (.seq (.rg [p 4 (.mv (.k (.bool false)))])
 .ret)
 .skip))
 (.seq (.rg [p 4 (.mv (.k (.bool true)))])
 .ret)))))))),
 [.tmp 4]⟩
def F129 : Fnc := ⟨(.seq (.rg [p 2 (.box (.t 0)),
 p 3 (.box (.t 1)),
 p 4 (.mv (.k (.bool false)))])
 (.seq (.seq (.rg [p 5 (.fa 0 (.t 2)),
 p 6 (.ld (.t 5)),
 p 7 (.fa 0 (.t 3)),
 p 8 (.ld (.t 7)),
 p 9 (.call 132 [(.t 6), (.t 8)]),
 p 10 (.not (.t 9))])
 (.cond (.t 10) (.seq (.rg [p 4 (.mv (.k (.bool false)))])
 .ret)
 .skip))
 (.seq (.seq (.rg [p 11 (.fa 1 (.t 2)),
 p 12 (.ld (.t 11)),
 p 13 (.fa 1 (.t 3)),
 p 14 (.ld (.t 13)),
 p 15 (.bin .neq (.t 12) (.t 14))])
 (.cond (.t 15) (.seq (.rg [p 4 (.mv (.k (.bool false)))])
 .ret)
 .skip))
 (.seq (.seq (.rg [p 16 (.fa 2 (.t 2)),
 p 17 (.ld (.t 16)),
 p 18 (.fa 2 (.t 3)),
 p 19 (.ld (.t 18)),
 p 20 (.call 132 [(.t 17), (.t 19)]),
 p 21 (.not (.t 20))])
 (.cond (.t 21) (.seq (.rg [p 4 (.mv (.k (.bool false)))])
 .ret)
 .skip))
 (.seq (.rg [p 4 (.mv (.k (.bool true)))])
 .ret))))),
 [.tmp 4]⟩
def F130 : Fnc := ⟨(.seq (.rg [p 2 (.box (.t 0)),
 p 3 (.box (.t 1)),
 p 4 (.mv (.k (.bool false)))])
 (.seq (.seq (.rg [p 5 (.fa 0 (.t 2)),
 p 6 (.ld (.t 5)),
 p 7 (.fa 0 (.t 3)),
 p 8 (.ld (.t 7)),
 p 9 (.bin .neq (.t 6) (.t 8))])
 (.cond (.t 9) (.seq (.rg [p 4 (.mv (.k (.bool false)))])
 .ret)
 .skip))
 (.seq (.seq (.rg [p 10 (.fa 1 (.t 2)),
 p 11 (.ld (.t 10)),
 p 12 (.fa 1 (.t 3)),
 p 13 (.ld (.t 12)),
 p 14 (.bin .neq (.t 11) (.t 13))])
 (.cond (.t 14) (.seq (.rg [p 4 (.mv (.k (.bool false)))])
 .ret)
 .skip))
 (.seq (.seq (.rg [p 15 (.fa 2 (.t 2)),
 p 16 (.ld (.t 15)),
 p 17 (.fa 2 (.t 3)),
 p 18 (.ld (.t 17)),
 p 19 (.eqb true (.t 16) (.t 18))])
 (.cond (.t 19) (.seq (.rg [p 4 (.mv (.k (.bool false)))])
 .ret)
 .skip))
 (.seq (.seq (.rg [p 20 (.fa 3 (.t 2)),
 p 21 (.ld (.t 20)),
 p 22 (.fa 3 (.t 3)),
 p 23 (.ld (.t 22)),
 p 24 (.bin .neq (.t 21) (.t 23))])
 (.cond (.t 24) (.seq (.rg [p 4 (.mv (.k (.bool false)))])
 .ret)
 .skip))
 (.seq (.seq (.rg [p 25 (.fa 4 (.t 2)),
 p 26 (.ld (.t 25)),
 p 27 (.fa 4 (.t 3)),
 p 28 (.ld (.t 27)),
 p 29 (.bin .neq (.t 26) (.t 28))])
 (.cond (.t 29) (.seq (.rg [p 4 (.mv (.k (.bool false)))])
 .ret)
 .skip))
 (.seq (.seq (.rg [p 30 (.fa 5 (.t 2)),
 p 31 (.ld (.t 30)),
 p 32 (.fa 5 (.t 3)),
 p 33 (.ld (.t 32)),
 p 34 (.bin .neq (.t 31) (.t 33))])
 (.cond (.t 34) (.seq (.rg [p 4 (.mv (.k (.bool false)))])
 .ret)
 .skip))
 (.seq (.seq (.rg [p 35 (.fa 6 (.t 2)),
 p 36 (.ld (.t 35)),
 p 37 (.fa 6 (.t 3)),
 p 38 (.ld (.t 37)),
 p 39 (.bin .neq (.t 36) (.t 38))])
 (.cond (.t 39) (.seq (.rg [p 4 (.mv (.k (.bool false)))])
 .ret)
 .skip))
 (.seq (.rg [p 4 (.mv (.k (.bool true)))])
 .ret))))))))),
 [.tmp 4]⟩
def F131 : Fnc := ⟨(.seq (.rg [p 4 (.mv (.k (.bool false)))])
 (.seq (.seq (.rg [p 6 (.mv (.t 0)),
 p 7 (.len (.t 6)),
 p 8 (.mv (.t 1)),
 p 9 (.len (.t 8)),
 p 10 (.bin .neq (.t 7) (.t 9))])
 (.cond (.t 10) (.seq (.rg [p 4 (.mv (.k (.bool false)))])
 .ret)
 .skip))
 (.seq (.seq (.rg [p 5 (.mv (.k (.int .i64 0)))])
 (.block 0 (.loop (.seq (.seq (.rg [p 11 (.mv (.t 5)),
 p 12 (.mv (.t 0)),
 p 13 (.len (.t 12)),
 p 14 (.bin .lss (.t 11) (.t 13))])
 (.cond (.t 14) .skip
 (.exit 0)))
 (.seq (.block 1 (.seq (.rg [⟨(some 17), .mv (.t 0), none, true⟩,
 ⟨(some 18), .mv (.t 5), none, true⟩,
 ⟨(some 19), .ia 7 (.t 17) (.t 18), none, true⟩,
 ⟨(some 20), .ldn 7 (.t 19), none, true⟩,
 ⟨(some 21), .mv (.t 1), none, true⟩,
 ⟨(some 22), .mv (.t 5), none, true⟩,
 ⟨(some 23), .ia 7 (.t 21) (.t 22), none, true⟩,
 ⟨(some 24), .ldn 7 (.t 23), none, true⟩,
 p 25 (.call 130 [(.t 20), (.t 24)]),
 p 26 (.not (.t 25))])
 (.cond (.t 26) (.seq (.rg [p 4 (.mv (.k (.bool false)))])
 .ret)
 .skip)))
 (.rg [p 15 (.mv (.t 5)),
 p 16 (.bin .add (.t 15) (.k (.int .i64 1))),
 p 5 (.mv (.t 16))]))))))
 (.seq (.rg [p 4 (.mv (.k (.bool true)))])
 .ret)))),
 [.tmp 4]⟩
def F132 : Fnc := ⟨(.seq (.rg [p 4 (.mv (.k (.bool false)))])
 (.seq (.seq (.rg [p 6 (.mv (.t 0)),
 p 7 (.len (.t 6)),
 p 8 (.mv (.t 1)),
 p 9 (.len (.t 8)),
 p 10 (.bin .neq (.t 7) (.t 9))])
 (.cond (.t 10) (.seq (.rg [p 4 (.mv (.k (.bool false)))])
 .ret)
 .skip))
 (.seq (.seq (.rg [p 5 (.mv (.k (.int .i64 0)))])
 (.block 0 (.loop (.seq (.seq (.rg [p 11 (.mv (.t 5)),
 p 12 (.mv (.t 0)),
 p 13 (.len (.t 12)),
 p 14 (.bin .lss (.t 11) (.t 13))])
 (.cond (.t 14) .skip
 (.exit 0)))
 (.seq (.block 1 (.seq (.rg [⟨(some 17), .mv (.t 0), none, true⟩,
 ⟨(some 18), .mv (.t 5), none, true⟩,
 ⟨(some 19), .ia 1 (.t 17) (.t 18), none, true⟩,
 ⟨(some 20), .ld (.t 19), none, true⟩,
 ⟨(some 21), .mv (.t 1), none, true⟩,
 ⟨(some 22), .mv (.t 5), none, true⟩,
 ⟨(some 23), .ia 1 (.t 21) (.t 22), none, true⟩,
 ⟨(some 24), .ld (.t 23), none, true⟩,
 p 25 (.bin .neq (.t 20) (.t 24))])
 (.cond (.t 25) (.seq (.rg [p 4 (.mv (.k (.bool false)))])
 .ret)
 .skip)))
 (.rg [p 15 (.mv (.t 5)),
 p 16 (.bin .add (.t 15) (.k (.int .i64 1))),
 p 5 (.mv (.t 16))]))))))
 (.seq (.rg [p 4 (.mv (.k (.bool true)))])
 .ret)))),
 [.tmp 4]⟩
def F133 : Fnc := ⟨(.seq (.rg [p 2 (.box (.t 0)),
 p 3 (.box (.t 1)),
 p 4 (.mv (.k (.bool false)))])
 (.seq (.seq (.rg [p 5 (.fa 0 (.t 2)),
 p 6 (.ld (.t 5)),
 p 7 (.fa 0 (.t 3)),
 p 8 (.ld (.t 7)),
 p 9 (.bin .neq (.t 6) (.t 8))])
 (.cond (.t 9) (.seq (.rg [p 4 (.mv (.k (.bool false)))])
 .ret)
 .skip))
 (.seq (.seq (.rg [p 10 (.fa 1 (.t 2)),
 p 11 (.ld (.t 10)),
 p 12 (.fa 1 (.t 3)),
 p 13 (.ld (.t 12)),
 p 14 (.eqb true (.t 11) (.t 13))])
 (.cond (.t 14) (.seq (.rg [p 4 (.mv (.k (.bool false)))])
 .ret)
 .skip))
 (.seq (.seq (.rg [p 15 (.fa 2 (.t 2)),
 p 16 (.ld (.t 15)),
 p 17 (.fa 2 (.t 3)),
 p 18 (.ld (.t 17)),
 p 19 (.bin .neq (.t 16) (.t 18))])
 (.cond (.t 19) (.seq (.rg [p 4 (.mv (.k (.bool false)))])
 .ret)
 .skip))
 (.seq (.seq (.rg [p 20 (.fa 3 (.t 2)),
 p 21 (.ld (.t 20)),
 p 22 (.fa 3 (.t 3)),
 p 23 (.ld (.t 22)),
 p 24 (.bin .neq (.t 21) (.t 23))])
 (.cond (.t 24) (.seq (.rg [p 4 (.mv (.k (.bool false)))])
 .ret)
 .skip))
 (.seq (.rg [p 4 (.mv (.k (.bool true)))])
 .ret)))))),
 [.tmp 4]⟩
def F134 : Fnc := ⟨(.seq (.rg [p 4 (.mv (.k (.bool false)))])
 (.seq (.seq (.rg [p 6 (.mv (.t 0)),
 p 7 (.len (.t 6)),
 p 8 (.mv (.t 1)),
 p 9 (.len (.t 8)),
 p 10 (.bin .neq (.t 7) (.t 9))])
 (.cond (.t 10) (.seq (.rg [p 4 (.mv (.k (.bool false)))])
 .ret)
 .skip))
 (.seq (.seq (.rg [p 5 (.mv (.k (.int .i64 0)))])
 (.block 0 (.loop (.seq (.seq (.rg [p 11 (.mv (.t 5)),
 p 12 (.mv (.t 0)),
 p 13 (.len (.t 12)),
 p 14 (.bin .lss (.t 11) (.t 13))])
 (.cond (.t 14) .skip
 (.exit 0)))
 (.seq (.block 1 (.seq (.rg [⟨(some 17), .mv (.t 0), none, true⟩,
 ⟨(some 18), .mv (.t 5), none, true⟩,
 ⟨(some 19), .ia 4 (.t 17) (.t 18), none, true⟩,
 ⟨(some 20), .ldn 4 (.t 19), none, true⟩,
 ⟨(some 21), .mv (.t 1), none, true⟩,
 ⟨(some 22), .mv (.t 5), none, true⟩,
 ⟨(some 23), .ia 4 (.t 21) (.t 22), none, true⟩,
 ⟨(some 24), .ldn 4 (.t 23), none, true⟩,
 p 25 (.call 133 [(.t 20), (.t 24)]),
 p 26 (.not (.t 25))])
 (.cond (.t 26) (.seq (.rg [p 4 (.mv (.k (.bool false)))])
 .ret)
 .skip)))
 (.rg [p 15 (.mv (.t 5)),
 p 16 (.bin .add (.t 15) (.k (.int .i64 1))),
 p 5 (.mv (.t 16))]))))))
 (.seq (.rg [p 4 (.mv (.k (.bool true)))])
 .ret)))),
 [.tmp 4]⟩
def F135 : Fnc := ⟨(.seq (.rg [p 2 (.box (.t 0)),
 p 3 (.box (.t 1)),
 p 4 (.mv (.k (.bool false)))])
 (.seq (.seq (.rg [p 5 (.fa 0 (.t 2)),
 p 6 (.ld (.t 5)),
 p 7 (.fa 0 (.t 3)),
 p 8 (.ld (.t 7)),
 p 9 (.call 132 [(.t 6), (.t 8)]),
 p 10 (.not (.t 9))])
 (.cond (.t 10) (.seq (.rg [p 4 (.mv (.k (.bool false)))])
 .ret)
 .skip))
 (.seq (.seq (.rg [p 11 (.fa 1 (.t 2)),
 p 12 (.ldn 3 (.t 11)),
 p 13 (.fa 1 (.t 3)),
 p 14 (.ldn 3 (.t 13)),
 p 15 (.call 129 [(.t 12), (.t 14)]),
 p 16 (.not (.t 15))])
 (.cond (.t 16) (.seq (.rg [p 4 (.mv (.k (.bool false)))])
 .ret)
 .skip))
 (.seq (.rg [p 4 (.mv (.k (.bool true)))])
 .ret)))),
 [.tmp 4]⟩
def F136 : Fnc := ⟨(.seq (.rg [p 2 (.box (.t 0)),
 p 3 (.box (.t 1)),
 p 4 (.mv (.k (.bool false)))])
 (.seq (.seq (.rg [p 5 (.fa 0 (.t 2)),
 p 6 (.ld (.t 5)),
 p 7 (.fa 0 (.t 3)),
 p 8 (.ld (.t 7)),
 p 9 (.call 139 [(.t 6), (.t 8)]),
 p 10 (.not (.t 9))])
 (.cond (.t 10) (.seq (.rg [p 4 (.mv (.k (.bool false)))])
 .ret)
 .skip))
 (.seq (.seq (.rg [p 11 (.fa 1 (.t 2)),
 p 12 (.ld (.t 11)),
 p 13 (.fa 1 (.t 3)),
 p 14 (.ld (.t 13)),
 p 15 (.bin .neq (.t 12) (.t 14))])
 (.cond (.t 15) (.seq (.rg [p 4 (.mv (.k (.bool false)))])
 .ret)
 .skip))
 (.seq (.seq (.rg [p 16 (.fa 2 (.t 2)),
 p 17 (.ld (.t 16)),
 p 18 (.fa 2 (.t 3)),
 p 19 (.ld (.t 18)),
 p 20 (.bin .neq (.t 17) (.t 19))])
 (.cond (.t 20) (.seq (.rg [p 4 (.mv (.k (.bool false)))])
 .ret)
 .skip))
 (.seq (.seq (.rg [p 21 (.fa 3 (.t 2)),
 p 22 (.ld (.t 21)),
 p 23 (.fa 3 (.t 3)),
 p 24 (.ld (.t 23)),
 p 25 (.bin .neq (.t 22) (.t 24))])
 (.cond (.t 25) (.seq (.rg [p 4 (.mv (.k (.bool false)))])
 .ret)
 .skip))
 (.seq (.seq (.rg [p 26 (.fa 4 (.t 2)),
 p 27 (.ld (.t 26)),
 p 28 (.fa 4 (.t 3)),
 p 29 (.ld (.t 28)),
 p 30 (.eqb true (.t 27) (.t 29))])
 (.cond (.t 30) (.seq (.rg [p 4 (.mv (.k (.bool false)))])
 .ret)
 .skip))
 (.seq (.seq (.rg [p 31 (.fa 5 (.t 2)),
 p 32 (.ld (.t 31)),
 p 33 (.fa 5 (.t 3)),
 p 34 (.ld (.t 33)),
 p 35 (.eqb true (.t 32) (.t 34))])
 (.cond (.t 35) (.seq (.rg [p 4 (.mv (.k (.bool false)))])
 .ret)
 .skip))
 (.seq (.rg [p 4 (.mv (.k (.bool true)))])
 .ret)))))))),
 [.tmp 4]⟩
def F137 : Fnc := ⟨(.seq (.rg [p 4 (.mv (.k (.bool false)))])
 (.seq (.seq (.rg [p 6 (.mv (.t 0)),
 p 7 (.len (.t 6)),
 p 8 (.mv (.t 1)),
 p 9 (.len (.t 8)),
 p 10 (.bin .neq (.t 7) (.t 9))])
 (.cond (.t 10) (.seq (.rg [p 4 (.mv (.k (.bool false)))])
 .ret)
 .skip))
 (.seq (.seq (.rg [p 5 (.mv (.k (.int .i64 0)))])
 (.block 0 (.loop (.seq (.seq (.rg [p 11 (.mv (.t 5)),
 p 12 (.mv (.t 0)),
 p 13 (.len (.t 12)),
 p 14 (.bin .lss (.t 11) (.t 13))])
 (.cond (.t 14) .skip
 (.exit 0)))
 (.seq (.block 1 (.seq (.rg [⟨(some 17), .mv (.t 0), none, true⟩,
 ⟨(some 18), .mv (.t 5), none, true⟩,
 ⟨(some 19), .ia 6 (.t 17) (.t 18), none, true⟩,
 ⟨(some 20), .ldn 6 (.t 19), none, true⟩,
 ⟨(some 21), .mv (.t 1), none, true⟩,
 ⟨(some 22), .mv (.t 5), none, true⟩,
 ⟨(some 23), .ia 6 (.t 21) (.t 22), none, true⟩,
 ⟨(some 24), .ldn 6 (.t 23), none, true⟩,
 p 25 (.call 136 [(.t 20), (.t 24)]),
 p 26 (.not (.t 25))])
 (.cond (.t 26) (.seq (.rg [p 4 (.mv (.k (.bool false)))])
 .ret)
 .skip)))
 (.rg [p 15 (.mv (.t 5)),
 p 16 (.bin .add (.t 15) (.k (.int .i64 1))),
 p 5 (.mv (.t 16))]))))))
 (.seq (.rg [p 4 (.mv (.k (.bool true)))])
 .ret)))),
 [.tmp 4]⟩
def F138 : Fnc := ⟨(.seq (.rg [p 2 (.box (.t 0)),
 p 3 (.box (.t 1)),
 p 4 (.mv (.k (.bool false)))])
 (.seq (.seq (.rg [p 5 (.fa 0 (.t 2)),
 p 6 (.ld (.t 5)),
 p 7 (.fa 0 (.t 3)),
 p 8 (.ld (.t 7)),
 p 9 (.eqb true (.t 6) (.t 8))])
 (.cond (.t 9) (.seq (.rg [p 4 (.mv (.k (.bool false)))])
 .ret)
 .skip))
 (.seq (.seq (.rg [p 10 (.fa 1 (.t 2)),
 p 11 (.ld (.t 10)),
 p 12 (.fa 1 (.t 3)),
 p 13 (.ld (.t 12)),
 p 14 (.bin .neq (.t 11) (.t 13))])
 (.cond (.t 14) (.seq (.rg [p 4 (.mv (.k (.bool false)))])
 .ret)
 .skip))
 (.seq (.seq (.rg [p 15 (.fa 2 (.t 2)),
 p 16 (.ld (.t 15)),
 p 17 (.fa 2 (.t 3)),
 p 18 (.ld (.t 17)),
 p 19 (.bin .neq (.t 16) (.t 18))])
 (.cond (.t 19) (.seq (.rg [p 4 (.mv (.k (.bool false)))])
 .ret)
 .skip))
 (.seq (.seq (.rg [p 20 (.fa 3 (.t 2)),
 p 21 (.ld (.t 20)),
 p 22 (.fa 3 (.t 3)),
 p 23 (.ld (.t 22)),
 p 24 (.bin .neq (.t 21) (.t 23))])
 (.cond (.t 24) (.seq (.rg [p 4 (.mv (.k (.bool false)))])
 .ret)
 .skip))
 (.seq (.seq (.rg [p 25 (.fa 4 (.t 2)),
 p 26 (.ld (.t 25)),
 p 27 (.fa 4 (.t 3)),
 p 28 (.ld (.t 27)),
 p 29 (.eqb true (.t 26) (.t 28))])
 (.cond (.t 29) (.seq (.rg [p 4 (.mv (.k (.bool false)))])
 .ret)
 .skip))
 (.seq (.seq (.rg [p 30 (.fa 5 (.t 2)),
 p 31 (.ld (.t 30)),
 p 32 (.fa 5 (.t 3)),
 p 33 (.ld (.t 32)),
 p 34 (.call 132 [(.t 31), (.t 33)]),
 p 35 (.not (.t 34))])
 (.cond (.t 35) (.seq (.rg [p 4 (.mv (.k (.bool false)))])
 .ret)
 .skip))
 (.seq (.rg [p 4 (.mv (.k (.bool true)))])
 .ret)))))))),
 [.tmp 4]⟩
def F139 : Fnc := ⟨(.seq (.rg [p 4 (.mv (.k (.bool false)))])
 (.seq (.seq (.rg [p 6 (.mv (.t 0)),
 p 7 (.len (.t 6)),
 p 8 (.mv (.t 1)),
 p 9 (.len (.t 8)),
 p 10 (.bin .neq (.t 7) (.t 9))])
 (.cond (.t 10) (.seq (.rg [p 4 (.mv (.k (.bool false)))])
 .ret)
 .skip))
 (.seq (.seq (.rg [p 5 (.mv (.k (.int .i64 0)))])
 (.block 0 (.loop (.seq (.seq (.rg [p 11 (.mv (.t 5)),
 p 12 (.mv (.t 0)),
 p 13 (.len (.t 12)),
 p 14 (.bin .lss (.t 11) (.t 13))])
 (.cond (.t 14) .skip
 (.exit 0)))
 (.seq (.block 1 (.seq (.rg [⟨(some 17), .mv (.t 0), none, true⟩,
 ⟨(some 18), .mv (.t 5), none, true⟩,
 ⟨(some 19), .ia 6 (.t 17) (.t 18), none, true⟩,
 ⟨(some 20), .ldn 6 (.t 19), none, true⟩,
 ⟨(some 21), .mv (.t 1), none, true⟩,
 ⟨(some 22), .mv (.t 5), none, true⟩,
 ⟨(some 23), .ia 6 (.t 21) (.t 22), none, true⟩,
 ⟨(some 24), .ldn 6 (.t 23), none, true⟩,
 p 25 (.call 138 [(.t 20), (.t 24)]),
 p 26 (.not (.t 25))])
 (.cond (.t 26) (.seq (.rg [p 4 (.mv (.k (.bool false)))])
 .ret)
 .skip)))
 (.rg [p 15 (.mv (.t 5)),
 p 16 (.bin .add (.t 15) (.k (.int .i64 1))),
 p 5 (.mv (.t 16))]))))))
 (.seq (.rg [p 4 (.mv (.k (.bool true)))])
 .ret)))),
 [.tmp 4]⟩
def F140 : Fnc := ⟨(.seq (.rg [p 2 (.box (.t 0)),
 p 3 (.box (.t 1)),
 p 4 (.mv (.k (.bool false)))])
 (.seq (.seq (.rg [p 5 (.fa 0 (.t 2)),
 p 6 (.ld (.t 5)),
 p 7 (.fa 0 (.t 3)),
 p 8 (.ld (.t 7)),
 p 9 (.bin .neq (.t 6) (.t 8))])
 (.cond (.t 9) (.seq (.rg [p 4 (.mv (.k (.bool false)))])
 .ret)
 .skip))
 (.seq (.seq (.rg [p 10 (.fa 1 (.t 2)),
 p 11 (.ld (.t 10)),
 p 12 (.fa 1 (.t 3)),
 p 13 (.ld (.t 12)),
 p 14 (.bin .neq (.t 11) (.t 13))])
 (.cond (.t 14) (.seq (.rg [p 4 (.mv (.k (.bool false)))])
 .ret)
 .skip))
 (.seq (.rg [p 4 (.mv (.k (.bool true)))])
 .ret)))),
 [.tmp 4]⟩
def F143 : Fnc := ⟨(.seq (.rg [p 4 (.mv (.k (.int .i64 0)))])
 (.seq (.rg [p 5 (.mv (.t 1)),
 p 6 (.mv (.t 0)),
 p 7 (.len (.t 6)),
 p 8 (.bin .sub (.t 5) (.t 7)),
 p 1 (.mv (.t 8))])
 (.seq (.seq (.rg [p 9 (.mv (.t 1)),
 p 10 (.bin .lss (.t 9) (.k (.int .i64 0)))])
 (.cond (.t 10) (.seq (.rg [p 4 (.mv (.k (.int .i64 (-1))))])
 .ret)
 .skip))
 (.seq (.rg [p 11 (.mv (.t 1)),
 p 4 (.mv (.t 11))])
 .ret)))),
 [.tmp 4]⟩
def F144 : Fnc := ⟨(.seq (.rg [p 2 (.box (.t 0)),
 p 4 (.mv (.k (.int .i64 0)))])
 (.seq (.rg [p 5 (.fa 0 (.t 2)),
 p 6 (.ldn 6 (.t 5)),
 p 7 (.mv (.t 1)),
 p 8 (.call 145 [(.t 6), (.t 7)]),
 p 1 (.mv (.t 8))])
 (.seq (.seq (.rg [p 9 (.mv (.t 1)),
 p 10 (.bin .lss (.t 9) (.k (.int .i64 0)))])
 (.cond (.t 10) (.seq (.rg [p 4 (.mv (.k (.int .i64 (-1))))])
 .ret)
 .skip))
 (.seq (.rg [p 11 (.fa 7 (.t 2)),
 p 12 (.ld (.t 11)),
 p 13 (.mv (.t 1)),
 p 14 (.call 152 [(.t 12), (.t 13)]),
 p 1 (.mv (.t 14))])
 (.seq (.seq (.rg [p 15 (.mv (.t 1)),
 p 16 (.bin .lss (.t 15) (.k (.int .i64 0)))])
 (.cond (.t 16) (.seq (.rg [p 4 (.mv (.k (.int .i64 (-1))))])
 .ret)
 .skip))
 (.seq (.rg [p 17 (.fa 10 (.t 2)),
 p 18 (.ld (.t 17)),
 p 19 (.mv (.t 1)),
 p 20 (.call 143 [(.t 18), (.t 19)]),
 p 1 (.mv (.t 20))])
 (.seq (.seq (.rg [p 21 (.mv (.t 1)),
 p 22 (.bin .lss (.t 21) (.k (.int .i64 0)))])
 (.cond (.t 22) (.seq (.rg [p 4 (.mv (.k (.int .i64 (-1))))])
 .ret)
 .skip))
 (.seq (.rg [p 23 (.fa 11 (.t 2)),
 p 24 (.ld (.t 23)),
 p 25 (.mv (.t 1)),
 p 26 (.call 148 [(.t 24), (.t 25)]),
 p 1 (.mv (.t 26))])
 (.seq (.seq (.rg [p 27 (.mv (.t 1)),
 p 28 (.bin .lss (.t 27) (.k (.int .i64 0)))])
 (.cond (.t 28) (.seq (.rg [p 4 (.mv (.k (.int .i64 (-1))))])
 .ret)
 .skip))
 (.seq (.rg [p 29 (.fa 31 (.t 2)),
 p 30 (.ldn 4 (.t 29)),
 p 31 (.mv (.t 1)),
 p 32 (.call 150 [(.t 30), (.t 31)]),
 p 1 (.mv (.t 32))])
 (.seq (.seq (.rg [p 33 (.mv (.t 1)),
 p 34 (.bin .lss (.t 33) (.k (.int .i64 0)))])
 (.cond (.t 34) (.seq (.rg [p 4 (.mv (.k (.int .i64 (-1))))])
 .ret)
 .skip))
 (.seq (.rg [p 35 (.fa 36 (.t 2)),
 p 36 (.ld (.t 35)),
 p 37 (.mv (.t 1)),
 p 38 (.call 147 [(.t 36), (.t 37)]),
 p 1 (.mv (.t 38))])
 (.seq (.seq (.rg [p 39 (.mv (.t 1)),
 p 40 (.bin .lss (.t 39) (.k (.int .i64 0)))])
 (.cond (.t 40) (.seq (.rg [p 4 (.mv (.k (.int .i64 (-1))))])
 .ret)
 .skip))
 (.seq (.rg [p 41 (.mv (.t 1)),
 p 4 (.mv (.t 41))])
 .ret)))))))))))))),
 [.tmp 4]⟩
def F145 : Fnc := ⟨(.seq (.rg [p 2 (.box (.t 0)),
 p 4 (.mv (.k (.int .i64 0)))])
 (.seq (.rg [p 5 (.fa 0 (.t 2)),
 p 6 (.ld (.t 5)),
 p 7 (.mv (.t 1)),
 p 8 (.call 149 [(.t 6), (.t 7)]),
 p 1 (.mv (.t 8))])
 (.seq (.seq (.rg [p 9 (.mv (.t 1)),
 p 10 (.bin .lss (.t 9) (.k (.int .i64 0)))])
 (.cond (.t 10) (.seq (.rg [p 4 (.mv (.k (.int .i64 (-1))))])
 .ret)
 .skip))
 (.seq (.rg [p 11 (.mv (.t 1)),
 p 4 (.mv (.t 11))])
 .ret)))),
 [.tmp 4]⟩
def F146 : Fnc := ⟨(.seq (.rg [p 2 (.box (.t 0)),
 p 4 (.mv (.k (.int .i64 0)))])
 (.seq (.rg [p 5 (.fa 0 (.t 2)),
 p 6 (.ld (.t 5)),
 p 7 (.mv (.t 1)),
 p 8 (.call 148 [(.t 6), (.t 7)]),
 p 1 (.mv (.t 8))])
 (.seq (.seq (.rg [p 9 (.mv (.t 1)),
 p 10 (.bin .lss (.t 9) (.k (.int .i64 0)))])
 (.cond (.t 10) (.seq (.rg [p 4 (.mv (.k (.int .i64 (-1))))])
 .ret)
 .skip))
 (.seq (.rg [p 11 (.fa 2 (.t 2)),
 p 12 (.ld (.t 11)),
 p 13 (.mv (.t 1)),
 p 14 (.call 148 [(.t 12), (.t 13)]),
 p 1 (.mv (.t 14))])
 (.seq (.seq (.rg [p 15 (.mv (.t 1)),
 p 16 (.bin .lss (.t 15) (.k (.int .i64 0)))])
 (.cond (.t 16) (.seq (.rg [p 4 (.mv (.k (.int .i64 (-1))))])
 .ret)
 .skip))
 (.seq (.rg [p 17 (.mv (.t 1)),
 p 4 (.mv (.t 17))])
 .ret)))))),
 [.tmp 4]⟩
def F147 : Fnc := ⟨(.seq (.rg [p 4 (.mv (.k (.int .i64 0)))])
 (.seq (.rg [p 5 (.mv (.t 1)),
 p 6 (.mv (.t 0)),
 p 7 (.len (.t 6)),
 p 8 (.bin .sub (.t 5) (.t 7)),
 p 1 (.mv (.t 8))])
 (.seq (.seq (.rg [p 9 (.mv (.t 1)),
 p 10 (.bin .lss (.t 9) (.k (.int .i64 0)))])
 (.cond (.t 10) (.seq (.rg [p 4 (.mv (.k (.int .i64 (-1))))])
 .ret)
 .skip))
 (.seq (.rg [p 11 (.mv (.t 1)),
 p 4 (.mv (.t 11))])
 .ret)))),
 [.tmp 4]⟩
def F148 : Fnc := ⟨(.seq (.rg [p 4 (.mv (.k (.int .i64 0)))])
 (.seq (.rg [p 5 (.mv (.t 1)),
 p 6 (.mv (.t 0)),
 p 7 (.len (.t 6)),
 p 8 (.bin .sub (.t 5) (.t 7)),
 p 1 (.mv (.t 8))])
 (.seq (.seq (.rg [p 9 (.mv (.t 1)),
 p 10 (.bin .lss (.t 9) (.k (.int .i64 0)))])
 (.cond (.t 10) (.seq (.rg [p 4 (.mv (.k (.int .i64 (-1))))])
 .ret)
 .skip))
 (.seq (.rg [p 11 (.mv (.t 1)),
 p 4 (.mv (.t 11))])
 .ret)))),
 [.tmp 4]⟩
def F149 : Fnc := ⟨(.seq (.rg [p 4 (.mv (.k (.int .i64 0)))])
 (.seq (.rg [p 5 (.mv (.t 1)),
 p 6 (.mv (.t 0)),
 p 7 (.len (.t 6)),
 p 8 (.bin .sub (.t 5) (.t 7)),
 p 1 (.mv (.t 8))])
 (.seq (.seq (.rg [p 9 (.mv (.t 1)),
 p 10 (.bin .lss (.t 9) (.k (.int .i64 0)))])
 (.cond (.t 10) (.seq (.rg [p 4 (.mv (.k (.int .i64 (-1))))])
 .ret)
 .skip))
 (.seq (.rg [p 11 (.mv (.t 1)),
 p 4 (.mv (.t 11))])
 .ret)))),
 [.tmp 4]⟩
def F150 : Fnc := ⟨(.seq (.rg [p 2 (.box (.t 0)),
 p 4 (.mv (.k (.int .i64 0)))])
 (.seq (.rg [p 5 (.fa 0 (.t 2)),
 p 6 (.ld (.t 5)),
 p 7 (.mv (.t 1)),
 p 8 (.call 148 [(.t 6), (.t 7)]),
 p 1 (.mv (.t 8))])
 (.seq (.seq (.rg [p 9 (.mv (.t 1)),
 p 10 (.bin .lss (.t 9) (.k (.int .i64 0)))])
 (.cond (.t 10) (.seq (.rg [p 4 (.mv (.k (.int .i64 (-1))))])
 .ret)
 .skip))
 (.seq (.rg [p 11 (.fa 1 (.t 2)),
 p 12 (.ldn 3 (.t 11)),
 p 13 (.mv (.t 1)),
 p 14 (.call 146 [(.t 12), (.t 13)]),
 p 1 (.mv (.t 14))])
 (.seq (.seq (.rg [p 15 (.mv (.t 1)),
 p 16 (.bin .lss (.t 15) (.k (.int .i64 0)))])
 (.cond (.t 16) (.seq (.rg [p 4 (.mv (.k (.int .i64 (-1))))])
 .ret)
 .skip))
 (.seq (.rg [p 17 (.mv (.t 1)),
 p 4 (.mv (.t 17))])
 .ret)))))),
 [.tmp 4]⟩
def F151 : Fnc := ⟨(.seq (.rg [p 2 (.box (.t 0)),
 p 4 (.mv (.k (.int .i64 0)))])
 (.seq (.rg [p 5 (.fa 0 (.t 2)),
 p 6 (.ld (.t 5)),
 p 7 (.mv (.t 1)),
 p 8 (.call 154 [(.t 6), (.t 7)]),
 p 1 (.mv (.t 8))])
 (.seq (.seq (.rg [p 9 (.mv (.t 1)),
 p 10 (.bin .lss (.t 9) (.k (.int .i64 0)))])
 (.cond (.t 10) (.seq (.rg [p 4 (.mv (.k (.int .i64 (-1))))])
 .ret)
 .skip))
 (.seq (.rg [p 11 (.mv (.t 1)),
 p 4 (.mv (.t 11))])
 .ret)))),
 [.tmp 4]⟩
def F152 : Fnc := ⟨(.seq (.rg [p 4 (.mv (.k (.int .i64 0)))])
 (.seq (.rg [p 6 (.mv (.t 1)),
 p 7 (.mv (.t 0)),
 p 8 (.len (.t 7)),
 p 9 (.bin .sub (.t 6) (.t 8)),
 p 1 (.mv (.t 9))])
 (.seq (.seq (.rg [p 10 (.mv (.t 1)),
 p 11 (.bin .lss (.t 10) (.k (.int .i64 0)))])
 (.cond (.t 11) (.seq (.rg [p 4 (.mv (.k (.int .i64 (-1))))])
 .ret)
 .skip))
 (.seq (.seq (.rg [p 5 (.mv (.k (.int .i64 0)))])
 (.block 0 (.loop (.seq (.seq (.rg [p 12 (.mv (.t 5)),
 p 13 (.mv (.t 0)),
 p 14 (.len (.t 13)),
 p 15 (.bin .lss (.t 12) (.t 14))])
 (.cond (.t 15) .skip
 (.exit 0)))
 (.seq (.block 1 (.seq (.rg [p 18 (.mv (.t 0)),
 p 19 (.mv (.t 5)),
 p 20 (.ia 6 (.t 18) (.t 19)),
 p 21 (.ldn 6 (.t 20)),
 p 22 (.mv (.t 1)),
 p 23 (.call 151 [(.t 21), (.t 22)]),
 p 1 (.mv (.t 23))])
 (.seq (.rg [p 24 (.mv (.t 1)),
 p 25 (.bin .lss (.t 24) (.k (.int .i64 0)))])
 (.cond (.t 25) (.seq (.rg [p 4 (.mv (.k (.int .i64 (-1))))])
 .ret)
 .skip))))
 (.rg [p 16 (.mv (.t 5)),
 p 17 (.bin .add (.t 16) (.k (.int .i64 1))),
 p 5 (.mv (.t 17))]))))))
 (.seq (.rg [p 26 (.mv (.t 1)),
 p 4 (.mv (.t 26))])
 .ret))))),
 [.tmp 4]⟩
def F153 : Fnc := ⟨(.seq (.rg [p 2 (.box (.t 0)),
 p 4 (.mv (.k (.int .i64 0)))])
 (.seq (.rg [p 5 (.fa 5 (.t 2)),
 p 6 (.ld (.t 5)),
 p 7 (.mv (.t 1)),
 p 8 (.call 148 [(.t 6), (.t 7)]),
 p 1 (.mv (.t 8))])
 (.seq (.seq (.rg [p 9 (.mv (.t 1)),
 p 10 (.bin .lss (.t 9) (.k (.int .i64 0)))])
 (.cond (.t 10) (.seq (.rg [p 4 (.mv (.k (.int .i64 (-1))))])
 .ret)
 .skip))
 (.seq (.rg [p 11 (.mv (.t 1)),
 p 4 (.mv (.t 11))])
 .ret)))),
 [.tmp 4]⟩
def F154 : Fnc := ⟨(.seq (.rg [p 4 (.mv (.k (.int .i64 0)))])
 (.seq (.rg [p 6 (.mv (.t 1)),
 p 7 (.mv (.t 0)),
 p 8 (.len (.t 7)),
 p 9 (.bin .sub (.t 6) (.t 8)),
 p 1 (.mv (.t 9))])
 (.seq (.seq (.rg [p 10 (.mv (.t 1)),
 p 11 (.bin .lss (.t 10) (.k (.int .i64 0)))])
 (.cond (.t 11) (.seq (.rg [p 4 (.mv (.k (.int .i64 (-1))))])
 .ret)
 .skip))
 (.seq (.seq (.rg [p 5 (.mv (.k (.int .i64 0)))])
 (.block 0 (.loop (.seq (.seq (.rg [p 12 (.mv (.t 5)),
 p 13 (.mv (.t 0)),
 p 14 (.len (.t 13)),
 p 15 (.bin .lss (.t 12) (.t 14))])
 (.cond (.t 15) .skip
 (.exit 0)))
 (.seq (.block 1 (.seq (.rg [p 18 (.mv (.t 0)),
 p 19 (.mv (.t 5)),
 p 20 (.ia 6 (.t 18) (.t 19)),
 p 21 (.ldn 6 (.t 20)),
 p 22 (.mv (.t 1)),
 p 23 (.call 153 [(.t 21), (.t 22)]),
 p 1 (.mv (.t 23))])
 (.seq (.rg [p 24 (.mv (.t 1)),
 p 25 (.bin .lss (.t 24) (.k (.int .i64 0)))])
 (.cond (.t 25) (.seq (.rg [p 4 (.mv (.k (.int .i64 (-1))))])
 .ret)
 .skip))))
 (.rg [p 16 (.mv (.t 5)),
 p 17 (.bin .add (.t 16) (.k (.int .i64 1))),
 p 5 (.mv (.t 17))]))))))
 (.seq (.rg [p 26 (.mv (.t 1)),
 p 4 (.mv (.t 26))])
 .ret))))),
 [.tmp 4]⟩
def F155 : Fnc := ⟨(.seq (.rg [p 1 (.box (.t 0)),
 p 2 (.new [.bool false, .int .i64 0, .int .i64 0, .bool false, .int .i64 0, .int .i64 0, .int .i64 0, .bool false])])
 (.seq (.rg [p 3 (.new [.bool false, .int .i64 0, .int .i64 0, .bool false, .int .i64 0, .int .i64 0, .int .i64 0, .bool false])])
 (.seq (.rg [p 4 (.fa 0 (.t 1)),
 p 5 (.ld (.t 4)),
 p 6 (.fa 0 (.t 3)),
 ⟨none, .st (.t 6) (.t 5), none, false⟩])
 (.seq (.rg [p 7 (.fa 1 (.t 1)),
 p 8 (.ld (.t 7)),
 p 9 (.fa 1 (.t 3)),
 ⟨none, .st (.t 9) (.t 8), none, false⟩])
 (.seq (.rg [p 10 (.fa 2 (.t 1)),
 p 11 (.ld (.t 10)),
 p 12 (.fa 2 (.t 3)),
 ⟨none, .st (.t 12) (.t 11), none, false⟩])
 (.seq (.rg [p 13 (.fa 3 (.t 1)),
 p 14 (.ld (.t 13)),
 p 15 (.fa 3 (.t 3)),
 ⟨none, .st (.t 15) (.t 14), none, false⟩])
 (.seq (.rg [p 16 (.fa 4 (.t 1)),
 p 17 (.ld (.t 16)),
 p 18 (.fa 4 (.t 3)),
 ⟨none, .st (.t 18) (.t 17), none, false⟩])
 (.seq (.rg [p 19 (.fa 5 (.t 1)),
 p 20 (.ld (.t 19)),
 p 21 (.fa 5 (.t 3)),
 ⟨none, .st (.t 21) (.t 20), none, false⟩])
 (.seq (.rg [p 22 (.fa 6 (.t 1)),
 p 23 (.ld (.t 22)),
 p 24 (.fa 6 (.t 3)),
 ⟨none, .st (.t 24) (.t 23), none, false⟩])
 (.seq (.rg [p 25 (.fa 7 (.t 1)),
 p 26 (.ld (.t 25)),
 p 27 (.fa 7 (.t 3)),
 ⟨none, .st (.t 27) (.t 26), none, false⟩])
 (.seq (.rg [p 28 (.ldn 8 (.t 3)),
 ⟨none, .stn 8 (.t 2) (.t 28), none, false⟩])
 .ret))))))))))),
 [.celln 2 8]⟩
def F156 : Fnc := ⟨(.seq (.rg [p 1 (.box (.t 0)),
 p 2 (.new [.int .i64 0, .int .i64 0])])
 (.seq (.rg [p 3 (.new [.int .i64 0, .int .i64 0])])
 (.seq (.rg [p 4 (.fa 0 (.t 1)),
 p 5 (.ld (.t 4)),
 p 6 (.fa 0 (.t 3)),
 ⟨none, .st (.t 6) (.t 5), none, false⟩])
 (.seq (.rg [p 7 (.fa 1 (.t 1)),
 p 8 (.ld (.t 7)),
 p 9 (.fa 1 (.t 3)),
 ⟨none, .st (.t 9) (.t 8), none, false⟩])
 (.seq (.rg [p 10 (.ldn 2 (.t 3)),
 ⟨none, .stn 2 (.t 2) (.t 10), none, false⟩])
 .ret))))),
 [.celln 2 2]⟩
def F157 : Fnc := ⟨(.seq (.rg [p 2 (.mv (.k (.slice none 0 0)))])
 (.seq (.rg [p 5 (.mv (.t 0)),
 p 6 (.len (.t 5)),
 p 7 (.mk 2 16 [.int .i64 0, .int .i64 0] (.t 6) (.t 6)),
 p 3 (.mv (.t 7))])
 (.seq (.seq (.rg [p 4 (.mv (.k (.int .i64 0)))])
 (.block 0 (.loop (.seq (.seq (.rg [p 8 (.mv (.t 4)),
 p 9 (.mv (.t 0)),
 p 10 (.len (.t 9)),
 p 11 (.bin .lss (.t 8) (.t 10))])
 (.cond (.t 11) .skip
 (.exit 0)))
 (.seq (.block 1 (.rg [p 14 (.mv (.t 3)),
 p 15 (.mv (.t 4)),
 p 16 (.mv (.t 0)),
 p 17 (.mv (.t 4)),
 p 18 (.ia 2 (.t 16) (.t 17)),
 p 19 (.ldn 2 (.t 18)),
 p 20 (.call 156 [(.t 19)]),
 p 21 (.ia 2 (.t 14) (.t 15)),
 ⟨none, .stn 2 (.t 21) (.t 20), none, false⟩]))
 (.rg [p 12 (.mv (.t 4)),
 p 13 (.bin .add (.t 12) (.k (.int .i64 1))),
 p 4 (.mv (.t 13))]))))))
 (.seq (.rg [p 22 (.mv (.t 3)),
 p 2 (.mv (.t 22))])
 .ret)))),
 [.tmp 2]⟩
def F158 : Fnc := ⟨(.seq (.rg [p 1 (.box (.t 0)),
 p 2 (.new [.slice none 0 0, .int .i64 0, .int .i64 0, .int .i64 0, .int .i64 0, .int .i64 0, .int .i64 0, .slice none 0 0, .int .i64 0, .int .i64 0, .slice none 0 0, .slice none 0 0, .int .i64 0, .int .i64 0, .int .i64 0, .bool false, .int .i64 0, .int .i64 0, .bool false, .int .i64 0, .int .i64 0, .int .i64 0, .bool false, .bool false, .int .i64 0, .int .i64 0, .bool false, .int .i64 0, .int .i64 0, .int .i64 0, .bool false, .slice none 0 0, .slice none 0 0, .int .i64 0, .slice none 0 0, .int .i64 0, .slice none 0 0])])
 (.seq (.rg [p 3 (.new [.slice none 0 0, .int .i64 0, .int .i64 0, .int .i64 0, .int .i64 0, .int .i64 0, .int .i64 0, .slice none 0 0, .int .i64 0, .int .i64 0, .slice none 0 0, .slice none 0 0, .int .i64 0, .int .i64 0, .int .i64 0, .bool false, .int .i64 0, .int .i64 0, .bool false, .int .i64 0, .int .i64 0, .int .i64 0, .bool false, .bool false, .int .i64 0, .int .i64 0, .bool false, .int .i64 0, .int .i64 0, .int .i64 0, .bool false, .slice none 0 0, .slice none 0 0, .int .i64 0, .slice none 0 0, .int .i64 0, .slice none 0 0])])
 (.seq (.rg [p 4 (.fa 0 (.t 1)),
 p 5 (.ldn 6 (.t 4)),
 p 6 (.call 159 [(.t 5)]),
 p 7 (.fa 0 (.t 3)),
 ⟨none, .stn 6 (.t 7) (.t 6), none, false⟩])
 (.seq (.rg [p 8 (.fa 6 (.t 1)),
 p 9 (.ld (.t 8)),
 p 10 (.fa 6 (.t 3)),
 ⟨none, .st (.t 10) (.t 9), none, false⟩])
 (.seq (.rg [p 11 (.fa 7 (.t 1)),
 p 12 (.ld (.t 11)),
 p 13 (.call 168 [(.t 12)]),
 p 14 (.fa 7 (.t 3)),
 ⟨none, .st (.t 14) (.t 13), none, false⟩])
 (.seq (.rg [p 15 (.fa 8 (.t 1)),
 p 16 (.ldn 2 (.t 15)),
 p 17 (.call 171 [(.t 16)]),
 p 18 (.fa 8 (.t 3)),
 ⟨none, .stn 2 (.t 18) (.t 17), none, false⟩])
 (.seq (.rg [p 19 (.fa 10 (.t 1)),
 p 20 (.ld (.t 19)),
 p 21 (.call 157 [(.t 20)]),
 p 22 (.fa 10 (.t 3)),
 ⟨none, .st (.t 22) (.t 21), none, false⟩])
 (.seq (.rg [p 23 (.fa 11 (.t 1)),
 p 24 (.ld (.t 23)),
 p 25 (.call 163 [(.t 24)]),
 p 26 (.fa 11 (.t 3)),
 ⟨none, .st (.t 26) (.t 25), none, false⟩])
 (.seq (.rg [p 27 (.fa 12 (.t 1)),
 p 28 (.ld (.t 27)),
 p 29 (.fa 12 (.t 3)),
 ⟨none, .st (.t 29) (.t 28), none, false⟩])
 (.seq (.rg [p 30 (.fa 13 (.t 1)),
 p 31 (.ld (.t 30)),
 p 32 (.fa 13 (.t 3)),
 ⟨none, .st (.t 32) (.t 31), none, false⟩])
 (.seq (.rg [p 33 (.fa 14 (.t 1)),
 p 34 (.ld (.t 33)),
 p 35 (.fa 14 (.t 3)),
 ⟨none, .st (.t 35) (.t 34), none, false⟩])
 (.seq (.rg [p 36 (.fa 15 (.t 1)),
 p 37 (.ldn 8 (.t 36)),
 p 38 (.call 155 [(.t 37)]),
 p 39 (.fa 15 (.t 3)),
 ⟨none, .stn 8 (.t 39) (.t 38), none, false⟩])
 (.seq (.rg [p 40 (.fa 23 (.t 1)),
 p 41 (.ldn 8 (.t 40)),
 p 42 (.call 155 [(.t 41)]),
 p 43 (.fa 23 (.t 3)),
 ⟨none, .stn 8 (.t 43) (.t 42), none, false⟩])
 (.seq (.rg [p 44 (.fa 31 (.t 1)),
 p 45 (.ldn 4 (.t 44)),
 p 46 (.call 166 [(.t 45)]),
 p 47 (.fa 31 (.t 3)),
 ⟨none, .stn 4 (.t 47) (.t 46), none, false⟩])
 (.seq (.rg [p 48 (.fa 35 (.t 1)),
 p 49 (.ld (.t 48)),
 p 50 (.fa 35 (.t 3)),
 ⟨none, .st (.t 50) (.t 49), none, false⟩])
 (.seq (.rg [p 51 (.fa 36 (.t 1)),
 p 52 (.ld (.t 51)),
 p 53 (.call 162 [(.t 52)]),
 p 54 (.fa 36 (.t 3)),
 ⟨none, .st (.t 54) (.t 53), none, false⟩])
 (.seq (.rg [p 55 (.ldn 37 (.t 3)),
 ⟨none, .stn 37 (.t 2) (.t 55), none, false⟩])
 .ret))))))))))))))))),
 [.celln 2 37]⟩
def F159 : Fnc := ⟨(.seq (.rg [p 1 (.box (.t 0)),
 p 2 (.new [.slice none 0 0, .int .i64 0, .int .i64 0, .int .i64 0, .int .i64 0, .int .i64 0])])
 (.seq (.rg [p 3 (.new [.slice none 0 0, .int .i64 0, .int .i64 0, .int .i64 0, .int .i64 0, .int .i64 0])])
 (.seq (.rg [p 4 (.fa 0 (.t 1)),
 p 5 (.ld (.t 4)),
 p 6 (.call 165 [(.t 5)]),
 p 7 (.fa 0 (.t 3)),
 ⟨none, .st (.t 7) (.t 6), none, false⟩])
 (.seq (.rg [p 8 (.fa 1 (.t 1)),
 p 9 (.ld (.t 8)),
 p 10 (.fa 1 (.t 3)),
 ⟨none, .st (.t 10) (.t 9), none, false⟩])
 (.seq (.rg [p 11 (.fa 2 (.t 1)),
 p 12 (.ld (.t 11)),
 p 13 (.fa 2 (.t 3)),
 ⟨none, .st (.t 13) (.t 12), none, false⟩])
 (.seq (.rg [p 14 (.fa 3 (.t 1)),
 p 15 (.ld (.t 14)),
 p 16 (.fa 3 (.t 3)),
 ⟨none, .st (.t 16) (.t 15), none, false⟩])
 (.seq (.rg [p 17 (.fa 4 (.t 1)),
 p 18 (.ld (.t 17)),
 p 19 (.fa 4 (.t 3)),
 ⟨none, .st (.t 19) (.t 18), none, false⟩])
 (.seq (.rg [p 20 (.fa 5 (.t 1)),
 p 21 (.ld (.t 20)),
 p 22 (.fa 5 (.t 3)),
 ⟨none, .st (.t 22) (.t 21), none, false⟩])
 (.seq (.rg [p 23 (.ldn 6 (.t 3)),
 ⟨none, .stn 6 (.t 2) (.t 23), none, false⟩])
 .ret))))))))),
 [.celln 2 6]⟩
def F160 : Fnc := ⟨(.seq (.rg [p 1 (.box (.t 0)),
 p 2 (.new [.slice none 0 0, .int .i64 0, .slice none 0 0])])
 (.seq (.rg [p 3 (.new [.slice none 0 0, .int .i64 0, .slice none 0 0])])
 (.seq (.rg [p 4 (.fa 0 (.t 1)),
 p 5 (.ld (.t 4)),
 p 6 (.call 163 [(.t 5)]),
 p 7 (.fa 0 (.t 3)),
 ⟨none, .st (.t 7) (.t 6), none, false⟩])
 (.seq (.rg [p 8 (.fa 1 (.t 1)),
 p 9 (.ld (.t 8)),
 p 10 (.fa 1 (.t 3)),
 ⟨none, .st (.t 10) (.t 9), none, false⟩])
 (.seq (.rg [p 11 (.fa 2 (.t 1)),
 p 12 (.ld (.t 11)),
 p 13 (.call 163 [(.t 12)]),
 p 14 (.fa 2 (.t 3)),
 ⟨none, .st (.t 14) (.t 13), none, false⟩])
 (.seq (.rg [p 15 (.ldn 3 (.t 3)),
 ⟨none, .stn 3 (.t 2) (.t 15), none, false⟩])
 .ret)))))),
 [.celln 2 3]⟩
def F161 : Fnc := ⟨(.seq (.rg [p 1 (.box (.t 0)),
 p 2 (.new [.int .i64 0, .int .i64 0, .bool false, .int .i64 0, .int .i64 0, .int .i64 0, .int .i64 0])])
 (.seq (.rg [p 3 (.new [.int .i64 0, .int .i64 0, .bool false, .int .i64 0, .int .i64 0, .int .i64 0, .int .i64 0])])
 (.seq (.rg [p 4 (.fa 0 (.t 1)),
 p 5 (.ld (.t 4)),
 p 6 (.fa 0 (.t 3)),
 ⟨none, .st (.t 6) (.t 5), none, false⟩])
 (.seq (.rg [p 7 (.fa 1 (.t 1)),
 p 8 (.ld (.t 7)),
 p 9 (.fa 1 (.t 3)),
 ⟨none, .st (.t 9) (.t 8), none, false⟩])
 (.seq (.rg [p 10 (.fa 2 (.t 1)),
 p 11 (.ld (.t 10)),
 p 12 (.fa 2 (.t 3)),
 ⟨none, .st (.t 12) (.t 11), none, false⟩])
 (.seq (.rg [p 13 (.fa 3 (.t 1)),
 p 14 (.ld (.t 13)),
 p 15 (.fa 3 (.t 3)),
 ⟨none, .st (.t 15) (.t 14), none, false⟩])
 (.seq (.rg [p 16 (.fa 4 (.t 1)),
 p 17 (.ld (.t 16)),
 p 18 (.fa 4 (.t 3)),
 ⟨none, .st (.t 18) (.t 17), none, false⟩])
 (.seq (.rg [p 19 (.fa 5 (.t 1)),
 p 20 (.ld (.t 19)),
 p 21 (.fa 5 (.t 3)),
 ⟨none, .st (.t 21) (.t 20), none, false⟩])
 (.seq (.rg [p 22 (.fa 6 (.t 1)),
 p 23 (.ld (.t 22)),
 p 24 (.fa 6 (.t 3)),
 ⟨none, .st (.t 24) (.t 23), none, false⟩])
 (.seq (.rg [p 25 (.ldn 7 (.t 3)),
 ⟨none, .stn 7 (.t 2) (.t 25), none, false⟩])
 .ret)))))))))),
 [.celln 2 7]⟩
def F162 : Fnc := ⟨(.seq (.rg [p 2 (.mv (.k (.slice none 0 0)))])
 (.seq (.rg [p 5 (.mv (.t 0)),
 p 6 (.len (.t 5)),
 p 7 (.mk 7 56 [.int .i64 0, .int .i64 0, .bool false, .int .i64 0, .int .i64 0, .int .i64 0, .int .i64 0] (.t 6) (.t 6)),
 p 3 (.mv (.t 7))])
 (.seq (.seq (.rg [p 4 (.mv (.k (.int .i64 0)))])
 (.block 0 (.loop (.seq (.seq (.rg [p 8 (.mv (.t 4)),
 p 9 (.mv (.t 0)),
 p 10 (.len (.t 9)),
 p 11 (.bin .lss (.t 8) (.t 10))])
 (.cond (.t 11) .skip
 (.exit 0)))
 (.seq (.block 1 (.rg [p 14 (.mv (.t 3)),
 p 15 (.mv (.t 4)),
 p 16 (.mv (.t 0)),
 p 17 (.mv (.t 4)),
 p 18 (.ia 7 (.t 16) (.t 17)),
 p 19 (.ldn 7 (.t 18)),
 p 20 (.call 161 [(.t 19)]),
 p 21 (.ia 7 (.t 14) (.t 15)),
 ⟨none, .stn 7 (.t 21) (.t 20), none, false⟩]))
 (.rg [p 12 (.mv (.t 4)),
 p 13 (.bin .add (.t 12) (.k (.int .i64 1))),
 p 4 (.mv (.t 13))]))))))
 (.seq (.rg [p 22 (.mv (.t 3)),
 p 2 (.mv (.t 22))])
 .ret)))),
 [.tmp 2]⟩
def F163 : Fnc := ⟨(.seq (.rg [p 2 (.mv (.k (.slice none 0 0)))])
 (.seq (.rg [p 5 (.mv (.t 0)),
 p 6 (.len (.t 5)),
 p 7 (.mk 1 8 [.int .i64 0] (.t 6) (.t 6)),
 p 3 (.mv (.t 7))])
 (.seq (.seq (.rg [p 4 (.mv (.k (.int .i64 0)))])
 (.block 0 (.loop (.seq (.seq (.rg [p 8 (.mv (.t 4)),
 p 9 (.mv (.t 0)),
 p 10 (.len (.t 9)),
 p 11 (.bin .lss (.t 8) (.t 10))])
 (.cond (.t 11) .skip
 (.exit 0)))
 (.seq (.block 1 (.rg [p 14 (.mv (.t 3)),
 p 15 (.mv (.t 4)),
 p 16 (.mv (.t 0)),
 p 17 (.mv (.t 4)),
 p 18 (.ia 1 (.t 16) (.t 17)),
 p 19 (.ld (.t 18)),
 p 20 (.ia 1 (.t 14) (.t 15)),
 ⟨none, .st (.t 20) (.t 19), none, false⟩]))
 (.rg [p 12 (.mv (.t 4)),
 p 13 (.bin .add (.t 12) (.k (.int .i64 1))),
 p 4 (.mv (.t 13))]))))))
 (.seq (.rg [p 21 (.mv (.t 3)),
 p 2 (.mv (.t 21))])
 .ret)))),
 [.tmp 2]⟩
def F164 : Fnc := ⟨(.seq (.rg [p 1 (.box (.t 0)),
 p 2 (.new [.int .i64 0, .bool false, .int .i64 0, .int .i64 0])])
 (.seq (.rg [p 3 (.new [.int .i64 0, .bool false, .int .i64 0, .int .i64 0])])
 (.seq (.rg [p 4 (.fa 0 (.t 1)),
 p 5 (.ld (.t 4)),
 p 6 (.fa 0 (.t 3)),
 ⟨none, .st (.t 6) (.t 5), none, false⟩])
 (.seq (.rg [p 7 (.fa 1 (.t 1)),
 p 8 (.ld (.t 7)),
 p 9 (.fa 1 (.t 3)),
 ⟨none, .st (.t 9) (.t 8), none, false⟩])
 (.seq (.rg [p 10 (.fa 2 (.t 1)),
 p 11 (.ld (.t 10)),
 p 12 (.fa 2 (.t 3)),
 ⟨none, .st (.t 12) (.t 11), none, false⟩])
 (.seq (.rg [p 13 (.fa 3 (.t 1)),
 p 14 (.ld (.t 13)),
 p 15 (.fa 3 (.t 3)),
 ⟨none, .st (.t 15) (.t 14), none, false⟩])
 (.seq (.rg [p 16 (.ldn 4 (.t 3)),
 ⟨none, .stn 4 (.t 2) (.t 16), none, false⟩])
 .ret))))))),
 [.celln 2 4]⟩
def F165 : Fnc := ⟨(.seq (.rg [p 2 (.mv (.k (.slice none 0 0)))])
 (.seq (.rg [p 5 (.mv (.t 0)),
 p 6 (.len (.t 5)),
 p 7 (.mk 4 32 [.int .i64 0, .bool false, .int .i64 0, .int .i64 0] (.t 6) (.t 6)),
 p 3 (.mv (.t 7))])
 (.seq (.seq (.rg [p 4 (.mv (.k (.int .i64 0)))])
 (.block 0 (.loop (.seq (.seq (.rg [p 8 (.mv (.t 4)),
 p 9 (.mv (.t 0)),
 p 10 (.len (.t 9)),
 p 11 (.bin .lss (.t 8) (.t 10))])
 (.cond (.t 11) .skip
 (.exit 0)))
 (.seq (.block 1 (.rg [p 14 (.mv (.t 3)),
 p 15 (.mv (.t 4)),
 p 16 (.mv (.t 0)),
 p 17 (.mv (.t 4)),
 p 18 (.ia 4 (.t 16) (.t 17)),
 p 19 (.ldn 4 (.t 18)),
 p 20 (.call 164 [(.t 19)]),
 p 21 (.ia 4 (.t 14) (.t 15)),
 ⟨none, .stn 4 (.t 21) (.t 20), none, false⟩]))
 (.rg [p 12 (.mv (.t 4)),
 p 13 (.bin .add (.t 12) (.k (.int .i64 1))),
 p 4 (.mv (.t 13))]))))))
 (.seq (.rg [p 22 (.mv (.t 3)),
 p 2 (.mv (.t 22))])
 .ret)))),
 [.tmp 2]⟩
def F166 : Fnc := ⟨(.seq (.rg [p 1 (.box (.t 0)),
 p 2 (.new [.slice none 0 0, .slice none 0 0, .int .i64 0, .slice none 0 0])])
 (.seq (.rg [p 3 (.new [.slice none 0 0, .slice none 0 0, .int .i64 0, .slice none 0 0])])
 (.seq (.rg [p 4 (.fa 0 (.t 1)),
 p 5 (.ld (.t 4)),
 p 6 (.call 163 [(.t 5)]),
 p 7 (.fa 0 (.t 3)),
 ⟨none, .st (.t 7) (.t 6), none, false⟩])
 (.seq (.rg [p 8 (.fa 1 (.t 1)),
 p 9 (.ldn 3 (.t 8)),
 p 10 (.call 160 [(.t 9)]),
 p 11 (.fa 1 (.t 3)),
 ⟨none, .stn 3 (.t 11) (.t 10), none, false⟩])
 (.seq (.rg [p 12 (.ldn 4 (.t 3)),
 ⟨none, .stn 4 (.t 2) (.t 12), none, false⟩])
 .ret))))),
 [.celln 2 4]⟩
def F167 : Fnc := ⟨(.seq (.rg [p 1 (.box (.t 0)),
 p 2 (.new [.slice none 0 0, .int .i64 0, .int .i64 0, .int .i64 0, .bool false, .bool false])])
 (.seq (.rg [p 3 (.new [.slice none 0 0, .int .i64 0, .int .i64 0, .int .i64 0, .bool false, .bool false])])
 (.seq (.rg [p 4 (.fa 0 (.t 1)),
 p 5 (.ld (.t 4)),
 p 6 (.call 170 [(.t 5)]),
 p 7 (.fa 0 (.t 3)),
 ⟨none, .st (.t 7) (.t 6), none, false⟩])
 (.seq (.rg [p 8 (.fa 1 (.t 1)),
 p 9 (.ld (.t 8)),
 p 10 (.fa 1 (.t 3)),
 ⟨none, .st (.t 10) (.t 9), none, false⟩])
 (.seq (.rg [p 11 (.fa 2 (.t 1)),
 p 12 (.ld (.t 11)),
 p 13 (.fa 2 (.t 3)),
 ⟨none, .st (.t 13) (.t 12), none, false⟩])
 (.seq (.rg [p 14 (.fa 3 (.t 1)),
 p 15 (.ld (.t 14)),
 p 16 (.fa 3 (.t 3)),
 ⟨none, .st (.t 16) (.t 15), none, false⟩])
 (.seq (.rg [p 17 (.fa 4 (.t 1)),
 p 18 (.ld (.t 17)),
 p 19 (.fa 4 (.t 3)),
 ⟨none, .st (.t 19) (.t 18), none, false⟩])
 (.seq (.rg [p 20 (.fa 5 (.t 1)),
 p 21 (.ld (.t 20)),
 p 22 (.fa 5 (.t 3)),
 ⟨none, .st (.t 22) (.t 21), none, false⟩])
 (.seq (.rg [p 23 (.ldn 6 (.t 3)),
 ⟨none, .stn 6 (.t 2) (.t 23), none, false⟩])
 .ret))))))))),
 [.celln 2 6]⟩
def F168 : Fnc := ⟨(.seq (.rg [p 2 (.mv (.k (.slice none 0 0)))])
 (.seq (.rg [p 5 (.mv (.t 0)),
 p 6 (.len (.t 5)),
 p 7 (.mk 6 56 [.slice none 0 0, .int .i64 0, .int .i64 0, .int .i64 0, .bool false, .bool false] (.t 6) (.t 6)),
 p 3 (.mv (.t 7))])
 (.seq (.seq (.rg [p 4 (.mv (.k (.int .i64 0)))])
 (.block 0 (.loop (.seq (.seq (.rg [p 8 (.mv (.t 4)),
 p 9 (.mv (.t 0)),
 p 10 (.len (.t 9)),
 p 11 (.bin .lss (.t 8) (.t 10))])
 (.cond (.t 11) .skip
 (.exit 0)))
 (.seq (.block 1 (.rg [p 14 (.mv (.t 3)),
 p 15 (.mv (.t 4)),
 p 16 (.mv (.t 0)),
 p 17 (.mv (.t 4)),
 p 18 (.ia 6 (.t 16) (.t 17)),
 p 19 (.ldn 6 (.t 18)),
 p 20 (.call 167 [(.t 19)]),
 p 21 (.ia 6 (.t 14) (.t 15)),
 ⟨none, .stn 6 (.t 21) (.t 20), none, false⟩]))
 (.rg [p 12 (.mv (.t 4)),
 p 13 (.bin .add (.t 12) (.k (.int .i64 1))),
 p 4 (.mv (.t 13))]))))))
 (.seq (.rg [p 22 (.mv (.t 3)),
 p 2 (.mv (.t 22))])
 .ret)))),
 [.tmp 2]⟩
def F169 : Fnc := ⟨(.seq (.rg [p 1 (.box (.t 0)),
 p 2 (.new [.bool false, .int .i64 0, .int .i64 0, .int .i64 0, .bool false, .slice none 0 0])])
 (.seq (.rg [p 3 (.new [.bool false, .int .i64 0, .int .i64 0, .int .i64 0, .bool false, .slice none 0 0])])
 (.seq (.rg [p 4 (.fa 0 (.t 1)),
 p 5 (.ld (.t 4)),
 p 6 (.fa 0 (.t 3)),
 ⟨none, .st (.t 6) (.t 5), none, false⟩])
 (.seq (.rg [p 7 (.fa 1 (.t 1)),
 p 8 (.ld (.t 7)),
 p 9 (.fa 1 (.t 3)),
 ⟨none, .st (.t 9) (.t 8), none, false⟩])
 (.seq (.rg [p 10 (.fa 2 (.t 1)),
 p 11 (.ld (.t 10)),
 p 12 (.fa 2 (.t 3)),
 ⟨none, .st (.t 12) (.t 11), none, false⟩])
 (.seq (.rg [p 13 (.fa 3 (.t 1)),
 p 14 (.ld (.t 13)),
 p 15 (.fa 3 (.t 3)),
 ⟨none, .st (.t 15) (.t 14), none, false⟩])
 (.seq (.rg [p 16 (.fa 4 (.t 1)),
 p 17 (.ld (.t 16)),
 p 18 (.fa 4 (.t 3)),
 ⟨none, .st (.t 18) (.t 17), none, false⟩])
 (.seq (.rg [p 19 (.fa 5 (.t 1)),
 p 20 (.ld (.t 19)),
 p 21 (.call 163 [(.t 20)]),
 p 22 (.fa 5 (.t 3)),
 ⟨none, .st (.t 22) (.t 21), none, false⟩])
 (.seq (.rg [p 23 (.ldn 6 (.t 3)),
 ⟨none, .stn 6 (.t 2) (.t 23), none, false⟩])
 .ret))))))))),
 [.celln 2 6]⟩
def F170 : Fnc := ⟨(.seq (.rg [p 2 (.mv (.k (.slice none 0 0)))])
 (.seq (.rg [p 5 (.mv (.t 0)),
 p 6 (.len (.t 5)),
 p 7 (.mk 6 64 [.bool false, .int .i64 0, .int .i64 0, .int .i64 0, .bool false, .slice none 0 0] (.t 6) (.t 6)),
 p 3 (.mv (.t 7))])
 (.seq (.seq (.rg [p 4 (.mv (.k (.int .i64 0)))])
 (.block 0 (.loop (.seq (.seq (.rg [p 8 (.mv (.t 4)),
 p 9 (.mv (.t 0)),
 p 10 (.len (.t 9)),
 p 11 (.bin .lss (.t 8) (.t 10))])
 (.cond (.t 11) .skip
 (.exit 0)))
 (.seq (.block 1 (.rg [p 14 (.mv (.t 3)),
 p 15 (.mv (.t 4)),
 p 16 (.mv (.t 0)),
 p 17 (.mv (.t 4)),
 p 18 (.ia 6 (.t 16) (.t 17)),
 p 19 (.ldn 6 (.t 18)),
 p 20 (.call 169 [(.t 19)]),
 p 21 (.ia 6 (.t 14) (.t 15)),
 ⟨none, .stn 6 (.t 21) (.t 20), none, false⟩]))
 (.rg [p 12 (.mv (.t 4)),
 p 13 (.bin .add (.t 12) (.k (.int .i64 1))),
 p 4 (.mv (.t 13))]))))))
 (.seq (.rg [p 22 (.mv (.t 3)),
 p 2 (.mv (.t 22))])
 .ret)))),
 [.tmp 2]⟩
def F171 : Fnc := ⟨(.seq (.rg [p 1 (.box (.t 0)),
 p 2 (.new [.int .i64 0, .int .i64 0])])
 (.seq (.rg [p 3 (.new [.int .i64 0, .int .i64 0])])
 (.seq (.rg [p 4 (.fa 0 (.t 1)),
 p 5 (.ld (.t 4)),
 p 6 (.fa 0 (.t 3)),
 ⟨none, .st (.t 6) (.t 5), none, false⟩])
 (.seq (.rg [p 7 (.fa 1 (.t 1)),
 p 8 (.ld (.t 7)),
 p 9 (.fa 1 (.t 3)),
 ⟨none, .st (.t 9) (.t 8), none, false⟩])
 (.seq (.rg [p 10 (.ldn 2 (.t 3)),
 ⟨none, .stn 2 (.t 2) (.t 10), none, false⟩])
 .ret))))),
 [.celln 2 2]⟩
def F172 : Fnc := ⟨(.seq (.rg [p 4 (.mv (.k (.bool false)))])
 (.seq (.rg [p 5 (.mv (.t 1)),
 p 6 (.call 183 [(.t 5)]),
 p 7 (.bin .gtr (.t 6) (.k (.int .i64 0))),
 p 8 (.mv (.t 7)),
 ⟨(some 9), .mv (.t 0), (some (8, true)), false⟩,
 ⟨(some 10), .bin .geq (.t 9) (.k (.int .i64 0)), (some (8, true)), false⟩,
 p 11 (.pick (.t 8) (.t 10) (.k (.bool false))),
 p 12 (.mv (.t 11)),
 ⟨(some 13), .mv (.t 0), (some (12, true)), false⟩,
 ⟨(some 14), .mv (.t 1), (some (12, true)), false⟩,
 ⟨(some 15), .call 183 [(.t 14)], (some (12, true)), false⟩,
 ⟨(some 16), .bin .rem (.t 13) (.t 15), (some (12, true)), false⟩,
 ⟨(some 17), .bin .eql (.t 16) (.k (.int .i64 0)), (some (12, true)), false⟩,
 p 18 (.pick (.t 12) (.t 17) (.k (.bool false))),
 p 4 (.mv (.t 18))])
 .ret)),
 [.tmp 4]⟩
def F173 : Fnc := ⟨(.seq (.rg [p 2 (.mv (.k (.int .i64 0)))])
 (.seq (.seq (.rg [p 3 (.mv (.t 0)),
 p 4 (.call 230 [(.t 3), (.k (.int .i64 0)), (.k (.int .i64 3))]),
 p 5 (.not (.t 4))])
 (.cond (.t 5) (.seq (.rg [p 2 (.mv (.k (.int .i64 0)))])
 .ret)
 .skip))
 (.seq (.rg [p 6 (.bs 1 4 [.int .i64 0] [(0, (.k (.int .i64 1))), (1, (.k (.int .i64 4))), (2, (.k (.int .i64 4))), (3, (.k (.int .i64 8)))]),
 p 7 (.mv (.t 0)),
 p 8 (.ia 1 (.t 6) (.t 7)),
 p 9 (.ld (.t 8)),
 p 2 (.mv (.t 9))])
 .ret))),
 [.tmp 2]⟩
def F176 : Fnc := ⟨(.seq (.rg [p 2 (.box (.t 0)),
 p 3 (.box (.t 1)),
 p 4 (.mv (.k (.bool false)))])
 (.seq (.seq (.rg [p 5 (.fa 1 (.t 3)),
 p 6 (.ld (.t 5)),
 p 7 (.not (.t 6))])
 (.cond (.t 7) (.seq (.rg [p 8 (.ldn 2 (.t 2)),
 p 9 (.bd [.int .i64 0, .int .i64 0] []),
 p 10 (.eqs false [.i, .i] (.t 8) (.t 9)),
 p 4 (.mv (.t 10))])
 .ret)
 .skip))
 (.seq (.rg [p 11 (.fa 0 (.t 2)),
 p 12 (.ld (.t 11)),
 p 13 (.fa 3 (.t 3)),
 p 14 (.ld (.t 13)),
 p 15 (.call 230 [(.t 12), (.k (.int .i64 0)), (.t 14)]),
 p 16 (.mv (.t 15)),
 ⟨(some 17), .fa 1 (.t 2), (some (16, true)), false⟩,
 ⟨(some 18), .ld (.t 17), (some (16, true)), false⟩,
 ⟨(some 19), .fa 2 (.t 3), (some (16, true)), false⟩,
 ⟨(some 20), .ld (.t 19), (some (16, true)), false⟩,
 ⟨(some 21), .bin .sub (.t 20) (.k (.int .i64 1)), (some (16, true)), false⟩,
 ⟨(some 22), .call 230 [(.t 18), (.k (.int .i64 0)), (.t 21)], (some (16, true)), false⟩,
 p 23 (.pick (.t 16) (.t 22) (.k (.bool false))),
 p 4 (.mv (.t 23))])
 .ret))),
 [.tmp 4]⟩
def F179 : Fnc := ⟨(.seq (.rg [p 6 (.mv (.k (.slice none 0 0)))])
 (.seq (.rg [p 8 (.bs 1 0 [.int .i64 0] []),
 p 7 (.mv (.t 8))])
 (.seq (.block 0 (.loop (.seq (.seq (.rg [p 9 (.mv (.t 7)),
 p 10 (.len (.t 9)),
 p 11 (.mv (.t 2)),
 p 12 (.call 173 [(.t 11)]),
 p 13 (.bin .lss (.t 10) (.t 12)),
 p 14 (.mv (.t 13)),
 ⟨(some 15), .mv (.t 0), (some (14, true)), false⟩,
 ⟨(some 16), .mv (.t 1), (some (14, true)), false⟩,
 ⟨(some 17), .mv (.t 2), (some (14, true)), false⟩,
 ⟨(some 18), .call 205 [(.t 15), (.t 16), (.t 17)], (some (14, true)), false⟩,
 ⟨(some 19), .bin .geq (.t 18) (.k (.int .i64 0)), (some (14, true)), false⟩,
 p 20 (.pick (.t 14) (.t 19) (.k (.bool false)))])
 (.cond (.t 20) .skip
 (.exit 0)))
 (.block 1 (.seq (.rg [p 21 (.mv (.t 7)),
 p 22 (.mv (.t 0)),
 p 23 (.bs 1 1 [.int .i64 0] [(0, (.t 22))]),
 p 24 (.app 1 8 (.t 21) (.t 23)),
 p 7 (.mv (.t 24))])
 (.rg [p 25 (.mv (.t 0)),
 p 26 (.mv (.t 1)),
 p 27 (.mv (.t 2)),
 p 28 (.call 205 [(.t 25), (.t 26), (.t 27)]),
 p 0 (.mv (.t 28))]))))))
 (.seq (.seq (.rg [p 29 (.mv (.t 7)),
 p 30 (.len (.t 29)),
 p 31 (.mv (.t 2)),
 p 32 (.call 173 [(.t 31)]),
 p 33 (.bin .lss (.t 30) (.t 32))])
 (.cond (.t 33) (.seq (.rg [p 34 (.bs 1 0 [.int .i64 0] []),
 p 6 (.mv (.t 34))])
 .ret)
 .skip))
 (.seq (.rg [p 35 (.mv (.t 7)),
 p 6 (.mv (.t 35))])
 .ret))))),
 [.tmp 6]⟩
def F180 : Fnc := ⟨(.seq (.rg [p 6 (.mv (.k (.bool false)))])
 (.seq (.rg [p 9 (.mv (.t 0)),
 p 10 (.mv (.t 1)),
 p 11 (.mv (.t 2)),
 p 12 (.call 179 [(.t 9), (.t 10), (.t 11)]),
 p 7 (.mv (.t 12))])
 (.seq (.seq (.rg [p 8 (.mv (.k (.int .i64 0)))])
 (.block 0 (.loop (.seq (.seq (.rg [p 13 (.mv (.t 8)),
 p 14 (.mv (.t 7)),
 p 15 (.len (.t 14)),
 p 16 (.bin .lss (.t 13) (.t 15))])
 (.cond (.t 16) .skip
 (.exit 0)))
 (.seq (.block 1 (.seq (.rg [⟨(some 19), .mv (.t 7), none, true⟩,
 ⟨(some 20), .mv (.t 8), none, true⟩,
 ⟨(some 21), .ia 1 (.t 19) (.t 20), none, true⟩,
 ⟨(some 22), .ld (.t 21), none, true⟩,
 ⟨(some 23), .bin .quo (.t 22) (.k (.int .i64 64)), none, true⟩,
 ⟨(some 24), .mv (.t 7), none, true⟩,
 ⟨(some 25), .ia 1 (.t 24) (.k (.int .i64 0)), none, true⟩,
 ⟨(some 26), .ld (.t 25), none, true⟩,
 ⟨(some 27), .bin .quo (.t 26) (.k (.int .i64 64)), none, true⟩,
 p 28 (.bin .neq (.t 23) (.t 27))])
 (.cond (.t 28) (.seq (.rg [p 6 (.mv (.k (.bool false)))])
 .ret)
 .skip)))
 (.rg [p 17 (.mv (.t 8)),
 p 18 (.bin .add (.t 17) (.k (.int .i64 1))),
 p 8 (.mv (.t 18))]))))))
 (.seq (.rg [p 29 (.mv (.t 7)),
 p 30 (.len (.t 29)),
 p 31 (.bin .gtr (.t 30) (.k (.int .i64 0))),
 p 6 (.mv (.t 31))])
 .ret)))),
 [.tmp 6]⟩
def F182 : Fnc := ⟨(.seq (.rg [p 1 (.box (.t 0)),
 p 2 (.mv (.k (.bool false)))])
 (.seq (.rg [p 5 (.fa 0 (.t 1)),
 p 6 (.fa 0 (.t 5)),
 p 7 (.ld (.t 6)),
 p 8 (.len (.t 7)),
 p 3 (.mv (.t 8))])
 (.seq (.seq (.rg [p 9 (.fa 0 (.t 1)),
 p 10 (.ldn 6 (.t 9)),
 p 11 (.call 184 [(.t 10)]),
 p 12 (.not (.t 11)),
 p 13 (.mv (.t 12)),
 ⟨(some 14), .fa 6 (.t 1), (some (13, false)), false⟩,
 ⟨(some 15), .ld (.t 14), (some (13, false)), false⟩,
 ⟨(some 16), .call 230 [(.t 15), (.k (.int .i64 0)), (.k (.int .i64 4000))], (some (13, false)), false⟩,
 ⟨(some 17), .not (.t 16), (some (13, false)), false⟩,
 p 18 (.pick (.t 13) (.k (.bool true)) (.t 17)),
 p 19 (.mv (.t 18)),
 ⟨(some 20), .fa 7 (.t 1), (some (19, false)), false⟩,
 ⟨(some 21), .ld (.t 20), (some (19, false)), false⟩,
 ⟨(some 22), .len (.t 21), (some (19, false)), false⟩,
 ⟨(some 23), .mv (.t 3), (some (19, false)), false⟩,
 ⟨(some 24), .bin .neq (.t 22) (.t 23), (some (19, false)), false⟩,
 p 25 (.pick (.t 19) (.k (.bool true)) (.t 24)),
 p 26 (.mv (.t 25)),
 ⟨(some 27), .fa 10 (.t 1), (some (26, false)), false⟩,
 ⟨(some 28), .ld (.t 27), (some (26, false)), false⟩,
 ⟨(some 29), .len (.t 28), (some (26, false)), false⟩,
 ⟨(some 30), .mv (.t 3), (some (26, false)), false⟩,
 ⟨(some 31), .bin .neq (.t 29) (.t 30), (some (26, false)), false⟩,
 p 32 (.pick (.t 26) (.k (.bool true)) (.t 31)),
 p 33 (.mv (.t 32)),
 ⟨(some 34), .fa 11 (.t 1), (some (33, false)), false⟩,
 ⟨(some 35), .ld (.t 34), (some (33, false)), false⟩,
 ⟨(some 36), .len (.t 35), (some (33, false)), false⟩,
 ⟨(some 37), .mv (.t 3), (some (33, false)), false⟩,
 ⟨(some 38), .bin .neq (.t 36) (.t 37), (some (33, false)), false⟩,
 p 39 (.pick (.t 33) (.k (.bool true)) (.t 38)),
 p 40 (.mv (.t 39)),
 ⟨(some 41), .fa 8 (.t 1), (some (40, false)), false⟩,
 ⟨(some 42), .ldn 2 (.t 41), (some (40, false)), false⟩,
 ⟨(some 43), .fa 0 (.t 1), (some (40, false)), false⟩,
 ⟨(some 44), .ldn 6 (.t 43), (some (40, false)), false⟩,
 ⟨(some 45), .call 217 [(.t 42), (.t 44)], (some (40, false)), false⟩,
 ⟨(some 46), .not (.t 45), (some (40, false)), false⟩,
 p 47 (.pick (.t 40) (.k (.bool true)) (.t 46)),
 p 48 (.mv (.t 47)),
 ⟨(some 49), .fa 14 (.t 1), (some (48, false)), false⟩,
 ⟨(some 50), .ld (.t 49), (some (48, false)), false⟩,
 ⟨(some 51), .mv (.t 3), (some (48, false)), false⟩,
 ⟨(some 52), .bin .sub (.t 51) (.k (.int .i64 1)), (some (48, false)), false⟩,
 ⟨(some 53), .call 230 [(.t 50), (.k (.int .i64 (-1))), (.t 52)], (some (48, false)), false⟩,
 ⟨(some 54), .not (.t 53), (some (48, false)), false⟩,
 p 55 (.pick (.t 48) (.k (.bool true)) (.t 54)),
 p 56 (.mv (.t 55)),
 ⟨(some 57), .fa 31 (.t 1), (some (56, false)), false⟩,
 ⟨(some 58), .ldn 4 (.t 57), (some (56, false)), false⟩,
 ⟨(some 59), .call 203 [(.t 58)], (some (56, false)), false⟩,
 ⟨(some 60), .not (.t 59), (some (56, false)), false⟩,
 p 61 (.pick (.t 56) (.k (.bool true)) (.t 60)),
 p 62 (.mv (.t 61)),
 ⟨(some 63), .fa 35 (.t 1), (some (62, false)), false⟩,
 ⟨(some 64), .ld (.t 63), (some (62, false)), false⟩,
 ⟨(some 65), .bin .lss (.t 64) (.k (.int .i64 0)), (some (62, false)), false⟩,
 p 66 (.pick (.t 62) (.k (.bool true)) (.t 65)),
 p 67 (.mv (.t 66)),
 ⟨(some 68), .fa 35 (.t 1), (some (67, false)), false⟩,
 ⟨(some 69), .ld (.t 68), (some (67, false)), false⟩,
 ⟨(some 70), .fa 6 (.t 1), (some (67, false)), false⟩,
 ⟨(some 71), .ld (.t 70), (some (67, false)), false⟩,
 ⟨(some 72), .bin .gtr (.t 69) (.t 71), (some (67, false)), false⟩,
 p 73 (.pick (.t 67) (.k (.bool true)) (.t 72))])
 (.cond (.t 73) (.seq (.rg [p 2 (.mv (.k (.bool false)))])
 .ret)
 .skip))
 (.seq (.seq (.rg [p 4 (.mv (.k (.int .i64 0)))])
 (.block 0 (.loop (.seq (.seq (.rg [p 74 (.mv (.t 4)),
 p 75 (.mv (.t 3)),
 p 76 (.bin .lss (.t 74) (.t 75))])
 (.cond (.t 76) .skip
 (.exit 0)))
 (.seq (.block 1 (.seq (.rg [⟨(some 79), .fa 7 (.t 1), none, true⟩,
 ⟨(some 80), .ld (.t 79), none, true⟩,
 ⟨(some 81), .mv (.t 4), none, true⟩,
 ⟨(some 82), .ia 6 (.t 80) (.t 81), none, true⟩,
 ⟨(some 83), .ldn 6 (.t 82), none, true⟩,
 ⟨(some 84), .fa 0 (.t 1), none, true⟩,
 ⟨(some 85), .ldn 6 (.t 84), none, true⟩,
 p 86 (.call 204 [(.t 83), (.t 85)]),
 p 87 (.not (.t 86)),
 p 88 (.mv (.t 87)),
 ⟨(some 89), .fa 10 (.t 1), (some (88, false)), true⟩,
 ⟨(some 90), .ld (.t 89), (some (88, false)), true⟩,
 ⟨(some 91), .mv (.t 4), (some (88, false)), true⟩,
 ⟨(some 92), .ia 2 (.t 90) (.t 91), (some (88, false)), true⟩,
 ⟨(some 93), .ldn 2 (.t 92), (some (88, false)), true⟩,
 ⟨(some 94), .fa 0 (.t 1), (some (88, false)), true⟩,
 ⟨(some 95), .fa 0 (.t 94), (some (88, false)), true⟩,
 ⟨(some 96), .ld (.t 95), (some (88, false)), true⟩,
 ⟨(some 97), .mv (.t 4), (some (88, false)), true⟩,
 ⟨(some 98), .ia 4 (.t 96) (.t 97), (some (88, false)), true⟩,
 ⟨(some 99), .ldn 4 (.t 98), (some (88, false)), true⟩,
 ⟨(some 100), .call 176 [(.t 93), (.t 99)], (some (88, false)), false⟩,
 ⟨(some 101), .not (.t 100), (some (88, false)), false⟩,
 p 102 (.pick (.t 88) (.k (.bool true)) (.t 101)),
 p 103 (.mv (.t 102)),
 ⟨(some 104), .fa 11 (.t 1), (some (103, false)), true⟩,
 ⟨(some 105), .ld (.t 104), (some (103, false)), true⟩,
 ⟨(some 106), .mv (.t 4), (some (103, false)), true⟩,
 ⟨(some 107), .ia 1 (.t 105) (.t 106), (some (103, false)), true⟩,
 ⟨(some 108), .ld (.t 107), (some (103, false)), true⟩,
 ⟨(some 109), .fa 0 (.t 1), (some (103, false)), true⟩,
 ⟨(some 110), .fa 4 (.t 109), (some (103, false)), true⟩,
 ⟨(some 111), .ld (.t 110), (some (103, false)), true⟩,
 ⟨(some 112), .call 230 [(.t 108), (.k (.int .i64 0)), (.t 111)], (some (103, false)), false⟩,
 ⟨(some 113), .not (.t 112), (some (103, false)), false⟩,
 p 114 (.pick (.t 103) (.k (.bool true)) (.t 113)),
 p 115 (.mv (.t 114)),
 ⟨(some 116), .fa 7 (.t 1), (some (115, false)), true⟩,
 ⟨(some 117), .ld (.t 116), (some (115, false)), true⟩,
 ⟨(some 118), .mv (.t 4), (some (115, false)), true⟩,
 ⟨(some 119), .ia 6 (.t 117) (.t 118), (some (115, false)), true⟩,
 ⟨(some 120), .fa 1 (.t 119), (some (115, false)), true⟩,
 ⟨(some 121), .ld (.t 120), (some (115, false)), true⟩,
 ⟨(some 122), .fa 7 (.t 1), (some (115, false)), true⟩,
 ⟨(some 123), .ld (.t 122), (some (115, false)), true⟩,
 ⟨(some 124), .mv (.t 4), (some (115, false)), true⟩,
 ⟨(some 125), .ia 6 (.t 123) (.t 124), (some (115, false)), true⟩,
 ⟨(some 126), .fa 2 (.t 125), (some (115, false)), true⟩,
 ⟨(some 127), .ld (.t 126), (some (115, false)), true⟩,
 ⟨(some 128), .bin .sub (.t 121) (.t 127), (some (115, false)), true⟩,
 ⟨(some 129), .ldn 37 (.t 1), (some (115, false)), true⟩,
 ⟨(some 130), .mv (.t 4), (some (115, false)), true⟩,
 ⟨(some 131), .call 226 [(.t 129), (.t 130)], (some (115, false)), true⟩,
 ⟨(some 132), .bin .neq (.t 128) (.t 131), (some (115, false)), false⟩,
 p 133 (.pick (.t 115) (.k (.bool true)) (.t 132))])
 (.cond (.t 133) (.seq (.rg [p 2 (.mv (.k (.bool false)))])
 .ret)
 .skip)))
 (.rg [p 77 (.mv (.t 4)),
 p 78 (.bin .add (.t 77) (.k (.int .i64 1))),
 p 4 (.mv (.t 78))]))))))
 (.seq (.rg [p 134 (.ldn 37 (.t 1)),
 p 135 (.fa 23 (.t 1)),
 p 136 (.ldn 8 (.t 135)),
 p 137 (.call 222 [(.t 134), (.t 136), (.k (.bool true))]),
 p 138 (.mv (.t 137)),
 ⟨(some 139), .ldn 37 (.t 1), (some (138, true)), false⟩,
 ⟨(some 140), .fa 15 (.t 1), (some (138, true)), false⟩,
 ⟨(some 141), .ldn 8 (.t 140), (some (138, true)), false⟩,
 ⟨(some 142), .call 222 [(.t 139), (.t 141), (.k (.bool false))], (some (138, true)), false⟩,
 p 143 (.pick (.t 138) (.t 142) (.k (.bool false))),
 p 144 (.mv (.t 143)),
 ⟨(some 145), .ldn 37 (.t 1), (some (144, true)), false⟩,
 ⟨(some 146), .call 223 [(.t 145)], (some (144, true)), false⟩,
 p 147 (.pick (.t 144) (.t 146) (.k (.bool false))),
 p 148 (.mv (.t 147)),
 ⟨(some 149), .ldn 37 (.t 1), (some (148, true)), false⟩,
 ⟨(some 150), .call 224 [(.t 149)], (some (148, true)), false⟩,
 p 151 (.pick (.t 148) (.t 150) (.k (.bool false))),
 p 2 (.mv (.t 151))])
 .ret))))),
 [.tmp 2]⟩
def F183 : Fnc := ⟨(.seq (.rg [p 2 (.mv (.k (.int .i64 0)))])
 (.seq (.seq (.rg [p 3 (.mv (.t 0)),
 p 4 (.call 230 [(.t 3), (.k (.int .i64 0)), (.k (.int .i64 2))]),
 p 5 (.not (.t 4))])
 (.cond (.t 5) (.seq (.rg [p 2 (.mv (.k (.int .i64 0)))])
 .ret)
 .skip))
 (.seq (.rg [p 6 (.mv (.t 0)),
 p 7 (.bin .shl (.k (.int .i64 1)) (.t 6)),
 p 2 (.mv (.t 7))])
 .ret))),
 [.tmp 2]⟩
def F184 : Fnc := ⟨(.seq (.rg [p 1 (.box (.t 0)),
 p 2 (.mv (.k (.bool false)))])
 (.seq (.rg [p 3 (.mv (.k (.int .i64 0)))])
 (.seq (.seq (.rg [p 4 (.mv (.k (.int .i64 0)))])
 (.block 0 (.loop (.seq (.seq (.rg [p 7 (.mv (.t 4)),
 p 8 (.fa 0 (.t 1)),
 p 9 (.ld (.t 8)),
 p 10 (.len (.t 9)),
 p 11 (.bin .lss (.t 7) (.t 10))])
 (.cond (.t 11) .skip
 (.exit 0)))
 (.seq (.block 1 (.seq (.rg [p 14 (.fa 0 (.t 1)),
 p 15 (.ld (.t 14)),
 p 16 (.mv (.t 4)),
 p 17 (.ia 4 (.t 15) (.t 16)),
 p 18 (.fa 1 (.t 17)),
 p 19 (.ld (.t 18))])
 (.cond (.t 19) (.rg [p 20 (.mv (.t 3)),
 p 21 (.bin .add (.t 20) (.k (.int .i64 1))),
 p 3 (.mv (.t 21))])
 .skip)))
 (.rg [p 12 (.mv (.t 4)),
 p 13 (.bin .add (.t 12) (.k (.int .i64 1))),
 p 4 (.mv (.t 13))]))))))
 (.seq (.seq (.rg [p 5 (.mv (.k (.int .i64 0)))])
 (.block 2 (.loop (.seq (.seq (.rg [p 22 (.mv (.t 5)),
 p 23 (.fa 0 (.t 1)),
 p 24 (.ld (.t 23)),
 p 25 (.len (.t 24)),
 p 26 (.bin .lss (.t 22) (.t 25))])
 (.cond (.t 26) .skip
 (.exit 2)))
 (.seq (.block 3 (.seq (.rg [p 29 (.fa 0 (.t 1)),
 p 30 (.ld (.t 29)),
 p 31 (.mv (.t 5)),
 p 32 (.ia 4 (.t 30) (.t 31)),
 p 33 (.ldn 4 (.t 32)),
 p 6 (.new [.int .i64 0, .bool false, .int .i64 0, .int .i64 0]),
 ⟨none, .stn 4 (.t 6) (.t 33), none, false⟩])
 (.seq (.rg [p 34 (.fa 0 (.t 6)),
 p 35 (.ld (.t 34)),
 p 36 (.call 230 [(.t 35), (.k (.int .i64 1)), (.k (.int .i64 4))]),
 p 37 (.not (.t 36)),
 p 38 (.mv (.t 37)),
 ⟨(some 39), .fa 1 (.t 6), (some (38, false)), false⟩,
 ⟨(some 40), .ld (.t 39), (some (38, false)), false⟩,
 ⟨(some 41), .not (.t 40), (some (38, false)), false⟩,
 ⟨(some 42), .mv (.t 41), (some (38, false)), false⟩,
 ⟨(some 43), .fa 2 (.t 6), (some (42, true)), false⟩,
 ⟨(some 44), .ld (.t 43), (some (42, true)), false⟩,
 ⟨(some 45), .bin .neq (.t 44) (.k (.int .i64 0)), (some (42, true)), false⟩,
 ⟨(some 46), .mv (.t 45), (some (42, true)), false⟩,
 ⟨(some 47), .fa 3 (.t 6), (some (46, false)), false⟩,
 ⟨(some 48), .ld (.t 47), (some (46, false)), false⟩,
 ⟨(some 49), .bin .neq (.t 48) (.k (.int .i64 0)), (some (46, false)), false⟩,
 ⟨(some 50), .pick (.t 46) (.k (.bool true)) (.t 49), (some (42, true)), false⟩,
 ⟨(some 51), .pick (.t 42) (.t 50) (.k (.bool false)), (some (38, false)), false⟩,
 p 52 (.pick (.t 38) (.k (.bool true)) (.t 51)),
 p 53 (.mv (.t 52)),
 ⟨(some 54), .fa 1 (.t 6), (some (53, false)), false⟩,
 ⟨(some 55), .ld (.t 54), (some (53, false)), false⟩,
 ⟨(some 56), .mv (.t 55), (some (53, false)), false⟩,
 ⟨(some 57), .fa 2 (.t 6), (some (56, true)), true⟩,
 ⟨(some 58), .ld (.t 57), (some (56, true)), true⟩,
 ⟨(some 59), .mv (.t 3), (some (56, true)), true⟩,
 ⟨(some 60), .bin .mul (.k (.int .i64 2)) (.t 59), (some (56, true)), true⟩,
 ⟨(some 61), .ldn 6 (.t 1), (some (56, true)), true⟩,
 ⟨(some 62), .call 214 [(.t 61)], (some (56, true)), true⟩,
 ⟨(some 63), .bin .mul (.t 60) (.t 62), (some (56, true)), true⟩,
 ⟨(some 64), .call 230 [(.t 58), (.t 63), (.k (.int .i64 1000))], (some (56, true)), false⟩,
 ⟨(some 65), .not (.t 64), (some (56, true)), false⟩,
 ⟨(some 66), .mv (.t 65), (some (56, true)), false⟩,
 ⟨(some 67), .fa 3 (.t 6), (some (66, false)), false⟩,
 ⟨(some 68), .ld (.t 67), (some (66, false)), false⟩,
 ⟨(some 69), .call 230 [(.t 68), (.k (.int .i64 1)), (.k (.int .i64 8))], (some (66, false)), false⟩,
 ⟨(some 70), .not (.t 69), (some (66, false)), false⟩,
 ⟨(some 71), .pick (.t 66) (.k (.bool true)) (.t 70), (some (56, true)), false⟩,
 ⟨(some 72), .pick (.t 56) (.t 71) (.k (.bool false)), (some (53, false)), false⟩,
 p 73 (.pick (.t 53) (.k (.bool true)) (.t 72))])
 (.cond (.t 73) (.seq (.rg [p 2 (.mv (.k (.bool false)))])
 .ret)
 .skip))))
 (.rg [p 27 (.mv (.t 5)),
 p 28 (.bin .add (.t 27) (.k (.int .i64 1))),
 p 5 (.mv (.t 28))]))))))
 (.seq (.rg [p 74 (.fa 0 (.t 1)),
 p 75 (.ld (.t 74)),
 p 76 (.len (.t 75)),
 p 77 (.call 230 [(.t 76), (.k (.int .i64 1)), (.k (.int .i64 4))]),
 p 78 (.mv (.t 77)),
 ⟨(some 79), .ldn 6 (.t 1), (some (78, true)), false⟩,
 ⟨(some 80), .call 245 [(.t 79)], (some (78, true)), false⟩,
 p 81 (.pick (.t 78) (.t 80) (.k (.bool false))),
 p 2 (.mv (.t 81))])
 .ret))))),
 [.tmp 2]⟩
def F186 : Fnc := ⟨(.seq (.rg [p 1 (.box (.t 0)),
 p 2 (.mv (.k (.int .i64 0)))])
 (.seq (.seq (.rg [p 3 (.fa 3 (.t 1)),
 p 4 (.ld (.t 3)),
 p 5 (.call 230 [(.t 4), (.k (.int .i64 0)), (.k (.int .i64 3))]),
 p 6 (.not (.t 5)),
 p 7 (.mv (.t 6)),
 ⟨(some 8), .fa 2 (.t 1), (some (7, false)), false⟩,
 ⟨(some 9), .ld (.t 8), (some (7, false)), false⟩,
 ⟨(some 10), .call 230 [(.t 9), (.k (.int .i64 0)), (.k (.int .i64 3))], (some (7, false)), false⟩,
 ⟨(some 11), .not (.t 10), (some (7, false)), false⟩,
 p 12 (.pick (.t 7) (.k (.bool true)) (.t 11))])
 (.cond (.t 12) (.seq (.rg [p 2 (.mv (.k (.int .i64 0)))])
 .ret)
 .skip))
 (.seq (.rg [p 13 (.fa 3 (.t 1)),
 p 14 (.ld (.t 13)),
 p 15 (.bin .add (.t 14) (.k (.int .i64 2))),
 p 16 (.fa 2 (.t 1)),
 p 17 (.ld (.t 16)),
 p 18 (.bin .add (.t 17) (.k (.int .i64 6))),
 p 19 (.bin .mul (.t 15) (.t 18)),
 p 2 (.mv (.t 19))])
 .ret))),
 [.tmp 2]⟩
def F189 : Fnc := ⟨(.seq (.rg [p 1 (.box (.t 0)),
 p 2 (.mv (.k (.bool false)))])
 (.seq (.rg [p 3 (.fa 0 (.t 1)),
 p 4 (.ld (.t 3)),
 p 5 (.len (.t 4)),
 p 6 (.bin .eql (.t 5) (.k (.int .i64 4))),
 p 7 (.mv (.t 6)),
 ⟨(some 8), .fa 0 (.t 1), (some (7, true)), false⟩,
 ⟨(some 9), .ld (.t 8), (some (7, true)), false⟩,
 ⟨(some 10), .call 250 [(.t 9)], (some (7, true)), false⟩,
 p 11 (.pick (.t 7) (.t 10) (.k (.bool false))),
 p 12 (.mv (.t 11)),
 ⟨(some 13), .fa 1 (.t 1), (some (12, true)), true⟩,
 ⟨(some 14), .ld (.t 13), (some (12, true)), true⟩,
 ⟨(some 15), .call 201 [(.k (.int .i64 2))], (some (12, true)), true⟩,
 ⟨(some 16), .bin .sub (.t 15) (.k (.int .i64 1)), (some (12, true)), true⟩,
 ⟨(some 17), .call 230 [(.t 14), (.k (.int .i64 0)), (.t 16)], (some (12, true)), false⟩,
 p 18 (.pick (.t 12) (.t 17) (.k (.bool false))),
 p 19 (.mv (.t 18)),
 ⟨(some 20), .fa 2 (.t 1), (some (19, true)), false⟩,
 ⟨(some 21), .ld (.t 20), (some (19, true)), false⟩,
 ⟨(some 22), .len (.t 21), (some (19, true)), false⟩,
 ⟨(some 23), .bin .leq (.t 22) (.k (.int .i64 4)), (some (19, true)), false⟩,
 p 24 (.pick (.t 19) (.t 23) (.k (.bool false))),
 p 25 (.mv (.t 24)),
 ⟨(some 26), .fa 2 (.t 1), (some (25, true)), false⟩,
 ⟨(some 27), .ld (.t 26), (some (25, true)), false⟩,
 ⟨(some 28), .call 250 [(.t 27)], (some (25, true)), false⟩,
 p 29 (.pick (.t 25) (.t 28) (.k (.bool false))),
 p 2 (.mv (.t 29))])
 .ret)),
 [.tmp 2]⟩
def F199 : Fnc := ⟨(.seq (.rg [p 1 (.box (.t 0)),
 p 2 (.mv (.k (.bool false)))])
 (.seq (.seq (.rg [p 3 (.mv (.k (.int .i64 0)))])
 (.block 0 (.loop (.seq (.seq (.rg [p 4 (.mv (.t 3)),
 p 5 (.fa 7 (.t 1)),
 p 6 (.ld (.t 5)),
 p 7 (.len (.t 6)),
 p 8 (.bin .lss (.t 4) (.t 7))])
 (.cond (.t 8) .skip
 (.exit 0)))
 (.seq (.block 1 (.seq (.rg [p 11 (.fa 7 (.t 1)),
 p 12 (.ld (.t 11)),
 p 13 (.mv (.t 3)),
 p 14 (.ia 6 (.t 12) (.t 13)),
 p 15 (.fa 0 (.t 14)),
 p 16 (.ld (.t 15)),
 p 17 (.len (.t 16)),
 p 18 (.bin .gtr (.t 17) (.k (.int .i64 0)))])
 (.cond (.t 18) (.seq (.rg [p 2 (.mv (.k (.bool false)))])
 .ret)
 .skip)))
 (.rg [p 9 (.mv (.t 3)),
 p 10 (.bin .add (.t 9) (.k (.int .i64 1))),
 p 3 (.mv (.t 10))]))))))
 (.seq (.rg [p 19 (.ldn 37 (.t 1)),
 p 20 (.call 182 [(.t 19)]),
 p 2 (.mv (.t 20))])
 .ret))),
 [.tmp 2]⟩
def F201 : Fnc := ⟨(.seq (.rg [p 2 (.mv (.k (.int .i64 0)))])
 (.seq (.seq (.rg [p 3 (.mv (.t 0)),
 p 4 (.call 183 [(.t 3)]),
 p 5 (.bin .eql (.t 4) (.k (.int .i64 0)))])
 (.cond (.t 5) (.seq (.rg [p 2 (.mv (.k (.int .i64 0)))])
 .ret)
 .skip))
 (.seq (.rg [p 6 (.mv (.t 0)),
 p 7 (.call 183 [(.t 6)]),
 p 8 (.bin .mul (.k (.int .i64 8)) (.t 7)),
 p 9 (.bin .shl (.k (.int .i64 1)) (.t 8)),
 p 2 (.mv (.t 9))])
 .ret))),
 [.tmp 2]⟩
def F203 : Fnc := ⟨(.seq (.rg [p 1 (.box (.t 0)),
 p 2 (.mv (.k (.bool false)))])
 (.seq (.rg [p 3 (.fa 0 (.t 1)),
 p 4 (.ld (.t 3)),
 p 5 (.len (.t 4)),
 p 6 (.bin .eql (.t 5) (.k (.int .i64 192))),
 p 7 (.mv (.t 6)),
 ⟨(some 8), .fa 0 (.t 1), (some (7, true)), false⟩,
 ⟨(some 9), .ld (.t 8), (some (7, true)), false⟩,
 ⟨(some 10), .call 238 [(.t 9)], (some (7, true)), false⟩,
 p 11 (.pick (.t 7) (.t 10) (.k (.bool false))),
 p 12 (.mv (.t 11)),
 ⟨(some 13), .fa 1 (.t 1), (some (12, true)), false⟩,
 ⟨(some 14), .ldn 3 (.t 13), (some (12, true)), false⟩,
 ⟨(some 15), .call 189 [(.t 14)], (some (12, true)), false⟩,
 p 16 (.pick (.t 12) (.t 15) (.k (.bool false))),
 p 2 (.mv (.t 16))])
 .ret)),
 [.tmp 2]⟩
def F204 : Fnc := ⟨(.seq (.rg [p 2 (.box (.t 0)),
 p 3 (.box (.t 1)),
 p 4 (.mv (.k (.bool false)))])
 (.seq (.rg [p 5 (.ldn 6 (.t 3)),
 p 6 (.call 184 [(.t 5)]),
 p 7 (.mv (.t 6)),
 ⟨(some 8), .ldn 6 (.t 2), (some (7, true)), false⟩,
 ⟨(some 9), .call 221 [(.t 8)], (some (7, true)), false⟩,
 p 10 (.pick (.t 7) (.t 9) (.k (.bool false))),
 p 11 (.mv (.t 10)),
 ⟨(some 12), .fa 3 (.t 2), (some (11, true)), false⟩,
 ⟨(some 13), .ld (.t 12), (some (11, true)), false⟩,
 ⟨(some 14), .fa 3 (.t 3), (some (11, true)), false⟩,
 ⟨(some 15), .ld (.t 14), (some (11, true)), false⟩,
 ⟨(some 16), .bin .leq (.t 13) (.t 15), (some (11, true)), false⟩,
 p 17 (.pick (.t 11) (.t 16) (.k (.bool false))),
 p 4 (.mv (.t 17))])
 .ret)),
 [.tmp 4]⟩
def F205 : Fnc := ⟨(.seq (.rg [p 6 (.mv (.k (.int .i64 0)))])
 (.seq (.rg [p 8 (.mv (.t 1)),
 p 9 (.call 183 [(.t 8)]),
 p 7 (.mv (.t 9))])
 (.seq (.seq (.rg [p 10 (.mv (.t 0)),
 p 11 (.mv (.t 1)),
 p 12 (.call 172 [(.t 10), (.t 11)]),
 p 13 (.not (.t 12)),
 p 14 (.mv (.t 13)),
 ⟨(some 15), .mv (.t 0), (some (14, false)), false⟩,
 ⟨(some 16), .call 230 [(.t 15), (.k (.int .i64 0)), (.k (.int .i64 511))], (some (14, false)), false⟩,
 ⟨(some 17), .not (.t 16), (some (14, false)), false⟩,
 p 18 (.pick (.t 14) (.k (.bool true)) (.t 17)),
 p 19 (.mv (.t 18)),
 ⟨(some 20), .mv (.t 2), (some (19, false)), false⟩,
 ⟨(some 21), .call 173 [(.t 20)], (some (19, false)), false⟩,
 ⟨(some 22), .bin .eql (.t 21) (.k (.int .i64 0)), (some (19, false)), false⟩,
 p 23 (.pick (.t 19) (.k (.bool true)) (.t 22))])
 (.cond (.t 23) (.seq (.rg [p 6 (.mv (.k (.int .i64 (-1))))])
 .ret)
 .skip))
 (.seq (.seq (.rg [p 24 (.mv (.t 2)),
 p 25 (.bin .eql (.t 24) (.k (.int .i64 2))),
 p 26 (.mv (.t 25)),
 ⟨(some 27), .mv (.t 0), (some (26, true)), false⟩,
 ⟨(some 28), .mv (.t 7), (some (26, true)), false⟩,
 ⟨(some 29), .bin .add (.t 27) (.t 28), (some (26, true)), false⟩,
 ⟨(some 30), .mv (.t 7), (some (26, true)), false⟩,
 ⟨(some 31), .bin .mul (.k (.int .i64 4)) (.t 30), (some (26, true)), false⟩,
 ⟨(some 32), .bin .rem (.t 29) (.t 31), (some (26, true)), false⟩,
 ⟨(some 33), .bin .eql (.t 32) (.k (.int .i64 0)), (some (26, true)), false⟩,
 p 34 (.pick (.t 26) (.t 33) (.k (.bool false)))])
 (.cond (.t 34) (.seq (.rg [p 35 (.mv (.t 0)),
 p 36 (.mv (.t 7)),
 p 37 (.bin .add (.t 35) (.t 36)),
 p 38 (.mv (.t 7)),
 p 39 (.bin .mul (.k (.int .i64 4)) (.t 38)),
 p 40 (.bin .sub (.t 37) (.t 39)),
 p 6 (.mv (.t 40))])
 .ret)
 .skip))
 (.seq (.rg [p 41 (.mv (.t 0)),
 p 42 (.mv (.t 7)),
 p 43 (.bin .add (.t 41) (.t 42)),
 p 6 (.mv (.t 43))])
 .ret))))),
 [.tmp 6]⟩
def F207 : Fnc := ⟨(.seq (.rg [p 1 (.box (.t 0)),
 p 2 (.mv (.k (.bool false)))])
 (.seq (.seq (.rg [p 4 (.fa 1 (.t 1)),
 p 5 (.ld (.t 4)),
 p 6 (.fa 2 (.t 1)),
 p 7 (.ld (.t 6)),
 p 8 (.fa 3 (.t 1)),
 p 9 (.ld (.t 8)),
 p 10 (.call 180 [(.t 5), (.t 7), (.t 9)]),
 p 11 (.not (.t 10))])
 (.cond (.t 11) (.seq (.rg [p 2 (.mv (.k (.bool false)))])
 .ret)
 .skip))
 (.seq (.seq (.rg [p 3 (.mv (.k (.int .i64 0)))])
 (.block 0 (.loop (.seq (.seq (.rg [p 12 (.mv (.t 3)),
 p 13 (.fa 5 (.t 1)),
 p 14 (.ld (.t 13)),
 p 15 (.len (.t 14)),
 p 16 (.bin .lss (.t 12) (.t 15))])
 (.cond (.t 16) .skip
 (.exit 0)))
 (.seq (.block 1 (.seq (.rg [⟨(some 19), .fa 5 (.t 1), none, true⟩,
 ⟨(some 20), .ld (.t 19), none, true⟩,
 ⟨(some 21), .mv (.t 3), none, true⟩,
 ⟨(some 22), .ia 1 (.t 20) (.t 21), none, true⟩,
 ⟨(some 23), .ld (.t 22), none, true⟩,
 ⟨(some 24), .fa 2 (.t 1), none, true⟩,
 ⟨(some 25), .ld (.t 24), none, true⟩,
 ⟨(some 26), .call 201 [(.t 25)], none, true⟩,
 ⟨(some 27), .bin .sub (.t 26) (.k (.int .i64 1)), none, true⟩,
 p 28 (.call 230 [(.t 23), (.k (.int .i64 0)), (.t 27)]),
 p 29 (.not (.t 28))])
 (.cond (.t 29) (.seq (.rg [p 2 (.mv (.k (.bool false)))])
 .ret)
 .skip)))
 (.rg [p 17 (.mv (.t 3)),
 p 18 (.bin .add (.t 17) (.k (.int .i64 1))),
 p 3 (.mv (.t 18))]))))))
 (.seq (.rg [p 30 (.fa 5 (.t 1)),
 p 31 (.ld (.t 30)),
 p 32 (.len (.t 31)),
 p 33 (.bin .eql (.t 32) (.k (.int .i64 0))),
 p 34 (.mv (.t 33)),
 ⟨(some 35), .fa 0 (.t 1), (some (34, true)), false⟩,
 ⟨(some 36), .ld (.t 35), (some (34, true)), false⟩,
 ⟨(some 37), .not (.t 36), (some (34, true)), false⟩,
 p 38 (.pick (.t 34) (.t 37) (.k (.bool false))),
 p 39 (.mv (.t 38)),
 ⟨(some 40), .fa 5 (.t 1), (some (39, false)), true⟩,
 ⟨(some 41), .ld (.t 40), (some (39, false)), true⟩,
 ⟨(some 42), .len (.t 41), (some (39, false)), true⟩,
 ⟨(some 43), .fa 3 (.t 1), (some (39, false)), true⟩,
 ⟨(some 44), .ld (.t 43), (some (39, false)), true⟩,
 ⟨(some 45), .call 173 [(.t 44)], (some (39, false)), true⟩,
 ⟨(some 46), .bin .eql (.t 42) (.t 45), (some (39, false)), false⟩,
 ⟨(some 47), .mv (.t 46), (some (39, false)), false⟩,
 ⟨(some 48), .fa 0 (.t 1), (some (47, true)), false⟩,
 ⟨(some 49), .ld (.t 48), (some (47, true)), false⟩,
 ⟨(some 50), .pick (.t 47) (.t 49) (.k (.bool false)), (some (39, false)), false⟩,
 p 51 (.pick (.t 39) (.k (.bool true)) (.t 50)),
 p 2 (.mv (.t 51))])
 .ret)))),
 [.tmp 2]⟩
def F208 : Fnc := ⟨(.seq (.rg [p 2 (.mv (.k (.string ⟨#[]⟩)))])
 (.seq (.seq (.rg [p 3 (.mv (.t 0)),
 p 4 (.call 230 [(.t 3), (.k (.int .i64 0)), (.k (.int .i64 3))]),
 p 5 (.not (.t 4))])
 (.cond (.t 5) (.seq (.rg [p 2 (.mv (.k (.string ⟨#[]⟩)))])
 .ret)
 .skip))
 (.seq (.rg [p 6 (.bs 1 4 [.string ⟨#[]⟩] [(0, (.k (.string ⟨#[111, 107, 97, 121]⟩))), (1, (.k (.string ⟨#[101, 114, 114, 111, 114]⟩))), (2, (.k (.string ⟨#[114, 101, 116, 114, 121]⟩))), (3, (.k (.string ⟨#[115, 112, 108, 105, 116]⟩)))]),
 p 7 (.mv (.t 0)),
 p 8 (.ia 1 (.t 6) (.t 7)),
 p 9 (.ld (.t 8)),
 p 2 (.mv (.t 9))])
 .ret))),
 [.tmp 2]⟩
def F214 : Fnc := ⟨(.seq (.rg [p 1 (.box (.t 0)),
 p 2 (.mv (.k (.int .i64 0)))])
 (.seq (.seq (.rg [p 3 (.ldn 6 (.t 1)),
 p 4 (.call 186 [(.t 3)]),
 p 5 (.bin .eql (.t 4) (.k (.int .i64 0))),
 p 6 (.mv (.t 5)),
 ⟨(some 7), .fa 5 (.t 1), (some (6, false)), false⟩,
 ⟨(some 8), .ld (.t 7), (some (6, false)), false⟩,
 ⟨(some 9), .call 230 [(.t 8), (.k (.int .i64 1)), (.k (.int .i64 40))], (some (6, false)), false⟩,
 ⟨(some 10), .not (.t 9), (some (6, false)), false⟩,
 p 11 (.pick (.t 6) (.k (.bool true)) (.t 10))])
 (.cond (.t 11) (.seq (.rg [p 2 (.mv (.k (.int .i64 0)))])
 .ret)
 .skip))
 (.seq (.rg [⟨(some 12), .ldn 6 (.t 1), none, true⟩,
 ⟨(some 13), .call 186 [(.t 12)], none, true⟩,
 ⟨(some 14), .bin .mul (.k (.int .i64 2)) (.t 13), none, true⟩,
 ⟨(some 15), .fa 5 (.t 1), none, true⟩,
 ⟨(some 16), .ld (.t 15), none, true⟩,
 p 17 (.bin .add (.t 14) (.t 16)),
 p 2 (.mv (.t 17))])
 .ret))),
 [.tmp 2]⟩
def F215 : Fnc := ⟨(.seq (.rg [p 2 (.box (.t 0)),
 p 4 (.mv (.k (.int .i64 0)))])
 (.seq (.seq (.rg [p 5 (.ldn 6 (.t 2)),
 p 6 (.call 184 [(.t 5)]),
 p 7 (.not (.t 6)),
 p 8 (.mv (.t 7)),
 ⟨(some 9), .mv (.t 1), (some (8, false)), false⟩,
 ⟨(some 10), .fa 0 (.t 2), (some (8, false)), false⟩,
 ⟨(some 11), .ld (.t 10), (some (8, false)), false⟩,
 ⟨(some 12), .len (.t 11), (some (8, false)), false⟩,
 ⟨(some 13), .bin .sub (.t 12) (.k (.int .i64 1)), (some (8, false)), false⟩,
 ⟨(some 14), .call 230 [(.t 9), (.k (.int .i64 0)), (.t 13)], (some (8, false)), false⟩,
 ⟨(some 15), .not (.t 14), (some (8, false)), false⟩,
 p 16 (.pick (.t 8) (.k (.bool true)) (.t 15))])
 (.cond (.t 16) (.seq (.rg [p 4 (.mv (.k (.int .i64 0)))])
 .ret)
 .skip))
 (.seq (.rg [⟨(some 17), .fa 0 (.t 2), none, true⟩,
 ⟨(some 18), .ld (.t 17), none, true⟩,
 ⟨(some 19), .mv (.t 1), none, true⟩,
 ⟨(some 20), .ia 4 (.t 18) (.t 19), none, true⟩,
 ⟨(some 21), .fa 0 (.t 20), none, true⟩,
 ⟨(some 22), .ld (.t 21), none, true⟩,
 ⟨(some 23), .fa 1 (.t 2), none, true⟩,
 ⟨(some 24), .ld (.t 23), none, true⟩,
 p 25 (.bin .mul (.t 22) (.t 24)),
 p 4 (.mv (.t 25))])
 .ret))),
 [.tmp 4]⟩
def F217 : Fnc := ⟨(.seq (.rg [p 2 (.box (.t 0)),
 p 3 (.box (.t 1)),
 p 4 (.mv (.k (.bool false)))])
 (.seq (.rg [p 5 (.ldn 6 (.t 3)),
 p 6 (.call 184 [(.t 5)]),
 p 7 (.mv (.t 6)),
 ⟨(some 8), .fa 0 (.t 2), (some (7, true)), true⟩,
 ⟨(some 9), .ld (.t 8), (some (7, true)), true⟩,
 ⟨(some 10), .fa 0 (.t 3), (some (7, true)), true⟩,
 ⟨(some 11), .ld (.t 10), (some (7, true)), true⟩,
 ⟨(some 12), .len (.t 11), (some (7, true)), true⟩,
 ⟨(some 13), .bin .sub (.t 12) (.k (.int .i64 1)), (some (7, true)), true⟩,
 ⟨(some 14), .call 230 [(.t 9), (.k (.int .i64 0)), (.t 13)], (some (7, true)), false⟩,
 p 15 (.pick (.t 7) (.t 14) (.k (.bool false))),
 p 16 (.mv (.t 15)),
 ⟨(some 17), .fa 1 (.t 2), (some (16, true)), true⟩,
 ⟨(some 18), .ld (.t 17), (some (16, true)), true⟩,
 ⟨(some 19), .ldn 6 (.t 3), (some (16, true)), true⟩,
 ⟨(some 20), .fa 0 (.t 2), (some (16, true)), true⟩,
 ⟨(some 21), .ld (.t 20), (some (16, true)), true⟩,
 ⟨(some 22), .call 215 [(.t 19), (.t 21)], (some (16, true)), true⟩,
 ⟨(some 23), .call 230 [(.t 18), (.k (.int .i64 0)), (.t 22)], (some (16, true)), false⟩,
 p 24 (.pick (.t 16) (.t 23) (.k (.bool false))),
 p 4 (.mv (.t 24))])
 .ret)),
 [.tmp 4]⟩
def F220 : Fnc := ⟨(.seq (.rg [p 1 (.box (.t 0)),
 p 2 (.mv (.k (.int .i64 0)))])
 (.seq (.seq (.rg [p 3 (.fa 0 (.t 1)),
 p 4 (.ld (.t 3)),
 p 5 (.len (.t 4)),
 p 6 (.bin .eql (.t 5) (.k (.int .i64 0)))])
 (.cond (.t 6) (.seq (.rg [p 2 (.mv (.k (.int .i64 0)))])
 .ret)
 .skip))
 (.seq (.rg [p 7 (.fa 0 (.t 1)),
 p 8 (.ld (.t 7)),
 p 9 (.ia 6 (.t 8) (.k (.int .i64 0))),
 p 10 (.fa 3 (.t 9)),
 p 11 (.ld (.t 10)),
 p 12 (.call 173 [(.t 11)]),
 p 2 (.mv (.t 12))])
 .ret))),
 [.tmp 2]⟩
def F221 : Fnc := ⟨(.seq (.rg [p 1 (.box (.t 0)),
 p 2 (.mv (.k (.bool false)))])
 (.seq (.seq (.rg [p 3 (.mv (.k (.int .i64 0)))])
 (.block 0 (.loop (.seq (.seq (.rg [p 4 (.mv (.t 3)),
 p 5 (.fa 0 (.t 1)),
 p 6 (.ld (.t 5)),
 p 7 (.len (.t 6)),
 p 8 (.bin .lss (.t 4) (.t 7))])
 (.cond (.t 8) .skip
 (.exit 0)))
 (.seq (.block 1 (.seq (.rg [p 11 (.fa 0 (.t 1)),
 p 12 (.ld (.t 11)),
 p 13 (.mv (.t 3)),
 p 14 (.ia 6 (.t 12) (.t 13)),
 p 15 (.ldn 6 (.t 14)),
 p 16 (.call 207 [(.t 15)]),
 p 17 (.not (.t 16))])
 (.cond (.t 17) (.seq (.rg [p 2 (.mv (.k (.bool false)))])
 .ret)
 .skip)))
 (.rg [p 9 (.mv (.t 3)),
 p 10 (.bin .add (.t 9) (.k (.int .i64 1))),
 p 3 (.mv (.t 10))]))))))
 (.seq (.seq (.rg [p 18 (.fa 0 (.t 1)),
 p 19 (.ld (.t 18)),
 p 20 (.len (.t 19)),
 p 21 (.bin .gtr (.t 20) (.k (.int .i64 4))),
 p 22 (.mv (.t 21)),
 ⟨(some 23), .fa 3 (.t 1), (some (22, false)), false⟩,
 ⟨(some 24), .ld (.t 23), (some (22, false)), false⟩,
 ⟨(some 25), .bin .lss (.t 24) (.k (.int .i64 0)), (some (22, false)), false⟩,
 p 26 (.pick (.t 22) (.k (.bool true)) (.t 25))])
 (.cond (.t 26) (.seq (.rg [p 2 (.mv (.k (.bool false)))])
 .ret)
 .skip))
 (.seq (.seq (.rg [p 27 (.fa 0 (.t 1)),
 p 28 (.ld (.t 27)),
 p 29 (.len (.t 28)),
 p 30 (.bin .eql (.t 29) (.k (.int .i64 0)))])
 (.cond (.t 30) (.seq (.rg [p 31 (.fa 1 (.t 1)),
 p 32 (.ld (.t 31)),
 p 33 (.bin .eql (.t 32) (.k (.int .i64 0))),
 p 34 (.mv (.t 33)),
 ⟨(some 35), .fa 2 (.t 1), (some (34, true)), false⟩,
 ⟨(some 36), .ld (.t 35), (some (34, true)), false⟩,
 ⟨(some 37), .bin .eql (.t 36) (.k (.int .i64 0)), (some (34, true)), false⟩,
 p 38 (.pick (.t 34) (.t 37) (.k (.bool false))),
 p 39 (.mv (.t 38)),
 ⟨(some 40), .fa 3 (.t 1), (some (39, true)), false⟩,
 ⟨(some 41), .ld (.t 40), (some (39, true)), false⟩,
 ⟨(some 42), .bin .eql (.t 41) (.k (.int .i64 0)), (some (39, true)), false⟩,
 p 43 (.pick (.t 39) (.t 42) (.k (.bool false))),
 p 44 (.mv (.t 43)),
 ⟨(some 45), .fa 4 (.t 1), (some (44, true)), false⟩,
 ⟨(some 46), .ld (.t 45), (some (44, true)), false⟩,
 ⟨(some 47), .not (.t 46), (some (44, true)), false⟩,
 p 48 (.pick (.t 44) (.t 47) (.k (.bool false))),
 p 49 (.mv (.t 48)),
 ⟨(some 50), .fa 5 (.t 1), (some (49, true)), false⟩,
 ⟨(some 51), .ld (.t 50), (some (49, true)), false⟩,
 ⟨(some 52), .not (.t 51), (some (49, true)), false⟩,
 p 53 (.pick (.t 49) (.t 52) (.k (.bool false))),
 p 2 (.mv (.t 53))])
 .ret)
 .skip))
 (.seq (.rg [⟨(some 54), .fa 2 (.t 1), none, true⟩,
 ⟨(some 55), .ld (.t 54), none, true⟩,
 ⟨(some 56), .ldn 6 (.t 1), none, true⟩,
 ⟨(some 57), .call 220 [(.t 56)], none, true⟩,
 ⟨(some 58), .bin .sub (.t 57) (.k (.int .i64 1)), none, true⟩,
 p 59 (.call 230 [(.t 55), (.k (.int .i64 0)), (.t 58)]),
 p 60 (.mv (.t 59)),
 ⟨(some 61), .fa 1 (.t 1), (some (60, true)), true⟩,
 ⟨(some 62), .ld (.t 61), (some (60, true)), true⟩,
 ⟨(some 63), .fa 2 (.t 1), (some (60, true)), true⟩,
 ⟨(some 64), .ld (.t 63), (some (60, true)), true⟩,
 ⟨(some 65), .fa 2 (.t 1), (some (60, true)), true⟩,
 ⟨(some 66), .ld (.t 65), (some (60, true)), true⟩,
 ⟨(some 67), .bin .add (.t 66) (.k (.int .i64 2)), (some (60, true)), true⟩,
 ⟨(some 68), .ldn 6 (.t 1), (some (60, true)), true⟩,
 ⟨(some 69), .call 220 [(.t 68)], (some (60, true)), true⟩,
 ⟨(some 70), .mn [(.t 67), (.t 69)], (some (60, true)), true⟩,
 ⟨(some 71), .call 230 [(.t 62), (.t 64), (.t 70)], (some (60, true)), false⟩,
 p 72 (.pick (.t 60) (.t 71) (.k (.bool false))),
 p 2 (.mv (.t 72))])
 .ret))))),
 [.tmp 2]⟩
def F222 : Fnc := ⟨(.seq (.rg [p 3 (.box (.t 0)),
 p 4 (.box (.t 1)),
 p 6 (.mv (.k (.bool false)))])
 (.seq (.seq (.rg [p 8 (.fa 0 (.t 4)),
 p 9 (.ld (.t 8)),
 p 10 (.not (.t 9))])
 (.cond (.t 10) (.seq (.rg [p 11 (.ldn 8 (.t 4)),
 p 12 (.bd [.bool false, .int .i64 0, .int .i64 0, .bool false, .int .i64 0, .int .i64 0, .int .i64 0, .bool false] []),
 p 13 (.eqs false [.b, .i, .i, .b, .i, .i, .i, .b] (.t 11) (.t 12)),
 p 6 (.mv (.t 13))])
 .ret)
 .skip))
 (.seq (.seq (.rg [p 14 (.fa 1 (.t 4)),
 p 15 (.ld (.t 14)),
 p 16 (.fa 7 (.t 3)),
 p 17 (.ld (.t 16)),
 p 18 (.len (.t 17)),
 p 19 (.bin .sub (.t 18) (.k (.int .i64 1))),
 p 20 (.call 230 [(.t 15), (.k (.int .i64 0)), (.t 19)]),
 p 21 (.not (.t 20)),
 p 22 (.mv (.t 21)),
 ⟨(some 23), .fa 4 (.t 4), (some (22, false)), false⟩,
 ⟨(some 24), .ld (.t 23), (some (22, false)), false⟩,
 ⟨(some 25), .call 230 [(.t 24), (.k (.int .i64 1)), (.k (.int .i64 3))], (some (22, false)), false⟩,
 ⟨(some 26), .not (.t 25), (some (22, false)), false⟩,
 p 27 (.pick (.t 22) (.k (.bool true)) (.t 26)),
 p 28 (.mv (.t 27)),
 ⟨(some 29), .fa 11 (.t 3), (some (28, false)), false⟩,
 ⟨(some 30), .ld (.t 29), (some (28, false)), false⟩,
 ⟨(some 31), .fa 1 (.t 4), (some (28, false)), false⟩,
 ⟨(some 32), .ld (.t 31), (some (28, false)), false⟩,
 ⟨(some 33), .ia 1 (.t 30) (.t 32), (some (28, false)), false⟩,
 ⟨(some 34), .ld (.t 33), (some (28, false)), false⟩,
 ⟨(some 35), .bin .gtr (.t 34) (.k (.int .i64 0)), (some (28, false)), false⟩,
 p 36 (.pick (.t 28) (.k (.bool true)) (.t 35))])
 (.cond (.t 36) (.seq (.rg [p 6 (.mv (.k (.bool false)))])
 .ret)
 .skip))
 (.seq (.rg [p 37 (.fa 7 (.t 3)),
 p 38 (.ld (.t 37)),
 p 39 (.fa 1 (.t 4)),
 p 40 (.ld (.t 39)),
 p 41 (.ia 6 (.t 38) (.t 40)),
 p 42 (.ldn 6 (.t 41)),
 p 7 (.new [.slice none 0 0, .int .i64 0, .int .i64 0, .int .i64 0, .bool false, .bool false]),
 ⟨none, .stn 6 (.t 7) (.t 42), none, false⟩])
 (.seq (.seq (.rg [p 43 (.mv (.t 2)),
 p 44 (.not (.t 43))])
 (.cond (.t 44) (.seq (.rg [p 45 (.fa 2 (.t 4)),
 p 46 (.ld (.t 45)),
 p 47 (.fa 1 (.t 7)),
 p 48 (.ld (.t 47)),
 p 49 (.bin .sub (.t 48) (.k (.int .i64 1))),
 p 50 (.bin .eql (.t 46) (.t 49)),
 p 51 (.mv (.t 50)),
 ⟨(some 52), .fa 5 (.t 4), (some (51, true)), false⟩,
 ⟨(some 53), .ld (.t 52), (some (51, true)), false⟩,
 ⟨(some 54), .bin .eql (.t 53) (.k (.int .i64 0)), (some (51, true)), false⟩,
 p 55 (.pick (.t 51) (.t 54) (.k (.bool false))),
 p 56 (.mv (.t 55)),
 ⟨(some 57), .fa 6 (.t 4), (some (56, true)), false⟩,
 ⟨(some 58), .ld (.t 57), (some (56, true)), false⟩,
 ⟨(some 59), .bin .eql (.t 58) (.k (.int .i64 0)), (some (56, true)), false⟩,
 p 60 (.pick (.t 56) (.t 59) (.k (.bool false))),
 p 61 (.mv (.t 60)),
 ⟨(some 62), .fa 7 (.t 4), (some (61, true)), false⟩,
 ⟨(some 63), .ld (.t 62), (some (61, true)), false⟩,
 ⟨(some 64), .not (.t 63), (some (61, true)), false⟩,
 p 65 (.pick (.t 61) (.t 64) (.k (.bool false))),
 p 6 (.mv (.t 65))])
 .ret)
 .skip))
 (.seq (.seq (.rg [p 66 (.fa 6 (.t 4)),
 p 67 (.ld (.t 66)),
 p 68 (.bin .eql (.t 67) (.k (.int .i64 2))),
 p 69 (.mv (.t 68)),
 ⟨(some 70), .fa 3 (.t 7), (some (69, true)), false⟩,
 ⟨(some 71), .ld (.t 70), (some (69, true)), false⟩,
 ⟨(some 72), .fa 0 (.t 3), (some (69, true)), false⟩,
 ⟨(some 73), .fa 3 (.t 72), (some (69, true)), false⟩,
 ⟨(some 74), .ld (.t 73), (some (69, true)), false⟩,
 ⟨(some 75), .bin .geq (.t 71) (.t 74), (some (69, true)), false⟩,
 p 76 (.pick (.t 69) (.t 75) (.k (.bool false))),
 p 77 (.mv (.t 76)),
 ⟨(some 78), .fa 6 (.t 4), (some (77, false)), false⟩,
 ⟨(some 79), .ld (.t 78), (some (77, false)), false⟩,
 ⟨(some 80), .bin .eql (.t 79) (.k (.int .i64 3)), (some (77, false)), false⟩,
 ⟨(some 81), .mv (.t 80), (some (77, false)), false⟩,
 ⟨(some 82), .fa 4 (.t 7), (some (81, true)), false⟩,
 ⟨(some 83), .ld (.t 82), (some (81, true)), false⟩,
 ⟨(some 84), .mv (.t 83), (some (81, true)), false⟩,
 ⟨(some 85), .fa 12 (.t 3), (some (84, false)), false⟩,
 ⟨(some 86), .ld (.t 85), (some (84, false)), false⟩,
 ⟨(some 87), .fa 1 (.t 4), (some (84, false)), false⟩,
 ⟨(some 88), .ld (.t 87), (some (84, false)), false⟩,
 ⟨(some 89), .bin .eql (.t 86) (.t 88), (some (84, false)), false⟩,
 ⟨(some 90), .pick (.t 84) (.k (.bool true)) (.t 89), (some (81, true)), false⟩,
 ⟨(some 91), .pick (.t 81) (.t 90) (.k (.bool false)), (some (77, false)), false⟩,
 p 92 (.pick (.t 77) (.k (.bool true)) (.t 91)),
 p 93 (.mv (.t 92)),
 ⟨(some 94), .fa 7 (.t 4), (some (93, false)), false⟩,
 ⟨(some 95), .ld (.t 94), (some (93, false)), false⟩,
 ⟨(some 96), .mv (.t 95), (some (93, false)), false⟩,
 ⟨(some 97), .fa 15 (.t 3), (some (96, true)), false⟩,
 ⟨(some 98), .fa 0 (.t 97), (some (96, true)), false⟩,
 ⟨(some 99), .ld (.t 98), (some (96, true)), false⟩,
 ⟨(some 100), .pick (.t 96) (.t 99) (.k (.bool false)), (some (93, false)), false⟩,
 p 101 (.pick (.t 93) (.k (.bool true)) (.t 100))])
 (.cond (.t 101) (.seq (.rg [p 6 (.mv (.k (.bool false)))])
 .ret)
 .skip))
 (.seq (.rg [p 102 (.fa 2 (.t 4)),
 p 103 (.ld (.t 102)),
 p 104 (.fa 2 (.t 7)),
 p 105 (.ld (.t 104)),
 p 106 (.bin .eql (.t 103) (.t 105)),
 p 107 (.mv (.t 106)),
 ⟨(some 108), .fa 5 (.t 4), (some (107, true)), false⟩,
 ⟨(some 109), .ld (.t 108), (some (107, true)), false⟩,
 ⟨(some 110), .fa 0 (.t 3), (some (107, true)), false⟩,
 ⟨(some 111), .fa 2 (.t 110), (some (107, true)), false⟩,
 ⟨(some 112), .ld (.t 111), (some (107, true)), false⟩,
 ⟨(some 113), .bin .add (.t 112) (.k (.int .i64 2)), (some (107, true)), false⟩,
 ⟨(some 114), .call 230 [(.t 109), (.k (.int .i64 0)), (.t 113)], (some (107, true)), false⟩,
 p 115 (.pick (.t 107) (.t 114) (.k (.bool false))),
 p 116 (.mv (.t 115)),
 ⟨(some 117), .fa 6 (.t 4), (some (116, true)), false⟩,
 ⟨(some 118), .ld (.t 117), (some (116, true)), false⟩,
 ⟨(some 119), .call 208 [(.t 118)], (some (116, true)), false⟩,
 ⟨(some 120), .bin .neq (.t 119) (.k (.string ⟨#[]⟩)), (some (116, true)), false⟩,
 p 121 (.pick (.t 116) (.t 120) (.k (.bool false))),
 p 122 (.mv (.t 121)),
 ⟨(some 123), .fa 7 (.t 4), (some (122, true)), false⟩,
 ⟨(some 124), .ld (.t 123), (some (122, true)), false⟩,
 ⟨(some 125), .not (.t 124), (some (122, true)), false⟩,
 ⟨(some 126), .mv (.t 125), (some (122, true)), false⟩,
 ⟨(some 127), .fa 6 (.t 4), (some (126, false)), false⟩,
 ⟨(some 128), .ld (.t 127), (some (126, false)), false⟩,
 ⟨(some 129), .bin .neq (.t 128) (.k (.int .i64 0)), (some (126, false)), false⟩,
 ⟨(some 130), .mv (.t 129), (some (126, false)), false⟩,
 ⟨(some 131), .fa 5 (.t 4), (some (130, true)), false⟩,
 ⟨(some 132), .ld (.t 131), (some (130, true)), false⟩,
 ⟨(some 133), .bin .eql (.t 132) (.k (.int .i64 0)), (some (130, true)), false⟩,
 ⟨(some 134), .pick (.t 130) (.t 133) (.k (.bool false)), (some (126, false)), false⟩,
 ⟨(some 135), .pick (.t 126) (.k (.bool true)) (.t 134), (some (122, true)), false⟩,
 p 136 (.pick (.t 122) (.t 135) (.k (.bool false))),
 p 6 (.mv (.t 136))])
 .ret))))))),
 [.tmp 6]⟩
def F223 : Fnc := ⟨(.seq (.rg [p 1 (.box (.t 0)),
 p 2 (.mv (.k (.bool false)))])
 (.seq (.seq (.rg [p 3 (.mv (.k (.int .i64 0)))])
 (.block 0 (.loop (.seq (.seq (.rg [p 5 (.mv (.t 3)),
 p 6 (.fa 7 (.t 1)),
 p 7 (.ld (.t 6)),
 p 8 (.len (.t 7)),
 p 9 (.bin .lss (.t 5) (.t 8))])
 (.cond (.t 9) .skip
 (.exit 0)))
 (.seq (.block 1 (.seq (.rg [p 12 (.fa 7 (.t 1)),
 p 13 (.ld (.t 12)),
 p 14 (.mv (.t 3)),
 p 15 (.ia 6 (.t 13) (.t 14)),
 p 16 (.fa 1 (.t 15)),
 p 17 (.ld (.t 16)),
 p 18 (.bin .gtr (.t 17) (.k (.int .i64 0))),
 p 19 (.mv (.t 18)),
 ⟨(some 20), .fa 7 (.t 1), (some (19, true)), false⟩,
 ⟨(some 21), .ld (.t 20), (some (19, true)), false⟩,
 ⟨(some 22), .mv (.t 3), (some (19, true)), false⟩,
 ⟨(some 23), .ia 6 (.t 21) (.t 22), (some (19, true)), false⟩,
 ⟨(some 24), .fa 0 (.t 23), (some (19, true)), false⟩,
 ⟨(some 25), .ld (.t 24), (some (19, true)), false⟩,
 ⟨(some 26), .ia 6 (.t 25) (.k (.int .i64 0)), (some (19, true)), false⟩,
 ⟨(some 27), .fa 4 (.t 26), (some (19, true)), false⟩,
 ⟨(some 28), .ld (.t 27), (some (19, true)), false⟩,
 p 29 (.pick (.t 19) (.t 28) (.k (.bool false))),
 p 30 (.mv (.t 29)),
 ⟨(some 31), .fa 7 (.t 1), (some (30, true)), false⟩,
 ⟨(some 32), .ld (.t 31), (some (30, true)), false⟩,
 ⟨(some 33), .mv (.t 3), (some (30, true)), false⟩,
 ⟨(some 34), .ia 6 (.t 32) (.t 33), (some (30, true)), false⟩,
 ⟨(some 35), .fa 5 (.t 34), (some (30, true)), false⟩,
 ⟨(some 36), .ld (.t 35), (some (30, true)), false⟩,
 ⟨(some 37), .not (.t 36), (some (30, true)), false⟩,
 p 38 (.pick (.t 30) (.t 37) (.k (.bool false))),
 p 39 (.mv (.t 38)),
 ⟨(some 40), .fa 12 (.t 1), (some (39, true)), false⟩,
 ⟨(some 41), .ld (.t 40), (some (39, true)), false⟩,
 ⟨(some 42), .mv (.t 3), (some (39, true)), false⟩,
 ⟨(some 43), .bin .neq (.t 41) (.t 42), (some (39, true)), false⟩,
 p 44 (.pick (.t 39) (.t 43) (.k (.bool false)))])
 (.cond (.t 44) (.seq (.rg [p 2 (.mv (.k (.bool false)))])
 .ret)
 .skip)))
 (.rg [p 10 (.mv (.t 3)),
 p 11 (.bin .add (.t 10) (.k (.int .i64 1))),
 p 3 (.mv (.t 11))]))))))
 (.seq (.seq (.rg [p 45 (.fa 12 (.t 1)),
 p 46 (.ld (.t 45)),
 p 47 (.bin .eql (.t 46) (.k (.int .i64 (-1))))])
 (.cond (.t 47) (.seq (.rg [p 48 (.fa 13 (.t 1)),
 p 49 (.ld (.t 48)),
 p 50 (.bin .eql (.t 49) (.k (.int .i64 0))),
 p 2 (.mv (.t 50))])
 .ret)
 .skip))
 (.seq (.seq (.rg [p 51 (.fa 12 (.t 1)),
 p 52 (.ld (.t 51)),
 p 53 (.fa 7 (.t 1)),
 p 54 (.ld (.t 53)),
 p 55 (.len (.t 54)),
 p 56 (.bin .sub (.t 55) (.k (.int .i64 1))),
 p 57 (.call 230 [(.t 52), (.k (.int .i64 0)), (.t 56)]),
 p 58 (.not (.t 57)),
 p 59 (.mv (.t 58)),
 ⟨(some 60), .fa 13 (.t 1), (some (59, false)), false⟩,
 ⟨(some 61), .ld (.t 60), (some (59, false)), false⟩,
 ⟨(some 62), .fa 0 (.t 1), (some (59, false)), false⟩,
 ⟨(some 63), .fa 5 (.t 62), (some (59, false)), false⟩,
 ⟨(some 64), .ld (.t 63), (some (59, false)), false⟩,
 ⟨(some 65), .call 230 [(.t 61), (.k (.int .i64 0)), (.t 64)], (some (59, false)), false⟩,
 ⟨(some 66), .not (.t 65), (some (59, false)), false⟩,
 p 67 (.pick (.t 59) (.k (.bool true)) (.t 66))])
 (.cond (.t 67) (.seq (.rg [p 2 (.mv (.k (.bool false)))])
 .ret)
 .skip))
 (.seq (.rg [p 68 (.fa 7 (.t 1)),
 p 69 (.ld (.t 68)),
 p 70 (.fa 12 (.t 1)),
 p 71 (.ld (.t 70)),
 p 72 (.ia 6 (.t 69) (.t 71)),
 p 73 (.ldn 6 (.t 72)),
 p 4 (.new [.slice none 0 0, .int .i64 0, .int .i64 0, .int .i64 0, .bool false, .bool false]),
 ⟨none, .stn 6 (.t 4) (.t 73), none, false⟩])
 (.seq (.rg [p 74 (.fa 0 (.t 4)),
 p 75 (.ld (.t 74)),
 p 76 (.len (.t 75)),
 p 77 (.bin .gtr (.t 76) (.k (.int .i64 0))),
 p 78 (.mv (.t 77)),
 ⟨(some 79), .fa 0 (.t 4), (some (78, true)), false⟩,
 ⟨(some 80), .ld (.t 79), (some (78, true)), false⟩,
 ⟨(some 81), .ia 6 (.t 80) (.k (.int .i64 0)), (some (78, true)), false⟩,
 ⟨(some 82), .fa 4 (.t 81), (some (78, true)), false⟩,
 ⟨(some 83), .ld (.t 82), (some (78, true)), false⟩,
 p 84 (.pick (.t 78) (.t 83) (.k (.bool false))),
 p 85 (.mv (.t 84)),
 ⟨(some 86), .fa 5 (.t 4), (some (85, true)), false⟩,
 ⟨(some 87), .ld (.t 86), (some (85, true)), false⟩,
 ⟨(some 88), .not (.t 87), (some (85, true)), false⟩,
 p 89 (.pick (.t 85) (.t 88) (.k (.bool false))),
 p 90 (.mv (.t 89)),
 ⟨(some 91), .fa 11 (.t 1), (some (90, true)), false⟩,
 ⟨(some 92), .ld (.t 91), (some (90, true)), false⟩,
 ⟨(some 93), .fa 12 (.t 1), (some (90, true)), false⟩,
 ⟨(some 94), .ld (.t 93), (some (90, true)), false⟩,
 ⟨(some 95), .ia 1 (.t 92) (.t 94), (some (90, true)), false⟩,
 ⟨(some 96), .ld (.t 95), (some (90, true)), false⟩,
 ⟨(some 97), .bin .eql (.t 96) (.k (.int .i64 0)), (some (90, true)), false⟩,
 p 98 (.pick (.t 90) (.t 97) (.k (.bool false))),
 p 2 (.mv (.t 98))])
 .ret)))))),
 [.tmp 2]⟩
def F224 : Fnc := ⟨(.seq (.rg [p 1 (.box (.t 0)),
 p 2 (.mv (.k (.bool false)))])
 (.seq (.seq (.rg [p 3 (.mv (.k (.int .i64 0)))])
 (.block 0 (.loop (.seq (.seq (.rg [p 5 (.mv (.t 3)),
 p 6 (.fa 36 (.t 1)),
 p 7 (.ld (.t 6)),
 p 8 (.len (.t 7)),
 p 9 (.bin .lss (.t 5) (.t 8))])
 (.cond (.t 9) .skip
 (.exit 0)))
 (.seq (.block 1 (.seq (.rg [p 12 (.fa 36 (.t 1)),
 p 13 (.ld (.t 12)),
 p 14 (.mv (.t 3)),
 p 15 (.ia 7 (.t 13) (.t 14)),
 p 16 (.ldn 7 (.t 15)),
 p 4 (.new [.int .i64 0, .int .i64 0, .bool false, .int .i64 0, .int .i64 0, .int .i64 0, .int .i64 0]),
 ⟨none, .stn 7 (.t 4) (.t 16), none, false⟩])
 (.seq (.rg [⟨(some 17), .fa 0 (.t 4), none, true⟩,
 ⟨(some 18), .ld (.t 17), none, true⟩,
 ⟨(some 19), .fa 6 (.t 1), none, true⟩,
 ⟨(some 20), .ld (.t 19), none, true⟩,
 ⟨(some 21), .bin .sub (.t 20) (.k (.int .i64 1)), none, true⟩,
 p 22 (.call 230 [(.t 18), (.k (.int .i64 0)), (.t 21)]),
 p 23 (.not (.t 22)),
 p 24 (.mv (.t 23)),
 ⟨(some 25), .mv (.t 3), (some (24, false)), false⟩,
 ⟨(some 26), .bin .gtr (.t 25) (.k (.int .i64 0)), (some (24, false)), false⟩,
 ⟨(some 27), .mv (.t 26), (some (24, false)), false⟩,
 ⟨(some 28), .fa 0 (.t 4), (some (27, true)), true⟩,
 ⟨(some 29), .ld (.t 28), (some (27, true)), true⟩,
 ⟨(some 30), .fa 36 (.t 1), (some (27, true)), true⟩,
 ⟨(some 31), .ld (.t 30), (some (27, true)), true⟩,
 ⟨(some 32), .mv (.t 3), (some (27, true)), true⟩,
 ⟨(some 33), .bin .sub (.t 32) (.k (.int .i64 1)), (some (27, true)), true⟩,
 ⟨(some 34), .ia 7 (.t 31) (.t 33), (some (27, true)), true⟩,
 ⟨(some 35), .fa 0 (.t 34), (some (27, true)), true⟩,
 ⟨(some 36), .ld (.t 35), (some (27, true)), true⟩,
 ⟨(some 37), .bin .leq (.t 29) (.t 36), (some (27, true)), false⟩,
 ⟨(some 38), .pick (.t 27) (.t 37) (.k (.bool false)), (some (24, false)), false⟩,
 p 39 (.pick (.t 24) (.k (.bool true)) (.t 38)),
 p 40 (.mv (.t 39)),
 ⟨(some 41), .fa 1 (.t 4), (some (40, false)), true⟩,
 ⟨(some 42), .ld (.t 41), (some (40, false)), true⟩,
 ⟨(some 43), .fa 7 (.t 1), (some (40, false)), true⟩,
 ⟨(some 44), .ld (.t 43), (some (40, false)), true⟩,
 ⟨(some 45), .len (.t 44), (some (40, false)), true⟩,
 ⟨(some 46), .bin .sub (.t 45) (.k (.int .i64 1)), (some (40, false)), true⟩,
 ⟨(some 47), .call 230 [(.t 42), (.k (.int .i64 0)), (.t 46)], (some (40, false)), false⟩,
 ⟨(some 48), .not (.t 47), (some (40, false)), false⟩,
 p 49 (.pick (.t 40) (.k (.bool true)) (.t 48)),
 p 50 (.mv (.t 49)),
 ⟨(some 51), .fa 3 (.t 4), (some (50, false)), true⟩,
 ⟨(some 52), .ld (.t 51), (some (50, false)), true⟩,
 ⟨(some 53), .fa 4 (.t 4), (some (50, false)), true⟩,
 ⟨(some 54), .ld (.t 53), (some (50, false)), true⟩,
 ⟨(some 55), .call 172 [(.t 52), (.t 54)], (some (50, false)), false⟩,
 ⟨(some 56), .not (.t 55), (some (50, false)), false⟩,
 p 57 (.pick (.t 50) (.k (.bool true)) (.t 56)),
 p 58 (.mv (.t 57)),
 ⟨(some 59), .fa 3 (.t 4), (some (58, false)), false⟩,
 ⟨(some 60), .ld (.t 59), (some (58, false)), false⟩,
 ⟨(some 61), .call 230 [(.t 60), (.k (.int .i64 0)), (.k (.int .i64 511))], (some (58, false)), false⟩,
 ⟨(some 62), .not (.t 61), (some (58, false)), false⟩,
 p 63 (.pick (.t 58) (.k (.bool true)) (.t 62)),
 p 64 (.mv (.t 63)),
 ⟨(some 65), .fa 5 (.t 4), (some (64, false)), true⟩,
 ⟨(some 66), .ld (.t 65), (some (64, false)), true⟩,
 ⟨(some 67), .fa 4 (.t 4), (some (64, false)), true⟩,
 ⟨(some 68), .ld (.t 67), (some (64, false)), true⟩,
 ⟨(some 69), .call 201 [(.t 68)], (some (64, false)), true⟩,
 ⟨(some 70), .bin .sub (.t 69) (.k (.int .i64 1)), (some (64, false)), true⟩,
 ⟨(some 71), .call 230 [(.t 66), (.k (.int .i64 0)), (.t 70)], (some (64, false)), false⟩,
 ⟨(some 72), .not (.t 71), (some (64, false)), false⟩,
 p 73 (.pick (.t 64) (.k (.bool true)) (.t 72)),
 p 74 (.mv (.t 73)),
 ⟨(some 75), .fa 6 (.t 4), (some (74, false)), false⟩,
 ⟨(some 76), .ld (.t 75), (some (74, false)), false⟩,
 ⟨(some 77), .call 230 [(.t 76), (.k (.int .i64 0)), (.k (.int .i64 1))], (some (74, false)), false⟩,
 ⟨(some 78), .not (.t 77), (some (74, false)), false⟩,
 p 79 (.pick (.t 74) (.k (.bool true)) (.t 78))])
 (.cond (.t 79) (.seq (.rg [p 2 (.mv (.k (.bool false)))])
 .ret)
 .skip))))
 (.rg [p 10 (.mv (.t 3)),
 p 11 (.bin .add (.t 10) (.k (.int .i64 1))),
 p 3 (.mv (.t 11))]))))))
 (.seq (.rg [p 2 (.mv (.k (.bool true)))])
 .ret))),
 [.tmp 2]⟩
def F226 : Fnc := ⟨(.seq (.rg [p 2 (.box (.t 0)),
 p 4 (.mv (.k (.int .i64 0)))])
 (.seq (.rg [p 5 (.mv (.k (.int .i64 0)))])
 (.seq (.seq (.rg [p 6 (.fa 15 (.t 2)),
 p 7 (.fa 0 (.t 6)),
 p 8 (.ld (.t 7)),
 p 9 (.mv (.t 8)),
 ⟨(some 10), .fa 15 (.t 2), (some (9, true)), false⟩,
 ⟨(some 11), .fa 1 (.t 10), (some (9, true)), false⟩,
 ⟨(some 12), .ld (.t 11), (some (9, true)), false⟩,
 ⟨(some 13), .mv (.t 1), (some (9, true)), false⟩,
 ⟨(some 14), .bin .eql (.t 12) (.t 13), (some (9, true)), false⟩,
 p 15 (.pick (.t 9) (.t 14) (.k (.bool false)))])
 (.cond (.t 15) (.rg [p 16 (.mv (.t 5)),
 p 17 (.bin .add (.t 16) (.k (.int .i64 1))),
 p 5 (.mv (.t 17))])
 .skip))
 (.seq (.seq (.rg [p 18 (.fa 23 (.t 2)),
 p 19 (.fa 0 (.t 18)),
 p 20 (.ld (.t 19)),
 p 21 (.mv (.t 20)),
 ⟨(some 22), .fa 23 (.t 2), (some (21, true)), false⟩,
 ⟨(some 23), .fa 1 (.t 22), (some (21, true)), false⟩,
 ⟨(some 24), .ld (.t 23), (some (21, true)), false⟩,
 ⟨(some 25), .mv (.t 1), (some (21, true)), false⟩,
 ⟨(some 26), .bin .eql (.t 24) (.t 25), (some (21, true)), false⟩,
 p 27 (.pick (.t 21) (.t 26) (.k (.bool false)))])
 (.cond (.t 27) (.rg [p 28 (.mv (.t 5)),
 p 29 (.bin .add (.t 28) (.k (.int .i64 1))),
 p 5 (.mv (.t 29))])
 .skip))
 (.seq (.rg [p 30 (.mv (.t 5)),
 p 4 (.mv (.t 30))])
 .ret))))),
 [.tmp 4]⟩
def F230 : Fnc := ⟨(.seq (.rg [p 6 (.mv (.k (.bool false)))])
 (.seq (.rg [p 7 (.mv (.t 0)),
 p 8 (.mv (.t 1)),
 p 9 (.bin .geq (.t 7) (.t 8)),
 p 10 (.mv (.t 9)),
 ⟨(some 11), .mv (.t 0), (some (10, true)), false⟩,
 ⟨(some 12), .mv (.t 2), (some (10, true)), false⟩,
 ⟨(some 13), .bin .leq (.t 11) (.t 12), (some (10, true)), false⟩,
 p 14 (.pick (.t 10) (.t 13) (.k (.bool false))),
 p 6 (.mv (.t 14))])
 .ret)),
 [.tmp 6]⟩
def F238 : Fnc := ⟨(.seq (.rg [p 2 (.mv (.k (.bool false)))])
 (.seq (.seq (.rg [p 3 (.mv (.k (.int .i64 0)))])
 (.block 0 (.loop (.seq (.seq (.rg [p 4 (.mv (.t 3)),
 p 5 (.mv (.t 0)),
 p 6 (.len (.t 5)),
 p 7 (.bin .lss (.t 4) (.t 6))])
 (.cond (.t 7) .skip
 (.exit 0)))
 (.seq (.block 1 (.seq (.rg [p 10 (.mv (.t 0)),
 p 11 (.mv (.t 3)),
 p 12 (.ia 1 (.t 10) (.t 11)),
 p 13 (.ld (.t 12)),
 p 14 (.call 230 [(.t 13), (.k (.int .i64 0)), (.k (.int .i64 255))]),
 p 15 (.not (.t 14))])
 (.cond (.t 15) (.seq (.rg [p 2 (.mv (.k (.bool false)))])
 .ret)
 .skip)))
 (.rg [p 8 (.mv (.t 3)),
 p 9 (.bin .add (.t 8) (.k (.int .i64 1))),
 p 3 (.mv (.t 9))]))))))
 (.seq (.rg [p 16 (.mv (.t 0)),
 p 17 (.len (.t 16)),
 p 18 (.bin .leq (.t 17) (.k (.int .i64 512))),
 p 2 (.mv (.t 18))])
 .ret))),
 [.tmp 2]⟩
def F245 : Fnc := ⟨(.seq (.rg [p 1 (.box (.t 0)),
 p 2 (.mv (.k (.bool false)))])
 (.seq (.rg [p 3 (.fa 1 (.t 1)),
 p 4 (.ld (.t 3)),
 p 5 (.call 230 [(.t 4), (.k (.int .i64 1)), (.k (.int .i64 4))]),
 p 6 (.mv (.t 5)),
 ⟨(some 7), .ldn 6 (.t 1), (some (6, true)), false⟩,
 ⟨(some 8), .call 186 [(.t 7)], (some (6, true)), false⟩,
 ⟨(some 9), .bin .gtr (.t 8) (.k (.int .i64 0)), (some (6, true)), false⟩,
 p 10 (.pick (.t 6) (.t 9) (.k (.bool false))),
 p 11 (.mv (.t 10)),
 ⟨(some 12), .fa 4 (.t 1), (some (11, true)), false⟩,
 ⟨(some 13), .ld (.t 12), (some (11, true)), false⟩,
 ⟨(some 14), .call 230 [(.t 13), (.k (.int .i64 1)), (.k (.int .i64 12))], (some (11, true)), false⟩,
 p 15 (.pick (.t 11) (.t 14) (.k (.bool false))),
 p 16 (.mv (.t 15)),
 ⟨(some 17), .fa 5 (.t 1), (some (16, true)), false⟩,
 ⟨(some 18), .ld (.t 17), (some (16, true)), false⟩,
 ⟨(some 19), .call 230 [(.t 18), (.k (.int .i64 1)), (.k (.int .i64 40))], (some (16, true)), false⟩,
 p 20 (.pick (.t 16) (.t 19) (.k (.bool false))),
 p 2 (.mv (.t 20))])
 .ret)),
 [.tmp 2]⟩
def F250 : Fnc := ⟨(.seq (.rg [p 2 (.mv (.k (.bool false)))])
 (.seq (.seq (.rg [p 3 (.mv (.k (.int .i64 0)))])
 (.block 0 (.loop (.seq (.seq (.rg [p 4 (.mv (.t 3)),
 p 5 (.mv (.t 0)),
 p 6 (.len (.t 5)),
 p 7 (.bin .lss (.t 4) (.t 6))])
 (.cond (.t 7) .skip
 (.exit 0)))
 (.seq (.block 1 (.seq (.rg [⟨(some 10), .mv (.t 0), none, true⟩,
 ⟨(some 11), .mv (.t 3), none, true⟩,
 ⟨(some 12), .ia 1 (.t 10) (.t 11), none, true⟩,
 ⟨(some 13), .ld (.t 12), none, true⟩,
 ⟨(some 14), .call 201 [(.k (.int .i64 2))], none, true⟩,
 ⟨(some 15), .bin .sub (.t 14) (.k (.int .i64 1)), none, true⟩,
 p 16 (.call 230 [(.t 13), (.k (.int .i64 0)), (.t 15)]),
 p 17 (.not (.t 16))])
 (.cond (.t 17) (.seq (.rg [p 2 (.mv (.k (.bool false)))])
 .ret)
 .skip)))
 (.rg [p 8 (.mv (.t 3)),
 p 9 (.bin .add (.t 8) (.k (.int .i64 1))),
 p 3 (.mv (.t 9))]))))))
 (.seq (.rg [p 2 (.mv (.k (.bool true)))])
 .ret))),
 [.tmp 2]⟩
def F257 : Fnc := ⟨(.seq (.rg [p 4 (.mv (.k (.bool false)))])
 (.seq (.rg [p 5 (.mv (.t 0)),
 p 6 (.mv (.t 1)),
 p 7 (.call 266 [(.t 5), (.t 6)]),
 p 8 (.bin .geq (.t 7) (.k (.int .i64 0))),
 p 4 (.mv (.t 8))])
 .ret)),
 [.tmp 4]⟩
def F258 : Fnc := ⟨(.seq (.rg [p 4 (.mv (.k (.bool false)))])
 (.seq (.rg [p 5 (.mv (.t 0)),
 p 6 (.mv (.t 1)),
 p 7 (.call 269 [(.t 5), (.t 6)]),
 p 8 (.bin .geq (.t 7) (.k (.int .i64 0))),
 p 4 (.mv (.t 8))])
 .ret)),
 [.tmp 4]⟩
def F259 : Fnc := ⟨(.seq (.rg [p 4 (.mv (.k (.bool false)))])
 (.seq (.rg [p 5 (.mv (.t 0)),
 p 6 (.mv (.t 1)),
 p 7 (.call 270 [(.t 5), (.t 6)]),
 p 8 (.bin .geq (.t 7) (.k (.int .i64 0))),
 p 4 (.mv (.t 8))])
 .ret)),
 [.tmp 4]⟩
def F260 : Fnc := ⟨(.seq (.rg [p 4 (.mv (.k (.bool false)))])
 (.seq (.rg [p 5 (.mv (.t 0)),
 p 6 (.mv (.t 1)),
 p 7 (.call 271 [(.t 5), (.t 6)]),
 p 8 (.bin .geq (.t 7) (.k (.int .i64 0))),
 p 4 (.mv (.t 8))])
 .ret)),
 [.tmp 4]⟩
def F261 : Fnc := ⟨(.seq (.rg [p 4 (.mv (.k (.slice none 0 0)))])
 (.seq (.rg [p 8 (.mv (.t 0)),
 p 9 (.mv (.t 1)),
 p 10 (.call 267 [(.t 8), (.t 9)]),
 p 5 (.mv (.t 10))])
 (.seq (.seq (.rg [p 11 (.mv (.t 5)),
 p 12 (.bin .eql (.t 11) (.k (.int .i64 (-1))))])
 (.cond (.t 12) (.seq (.rg [p 13 (.mv (.t 0)),
 p 4 (.mv (.t 13))])
 .ret)
 .skip))
 (.seq (.seq (.rg [p 14 (.mv (.t 5)),
 p 15 (.bin .add (.t 14) (.k (.int .i64 1))),
 p 6 (.mv (.t 15))])
 (.block 0 (.loop (.seq (.seq (.rg [p 16 (.mv (.t 6)),
 p 17 (.mv (.t 0)),
 p 18 (.len (.t 17)),
 p 19 (.bin .lss (.t 16) (.t 18))])
 (.cond (.t 19) .skip
 (.exit 0)))
 (.seq (.block 1 (.seq (.rg [p 22 (.mv (.t 0)),
 p 23 (.mv (.t 6)),
 p 24 (.ia 8 (.t 22) (.t 23)),
 p 25 (.ldn 8 (.t 24)),
 p 7 (.new [.bool false, .int .i64 0, .int .i64 0, .bool false, .int .i64 0, .int .i64 0, .int .i64 0, .bool false]),
 ⟨none, .stn 8 (.t 7) (.t 25), none, false⟩])
 (.seq (.rg [p 26 (.mv (.t 1)),
 p 27 (.ldn 8 (.t 7)),
 p 28 (.calli (.t 26) [(.t 27)]),
 p 29 (.not (.t 28))])
 (.cond (.t 29) (.seq (.rg [p 30 (.mv (.t 0)),
 p 31 (.mv (.t 5)),
 p 32 (.ldn 8 (.t 7)),
 p 33 (.ia 8 (.t 30) (.t 31)),
 ⟨none, .stn 8 (.t 33) (.t 32), none, false⟩])
 (.rg [p 34 (.mv (.t 5)),
 p 35 (.bin .add (.t 34) (.k (.int .i64 1))),
 p 5 (.mv (.t 35))]))
 .skip))))
 (.rg [p 20 (.mv (.t 6)),
 p 21 (.bin .add (.t 20) (.k (.int .i64 1))),
 p 6 (.mv (.t 21))]))))))
 (.seq (.rg [p 36 (.mv (.t 0)),
 p 37 (.mv (.t 5)),
 p 38 (.sl 8 (.t 36) (some (.t 37)) none none),
 ⟨none, .clr 8 [.bool false, .int .i64 0, .int .i64 0, .bool false, .int .i64 0, .int .i64 0, .int .i64 0, .bool false] (.t 38), none, false⟩])
 (.seq (.rg [p 39 (.mv (.t 0)),
 p 40 (.mv (.t 5)),
 p 41 (.sl 8 (.t 39) none (some (.t 40)) none),
 p 4 (.mv (.t 41))])
 .ret)))))),
 [.tmp 4]⟩
def F266 : Fnc := ⟨(.seq (.rg [p 4 (.mv (.k (.int .i64 0)))])
 (.seq (.seq (.rg [p 6 (.mv (.t 0)),
 p 7 (.len (.t 6)),
 p 8 (.mv (.k (.int .i64 0)))])
 (.block 0 (.loop (.seq (.rg [p 9 (.bin .lss (.t 8) (.t 7))])
 (.seq (.cond (.t 9) .skip
 (.exit 0))
 (.seq (.block 1 (.seq (.rg [p 10 (.mv (.t 8)),
 p 5 (.mv (.t 10))])
 (.seq (.rg [p 11 (.mv (.t 1)),
 p 12 (.mv (.t 0)),
 p 13 (.mv (.t 5)),
 p 14 (.ia 1 (.t 12) (.t 13)),
 p 15 (.ld (.t 14)),
 p 16 (.calli (.t 11) [(.t 15)])])
 (.cond (.t 16) (.seq (.rg [p 17 (.mv (.t 5)),
 p 4 (.mv (.t 17))])
 .ret)
 .skip))))
 (.rg [p 18 (.bin .add (.t 8) (.k (.int .i64 1))),
 p 8 (.mv (.t 18))])))))))
 (.seq (.rg [p 4 (.mv (.k (.int .i64 (-1))))])
 .ret))),
 [.tmp 4]⟩
def F267 : Fnc := ⟨(.seq (.rg [p 4 (.mv (.k (.int .i64 0)))])
 (.seq (.seq (.rg [p 6 (.mv (.t 0)),
 p 7 (.len (.t 6)),
 p 8 (.mv (.k (.int .i64 0)))])
 (.block 0 (.loop (.seq (.rg [p 9 (.bin .lss (.t 8) (.t 7))])
 (.seq (.cond (.t 9) .skip
 (.exit 0))
 (.seq (.block 1 (.seq (.rg [p 10 (.mv (.t 8)),
 p 5 (.mv (.t 10))])
 (.seq (.rg [p 11 (.mv (.t 1)),
 p 12 (.mv (.t 0)),
 p 13 (.mv (.t 5)),
 p 14 (.ia 8 (.t 12) (.t 13)),
 p 15 (.ldn 8 (.t 14)),
 p 16 (.calli (.t 11) [(.t 15)])])
 (.cond (.t 16) (.seq (.rg [p 17 (.mv (.t 5)),
 p 4 (.mv (.t 17))])
 .ret)
 .skip))))
 (.rg [p 18 (.bin .add (.t 8) (.k (.int .i64 1))),
 p 8 (.mv (.t 18))])))))))
 (.seq (.rg [p 4 (.mv (.k (.int .i64 (-1))))])
 .ret))),
 [.tmp 4]⟩
def F269 : Fnc := ⟨(.seq (.rg [p 4 (.mv (.k (.int .i64 0)))])
 (.seq (.seq (.rg [p 6 (.mv (.t 0)),
 p 7 (.len (.t 6)),
 p 8 (.mv (.k (.int .i64 0)))])
 (.block 0 (.loop (.seq (.rg [p 9 (.bin .lss (.t 8) (.t 7))])
 (.seq (.cond (.t 9) .skip
 (.exit 0))
 (.seq (.block 1 (.seq (.rg [p 10 (.mv (.t 8)),
 p 5 (.mv (.t 10))])
 (.seq (.rg [p 11 (.mv (.t 1)),
 p 12 (.mv (.t 0)),
 p 13 (.mv (.t 5)),
 p 14 (.ia 4 (.t 12) (.t 13)),
 p 15 (.ldn 4 (.t 14)),
 p 16 (.calli (.t 11) [(.t 15)])])
 (.cond (.t 16) (.seq (.rg [p 17 (.mv (.t 5)),
 p 4 (.mv (.t 17))])
 .ret)
 .skip))))
 (.rg [p 18 (.bin .add (.t 8) (.k (.int .i64 1))),
 p 8 (.mv (.t 18))])))))))
 (.seq (.rg [p 4 (.mv (.k (.int .i64 (-1))))])
 .ret))),
 [.tmp 4]⟩
def F270 : Fnc := ⟨(.seq (.rg [p 4 (.mv (.k (.int .i64 0)))])
 (.seq (.seq (.rg [p 6 (.mv (.t 0)),
 p 7 (.len (.t 6)),
 p 8 (.mv (.k (.int .i64 0)))])
 (.block 0 (.loop (.seq (.rg [p 9 (.bin .lss (.t 8) (.t 7))])
 (.seq (.cond (.t 9) .skip
 (.exit 0))
 (.seq (.block 1 (.seq (.rg [p 10 (.mv (.t 8)),
 p 5 (.mv (.t 10))])
 (.seq (.rg [p 11 (.mv (.t 1)),
 p 12 (.mv (.t 0)),
 p 13 (.mv (.t 5)),
 p 14 (.ia 6 (.t 12) (.t 13)),
 p 15 (.ldn 6 (.t 14)),
 p 16 (.calli (.t 11) [(.t 15)])])
 (.cond (.t 16) (.seq (.rg [p 17 (.mv (.t 5)),
 p 4 (.mv (.t 17))])
 .ret)
 .skip))))
 (.rg [p 18 (.bin .add (.t 8) (.k (.int .i64 1))),
 p 8 (.mv (.t 18))])))))))
 (.seq (.rg [p 4 (.mv (.k (.int .i64 (-1))))])
 .ret))),
 [.tmp 4]⟩
def F271 : Fnc := ⟨(.seq (.rg [p 4 (.mv (.k (.int .i64 0)))])
 (.seq (.seq (.rg [p 6 (.mv (.t 0)),
 p 7 (.len (.t 6)),
 p 8 (.mv (.k (.int .i64 0)))])
 (.block 0 (.loop (.seq (.rg [p 9 (.bin .lss (.t 8) (.t 7))])
 (.seq (.cond (.t 9) .skip
 (.exit 0))
 (.seq (.block 1 (.seq (.rg [p 10 (.mv (.t 8)),
 p 5 (.mv (.t 10))])
 (.seq (.rg [p 11 (.mv (.t 1)),
 p 12 (.mv (.t 0)),
 p 13 (.mv (.t 5)),
 p 14 (.ia 6 (.t 12) (.t 13)),
 p 15 (.ldn 6 (.t 14)),
 p 16 (.calli (.t 11) [(.t 15)])])
 (.cond (.t 16) (.seq (.rg [p 17 (.mv (.t 5)),
 p 4 (.mv (.t 17))])
 .ret)
 .skip))))
 (.rg [p 18 (.bin .add (.t 8) (.k (.int .i64 1))),
 p 8 (.mv (.t 18))])))))))
 (.seq (.rg [p 4 (.mv (.k (.int .i64 (-1))))])
 .ret))),
 [.tmp 4]⟩
end Go.Proofs.YtoppcdecolponaaGreat.AL
