/- Functions in the small language, printed by program. -/
import Derived.Test.YtojdedadgddhgaaAl0
namespace Go.Proofs.Ytojdedadgddhgaa.AL
open Go

def F46 : Fnc := ⟨(.seq (.rg [p 4 (.mv (.k (.bool false)))])
 (.seq (.seq (.rg [p 8 (.mv (.t 0)),
 p 9 (.len (.t 8)),
 p 10 (.mv (.t 1)),
 p 11 (.len (.t 10)),
 p 12 (.bin .gtr (.t 9) (.t 11))])
 (.cond (.t 12) (.seq (.rg [p 4 (.mv (.k (.bool false)))])
 .ret)
 .skip))
 (.seq (.seq (.rg [p 13 (.mv (.t 0)),
 p 14 (.len (.t 13)),
 p 15 (.mv (.k (.int .i64 0)))])
 (.block 0 (.loop (.seq (.rg [p 16 (.bin .lss (.t 15) (.t 14))])
 (.seq (.cond (.t 16) .skip
 (.exit 0))
 (.seq (.block 1 (.seq (.rg [p 17 (.mv (.t 15)),
 p 18 (.ia 7 (.t 13) (.t 15)),
 p 19 (.ldn 7 (.t 18)),
 p 6 (.new [.int .i64 0, .int .i64 0, .bool false, .int .i64 0, .int .i64 0, .int .i64 0, .int .i64 0]),
 p 5 (.mv (.t 17)),
 ⟨none, .stn 7 (.t 6) (.t 19), none, false⟩])
 (.seq (.rg [p 20 (.mv (.t 1)),
 p 21 (.mv (.t 5)),
 p 22 (.ia 7 (.t 20) (.t 21)),
 p 23 (.ldn 7 (.t 22)),
 p 7 (.new [.int .i64 0, .int .i64 0, .bool false, .int .i64 0, .int .i64 0, .int .i64 0, .int .i64 0]),
 ⟨none, .stn 7 (.t 7) (.t 23), none, false⟩])
 (.seq (.rg [p 24 (.fa 2 (.t 6)),
 p 25 (.ld (.t 24)),
 p 26 (.fa 2 (.t 7)),
 p 27 (.ld (.t 26)),
 p 28 (.eqb true (.t 25) (.t 27)),
 p 29 (.mv (.t 28)),
 ⟨(some 30), .fa 3 (.t 6), (some (29, false)), false⟩,
 ⟨(some 31), .ld (.t 30), (some (29, false)), false⟩,
 ⟨(some 32), .fa 3 (.t 7), (some (29, false)), false⟩,
 ⟨(some 33), .ld (.t 32), (some (29, false)), false⟩,
 ⟨(some 34), .bin .neq (.t 31) (.t 33), (some (29, false)), false⟩,
 p 35 (.pick (.t 29) (.k (.bool true)) (.t 34)),
 p 36 (.mv (.t 35)),
 ⟨(some 37), .fa 4 (.t 6), (some (36, false)), false⟩,
 ⟨(some 38), .ld (.t 37), (some (36, false)), false⟩,
 ⟨(some 39), .fa 4 (.t 7), (some (36, false)), false⟩,
 ⟨(some 40), .ld (.t 39), (some (36, false)), false⟩,
 ⟨(some 41), .bin .neq (.t 38) (.t 40), (some (36, false)), false⟩,
 p 42 (.pick (.t 36) (.k (.bool true)) (.t 41)),
 p 43 (.mv (.t 42)),
 ⟨(some 44), .fa 2 (.t 6), (some (43, false)), false⟩,
 ⟨(some 45), .ld (.t 44), (some (43, false)), false⟩,
 ⟨(some 46), .mv (.t 45), (some (43, false)), false⟩,
 ⟨(some 47), .fa 6 (.t 6), (some (46, true)), false⟩,
 ⟨(some 48), .ld (.t 47), (some (46, true)), false⟩,
 ⟨(some 49), .bin .eql (.t 48) (.k (.int .i64 0)), (some (46, true)), false⟩,
 ⟨(some 50), .pick (.t 46) (.t 49) (.k (.bool false)), (some (43, false)), false⟩,
 ⟨(some 51), .mv (.t 50), (some (43, false)), false⟩,
 ⟨(some 52), .fa 5 (.t 6), (some (51, true)), false⟩,
 ⟨(some 53), .ld (.t 52), (some (51, true)), false⟩,
 ⟨(some 54), .fa 5 (.t 7), (some (51, true)), false⟩,
 ⟨(some 55), .ld (.t 54), (some (51, true)), false⟩,
 ⟨(some 56), .bin .neq (.t 53) (.t 55), (some (51, true)), false⟩,
 ⟨(some 57), .pick (.t 51) (.t 56) (.k (.bool false)), (some (43, false)), false⟩,
 p 58 (.pick (.t 43) (.k (.bool true)) (.t 57))])
 (.cond (.t 58) (.seq (.rg [p 4 (.mv (.k (.bool false)))])
 .ret)
 .skip)))))
 (.rg [p 59 (.bin .add (.t 15) (.k (.int .i64 1))),
 p 15 (.mv (.t 59))])))))))
 (.seq (.rg [p 4 (.mv (.k (.bool true)))])
 .ret)))),
 [.tmp 4]⟩

def F111 : Fnc := ⟨(.seq (.rg [p 4 (.mv (.k (.bool false)))])
 (.seq (.rg [p 5 (.mv (.k (.int .i64 1048576)))])
 (.seq (.rg [p 10 (.mv (.t 0)),
 p 11 (.mv (.t 5)),
 p 12 (.call 147 [(.t 10), (.t 11)]),
 p 5 (.mv (.t 12))])
 (.seq (.seq (.rg [p 13 (.mv (.t 5)),
 p 14 (.bin .lss (.t 13) (.k (.int .i64 0)))])
 (.cond (.t 14) (.seq (.rg [p 4 (.mv (.k (.bool true)))])
 .ret)
 .skip))
 (.seq (.rg [p 15 (.mv (.t 1)),
 p 16 (.mv (.t 5)),
 p 17 (.call 147 [(.t 15), (.t 16)]),
 p 5 (.mv (.t 17))])
 (.seq (.seq (.rg [p 18 (.mv (.t 5)),
 p 19 (.bin .lss (.t 18) (.k (.int .i64 0)))])
 (.cond (.t 19) (.seq (.rg [p 4 (.mv (.k (.bool true)))])
 .ret)
 .skip))
 (.seq (.rg [p 20 (.mv (.t 0)),
 p 21 (.call 162 [(.t 20)]),
 p 22 (.mv (.t 1)),
 p 23 (.call 162 [(.t 22)]),
 p 24 (.call 198 [(.t 21), (.t 23)]),
 p 6 (.mv (.t 24))])
 (.seq (.rg [p 25 (.mv (.t 0)),
 p 26 (.call 162 [(.t 25)]),
 p 7 (.mv (.t 26))])
 (.seq (.rg [p 27 (.mv (.t 1)),
 p 28 (.call 162 [(.t 27)]),
 p 8 (.mv (.t 28))])
 (.seq (.rg [p 29 (.mv (.t 7)),
 p 30 (.mv (.t 8)),
 p 31 (.call 46 [(.t 29), (.t 30)]),
 p 9 (.mv (.t 31))])
 (.seq (.seq (.rg [p 32 (.mv (.t 9)),
 p 33 (.mv (.t 6)),
 p 34 (.eqb true (.t 32) (.t 33))])
 (.cond (.t 34) (.seq (.rg [p 4 (.mv (.k (.bool false)))])
 .ret)
 .skip))
 (.seq (.seq (.rg [p 35 (.mv (.t 7)),
 p 36 (.mv (.t 0)),
 p 37 (.call 162 [(.t 36)]),
 p 38 (.call 131 [(.t 35), (.t 37)]),
 p 39 (.not (.t 38))])
 (.cond (.t 39) (.seq (.rg [p 4 (.mv (.k (.bool false)))])
 .ret)
 .skip))
 (.seq (.seq (.rg [p 40 (.mv (.t 8)),
 p 41 (.mv (.t 1)),
 p 42 (.call 162 [(.t 41)]),
 p 43 (.call 131 [(.t 40), (.t 42)]),
 p 44 (.not (.t 43))])
 (.cond (.t 44) (.seq (.rg [p 4 (.mv (.k (.bool false)))])
 .ret)
 .skip))
 (.seq (.rg [p 4 (.mv (.k (.bool true)))])
 .ret)))))))))))))),
 [.tmp 4]⟩

def F130 : Fnc := ⟨(.seq (.rg [p 2 (.box (.t 0)),
 p 3 (.box (.t 1)),
 p 4 (.mv (.k (.bool false)))])
 (.seq (.seq (.rg [p 5 (.fa 0 (.t 2)),
 p 6 (.ld (.t 5)),
 p 7 (.fa 0 (.t 3)),
 p 8 (.ld (.t 7)),
 p 9 (.bin .neq (.t 6) (.t 8))])
 (.cond (.t 9) (.seq (.rg [p 4 (.mv (.k (.bool false)))])
 .ret)
 .skip))
 (.seq (.seq (.rg [p 10 (.fa 1 (.t 2)),
 p 11 (.ld (.t 10)),
 p 12 (.fa 1 (.t 3)),
 p 13 (.ld (.t 12)),
 p 14 (.bin .neq (.t 11) (.t 13))])
 (.cond (.t 14) (.seq (.rg [p 4 (.mv (.k (.bool false)))])
 .ret)
 .skip))
 (.seq (.seq (.rg [p 15 (.fa 2 (.t 2)),
 p 16 (.ld (.t 15)),
 p 17 (.fa 2 (.t 3)),
 p 18 (.ld (.t 17)),
 p 19 (.eqb true (.t 16) (.t 18))])
 (.cond (.t 19) (.seq (.rg [p 4 (.mv (.k (.bool false)))])
 .ret)
 .skip))
 (.seq (.seq (.rg [p 20 (.fa 3 (.t 2)),
 p 21 (.ld (.t 20)),
 p 22 (.fa 3 (.t 3)),
 p 23 (.ld (.t 22)),
 p 24 (.bin .neq (.t 21) (.t 23))])
 (.cond (.t 24) (.seq (.rg [p 4 (.mv (.k (.bool false)))])
 .ret)
 .skip))
 (.seq (.seq (.rg [p 25 (.fa 4 (.t 2)),
 p 26 (.ld (.t 25)),
 p 27 (.fa 4 (.t 3)),
 p 28 (.ld (.t 27)),
 p 29 (.bin .neq (.t 26) (.t 28))])
 (.cond (.t 29) (.seq (.rg [p 4 (.mv (.k (.bool false)))])
 .ret)
 .skip))
 (.seq (.seq (.rg [p 30 (.fa 5 (.t 2)),
 p 31 (.ld (.t 30)),
 p 32 (.fa 5 (.t 3)),
 p 33 (.ld (.t 32)),
 p 34 (.bin .neq (.t 31) (.t 33))])
 (.cond (.t 34) (.seq (.rg [p 4 (.mv (.k (.bool false)))])
 .ret)
 .skip))
 (.seq (.seq (.rg [p 35 (.fa 6 (.t 2)),
 p 36 (.ld (.t 35)),
 p 37 (.fa 6 (.t 3)),
 p 38 (.ld (.t 37)),
 p 39 (.bin .neq (.t 36) (.t 38))])
 (.cond (.t 39) (.seq (.rg [p 4 (.mv (.k (.bool false)))])
 .ret)
 .skip))
 (.seq (.rg [p 4 (.mv (.k (.bool true)))])
 .ret))))))))),
 [.tmp 4]⟩

def F131 : Fnc := ⟨(.seq (.rg [p 4 (.mv (.k (.bool false)))])
 (.seq (.seq (.rg [p 6 (.mv (.t 0)),
 p 7 (.len (.t 6)),
 p 8 (.mv (.t 1)),
 p 9 (.len (.t 8)),
 p 10 (.bin .neq (.t 7) (.t 9))])
 (.cond (.t 10) (.seq (.rg [p 4 (.mv (.k (.bool false)))])
 .ret)
 .skip))
 (.seq (.seq (.rg [p 5 (.mv (.k (.int .i64 0)))])
 (.block 0 (.loop (.seq (.seq (.rg [p 11 (.mv (.t 5)),
 p 12 (.mv (.t 0)),
 p 13 (.len (.t 12)),
 p 14 (.bin .lss (.t 11) (.t 13))])
 (.cond (.t 14) .skip
 (.exit 0)))
 (.seq (.block 1 (.seq (.rg [⟨(some 17), .mv (.t 0), none, true⟩,
 ⟨(some 18), .mv (.t 5), none, true⟩,
 ⟨(some 19), .ia 7 (.t 17) (.t 18), none, true⟩,
 ⟨(some 20), .ldn 7 (.t 19), none, true⟩,
 ⟨(some 21), .mv (.t 1), none, true⟩,
 ⟨(some 22), .mv (.t 5), none, true⟩,
 ⟨(some 23), .ia 7 (.t 21) (.t 22), none, true⟩,
 ⟨(some 24), .ldn 7 (.t 23), none, true⟩,
 p 25 (.call 130 [(.t 20), (.t 24)]),
 p 26 (.not (.t 25))])
 (.cond (.t 26) (.seq (.rg [p 4 (.mv (.k (.bool false)))])
 .ret)
 .skip)))
 (.rg [p 15 (.mv (.t 5)),
 p 16 (.bin .add (.t 15) (.k (.int .i64 1))),
 p 5 (.mv (.t 16))]))))))
 (.seq (.rg [p 4 (.mv (.k (.bool true)))])
 .ret)))),
 [.tmp 4]⟩

def F147 : Fnc := ⟨(.seq (.rg [p 4 (.mv (.k (.int .i64 0)))])
 (.seq (.rg [p 5 (.mv (.t 1)),
 p 6 (.mv (.t 0)),
 p 7 (.len (.t 6)),
 p 8 (.bin .sub (.t 5) (.t 7)),
 p 1 (.mv (.t 8))])
 (.seq (.seq (.rg [p 9 (.mv (.t 1)),
 p 10 (.bin .lss (.t 9) (.k (.int .i64 0)))])
 (.cond (.t 10) (.seq (.rg [p 4 (.mv (.k (.int .i64 (-1))))])
 .ret)
 .skip))
 (.seq (.rg [p 11 (.mv (.t 1)),
 p 4 (.mv (.t 11))])
 .ret)))),
 [.tmp 4]⟩

def F161 : Fnc := ⟨(.seq (.rg [p 1 (.box (.t 0)),
 p 2 (.new [.int .i64 0, .int .i64 0, .bool false, .int .i64 0, .int .i64 0, .int .i64 0, .int .i64 0])])
 (.seq (.rg [p 3 (.new [.int .i64 0, .int .i64 0, .bool false, .int .i64 0, .int .i64 0, .int .i64 0, .int .i64 0])])
 (.seq (.rg [p 4 (.fa 0 (.t 1)),
 p 5 (.ld (.t 4)),
 p 6 (.fa 0 (.t 3)),
 ⟨none, .st (.t 6) (.t 5), none, false⟩])
 (.seq (.rg [p 7 (.fa 1 (.t 1)),
 p 8 (.ld (.t 7)),
 p 9 (.fa 1 (.t 3)),
 ⟨none, .st (.t 9) (.t 8), none, false⟩])
 (.seq (.rg [p 10 (.fa 2 (.t 1)),
 p 11 (.ld (.t 10)),
 p 12 (.fa 2 (.t 3)),
 ⟨none, .st (.t 12) (.t 11), none, false⟩])
 (.seq (.rg [p 13 (.fa 3 (.t 1)),
 p 14 (.ld (.t 13)),
 p 15 (.fa 3 (.t 3)),
 ⟨none, .st (.t 15) (.t 14), none, false⟩])
 (.seq (.rg [p 16 (.fa 4 (.t 1)),
 p 17 (.ld (.t 16)),
 p 18 (.fa 4 (.t 3)),
 ⟨none, .st (.t 18) (.t 17), none, false⟩])
 (.seq (.rg [p 19 (.fa 5 (.t 1)),
 p 20 (.ld (.t 19)),
 p 21 (.fa 5 (.t 3)),
 ⟨none, .st (.t 21) (.t 20), none, false⟩])
 (.seq (.rg [p 22 (.fa 6 (.t 1)),
 p 23 (.ld (.t 22)),
 p 24 (.fa 6 (.t 3)),
 ⟨none, .st (.t 24) (.t 23), none, false⟩])
 (.seq (.rg [p 25 (.ldn 7 (.t 3)),
 ⟨none, .stn 7 (.t 2) (.t 25), none, false⟩])
 .ret)))))))))),
 [.celln 2 7]⟩

def F162 : Fnc := ⟨(.seq (.rg [p 2 (.mv (.k (.slice none 0 0)))])
 (.seq (.rg [p 5 (.mv (.t 0)),
 p 6 (.len (.t 5)),
 p 7 (.mk 7 56 [.int .i64 0, .int .i64 0, .bool false, .int .i64 0, .int .i64 0, .int .i64 0, .int .i64 0] (.t 6) (.t 6)),
 p 3 (.mv (.t 7))])
 (.seq (.seq (.rg [p 4 (.mv (.k (.int .i64 0)))])
 (.block 0 (.loop (.seq (.seq (.rg [p 8 (.mv (.t 4)),
 p 9 (.mv (.t 0)),
 p 10 (.len (.t 9)),
 p 11 (.bin .lss (.t 8) (.t 10))])
 (.cond (.t 11) .skip
 (.exit 0)))
 (.seq (.block 1 (.rg [p 14 (.mv (.t 3)),
 p 15 (.mv (.t 4)),
 p 16 (.mv (.t 0)),
 p 17 (.mv (.t 4)),
 p 18 (.ia 7 (.t 16) (.t 17)),
 p 19 (.ldn 7 (.t 18)),
 p 20 (.call 161 [(.t 19)]),
 p 21 (.ia 7 (.t 14) (.t 15)),
 ⟨none, .stn 7 (.t 21) (.t 20), none, false⟩]))
 (.rg [p 12 (.mv (.t 4)),
 p 13 (.bin .add (.t 12) (.k (.int .i64 1))),
 p 4 (.mv (.t 13))]))))))
 (.seq (.rg [p 22 (.mv (.t 3)),
 p 2 (.mv (.t 22))])
 .ret)))),
 [.tmp 2]⟩

def F198 : Fnc := ⟨(.seq (.rg [p 4 (.mv (.k (.bool false)))])
 (.seq (.seq (.rg [p 8 (.mv (.t 0)),
 p 9 (.len (.t 8)),
 p 10 (.mv (.t 1)),
 p 11 (.len (.t 10)),
 p 12 (.bin .gtr (.t 9) (.t 11))])
 (.cond (.t 12) (.seq (.rg [p 4 (.mv (.k (.bool false)))])
 .ret)
 .skip))
 (.seq (.seq (.rg [p 5 (.mv (.k (.int .i64 0)))])
 (.block 0 (.loop (.seq (.seq (.rg [p 13 (.mv (.t 5)),
 p 14 (.mv (.t 0)),
 p 15 (.len (.t 14)),
 p 16 (.bin .lss (.t 13) (.t 15))])
 (.cond (.t 16) .skip
 (.exit 0)))
 (.seq (.block 1 (.seq (.rg [p 19 (.mv (.t 0)),
 p 20 (.mv (.t 5)),
 p 21 (.ia 7 (.t 19) (.t 20)),
 p 22 (.ldn 7 (.t 21)),
 p 6 (.new [.int .i64 0, .int .i64 0, .bool false, .int .i64 0, .int .i64 0, .int .i64 0, .int .i64 0]),
 ⟨none, .stn 7 (.t 6) (.t 22), none, false⟩])
 (.seq (.rg [p 23 (.mv (.t 1)),
 p 24 (.mv (.t 5)),
 p 25 (.ia 7 (.t 23) (.t 24)),
 p 26 (.ldn 7 (.t 25)),
 p 7 (.new [.int .i64 0, .int .i64 0, .bool false, .int .i64 0, .int .i64 0, .int .i64 0, .int .i64 0]),
 ⟨none, .stn 7 (.t 7) (.t 26), none, false⟩])
 (.seq (.rg [p 27 (.fa 2 (.t 6)),
 p 28 (.ld (.t 27)),
 p 29 (.fa 2 (.t 7)),
 p 30 (.ld (.t 29)),
 p 31 (.eqb true (.t 28) (.t 30)),
 p 32 (.mv (.t 31)),
 ⟨(some 33), .fa 3 (.t 6), (some (32, false)), false⟩,
 ⟨(some 34), .ld (.t 33), (some (32, false)), false⟩,
 ⟨(some 35), .fa 3 (.t 7), (some (32, false)), false⟩,
 ⟨(some 36), .ld (.t 35), (some (32, false)), false⟩,
 ⟨(some 37), .bin .neq (.t 34) (.t 36), (some (32, false)), false⟩,
 p 38 (.pick (.t 32) (.k (.bool true)) (.t 37)),
 p 39 (.mv (.t 38)),
 ⟨(some 40), .fa 4 (.t 6), (some (39, false)), false⟩,
 ⟨(some 41), .ld (.t 40), (some (39, false)), false⟩,
 ⟨(some 42), .fa 4 (.t 7), (some (39, false)), false⟩,
 ⟨(some 43), .ld (.t 42), (some (39, false)), false⟩,
 ⟨(some 44), .bin .neq (.t 41) (.t 43), (some (39, false)), false⟩,
 p 45 (.pick (.t 39) (.k (.bool true)) (.t 44)),
 p 46 (.mv (.t 45)),
 ⟨(some 47), .fa 2 (.t 6), (some (46, false)), false⟩,
 ⟨(some 48), .ld (.t 47), (some (46, false)), false⟩,
 ⟨(some 49), .mv (.t 48), (some (46, false)), false⟩,
 ⟨(some 50), .fa 6 (.t 6), (some (49, true)), false⟩,
 ⟨(some 51), .ld (.t 50), (some (49, true)), false⟩,
 ⟨(some 52), .bin .eql (.t 51) (.k (.int .i64 0)), (some (49, true)), false⟩,
 ⟨(some 53), .pick (.t 49) (.t 52) (.k (.bool false)), (some (46, false)), false⟩,
 ⟨(some 54), .mv (.t 53), (some (46, false)), false⟩,
 ⟨(some 55), .fa 5 (.t 6), (some (54, true)), false⟩,
 ⟨(some 56), .ld (.t 55), (some (54, true)), false⟩,
 ⟨(some 57), .fa 5 (.t 7), (some (54, true)), false⟩,
 ⟨(some 58), .ld (.t 57), (some (54, true)), false⟩,
 ⟨(some 59), .bin .neq (.t 56) (.t 58), (some (54, true)), false⟩,
 ⟨(some 60), .pick (.t 54) (.t 59) (.k (.bool false)), (some (46, false)), false⟩,
 p 61 (.pick (.t 46) (.k (.bool true)) (.t 60))])
 (.cond (.t 61) (.seq (.rg [p 4 (.mv (.k (.bool false)))])
 .ret)
 .skip)))))
 (.rg [p 17 (.mv (.t 5)),
 p 18 (.bin .add (.t 17) (.k (.int .i64 1))),
 p 5 (.mv (.t 18))]))))))
 (.seq (.rg [p 4 (.mv (.k (.bool true)))])
 .ret)))),
 [.tmp 4]⟩

end Go.Proofs.Ytojdedadgddhgaa.AL
