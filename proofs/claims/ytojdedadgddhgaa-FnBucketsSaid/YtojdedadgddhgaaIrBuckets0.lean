/- Functions in the small language, printed by program. -/
import Derived.Test.YtojdedadgddhgaaAl0
namespace Go.Proofs.Ytojdedadgddhgaa.AL
open Go

def F24 : Fnc := ⟨(.seq (.rg [p 2 (.box (.t 0)),
 p 3 (.box (.t 1)),
 p 4 (.new [.int .i64 0, .int .i64 0])])
 (.seq (.seq (.rg [p 5 (.ldn 2 (.t 2)),
 p 6 (.ldn 4 (.t 3)),
 p 7 (.call 90 [(.t 5), (.t 6)]),
 p 8 (.mv (.t 7)),
 ⟨(some 9), .fa 0 (.t 2), (some (8, true)), false⟩,
 ⟨(some 10), .ld (.t 9), (some (8, true)), false⟩,
 ⟨(some 11), .fa 3 (.t 3), (some (8, true)), false⟩,
 ⟨(some 12), .ld (.t 11), (some (8, true)), false⟩,
 ⟨(some 13), .bin .lss (.t 10) (.t 12), (some (8, true)), false⟩,
 p 14 (.pick (.t 8) (.t 13) (.k (.bool false)))])
 (.cond (.t 14) (.rg [p 15 (.fa 0 (.t 2)),
 p 16 (.ld (.t 15)),
 p 17 (.bin .add (.t 16) (.k (.int .i64 1))),
 p 18 (.fa 0 (.t 2)),
 ⟨none, .st (.t 18) (.t 17), none, false⟩])
 .skip))
 (.seq (.rg [p 19 (.ldn 2 (.t 2)),
 ⟨none, .stn 2 (.t 4) (.t 19), none, false⟩])
 .ret))),
 [.celln 4 2]⟩

def F25 : Fnc := ⟨(.seq (.rg [p 1 (.box (.t 0)),
 p 2 (.new [.int .i64 0, .int .i64 0])])
 (.seq (.seq (.rg [p 3 (.fa 1 (.t 1)),
 p 4 (.ld (.t 3)),
 p 5 (.not (.t 4))])
 (.cond (.t 5) (.seq (.rg [p 6 (.bd [.int .i64 0, .int .i64 0] []),
 ⟨none, .stn 2 (.t 2) (.t 6), none, false⟩])
 .ret)
 .skip))
 (.seq (.rg [p 7 (.fa 3 (.t 1)),
 p 8 (.ld (.t 7)),
 p 9 (.mx [(.t 8), (.k (.int .i64 0))]),
 p 10 (.bd [.int .i64 0, .int .i64 0] [(0, 1, (.t 9))]),
 ⟨none, .stn 2 (.t 2) (.t 10), none, false⟩])
 .ret))),
 [.celln 2 2]⟩

def F26 : Fnc := ⟨(.seq (.rg [p 2 (.box (.t 0)),
 p 3 (.box (.t 1)),
 p 4 (.mv (.k (.bool false)))])
 (.seq (.seq (.rg [p 5 (.fa 1 (.t 3)),
 p 6 (.ld (.t 5)),
 p 7 (.not (.t 6))])
 (.cond (.t 7) (.seq (.rg [p 8 (.ldn 2 (.t 2)),
 p 9 (.bd [.int .i64 0, .int .i64 0] []),
 p 10 (.eqs false [.i, .i] (.t 8) (.t 9)),
 p 4 (.mv (.t 10))])
 .ret)
 .skip))
 (.seq (.rg [p 11 (.fa 0 (.t 2)),
 p 12 (.ld (.t 11)),
 p 13 (.fa 3 (.t 3)),
 p 14 (.ld (.t 13)),
 p 15 (.call 103 [(.t 12), (.k (.int .i64 0)), (.t 14)]),
 p 16 (.mv (.t 15)),
 ⟨(some 17), .fa 1 (.t 2), (some (16, true)), false⟩,
 ⟨(some 18), .ld (.t 17), (some (16, true)), false⟩,
 ⟨(some 19), .bin .geq (.t 18) (.k (.int .i64 0)), (some (16, true)), false⟩,
 p 20 (.pick (.t 16) (.t 19) (.k (.bool false))),
 p 21 (.mv (.t 20)),
 ⟨(some 22), .fa 1 (.t 2), (some (21, true)), false⟩,
 ⟨(some 23), .ld (.t 22), (some (21, true)), false⟩,
 ⟨(some 24), .fa 2 (.t 3), (some (21, true)), false⟩,
 ⟨(some 25), .ld (.t 24), (some (21, true)), false⟩,
 ⟨(some 26), .bin .lss (.t 23) (.t 25), (some (21, true)), false⟩,
 p 27 (.pick (.t 21) (.t 26) (.k (.bool false))),
 p 4 (.mv (.t 27))])
 .ret))),
 [.tmp 4]⟩

def F27 : Fnc := ⟨(.seq (.rg [p 2 (.box (.t 0)),
 p 3 (.box (.t 1)),
 p 4 (.new [.int .i64 0, .int .i64 0]),
 p 5 (.mv (.k (.bool false)))])
 (.seq (.seq (.rg [p 6 (.ldn 2 (.t 2)),
 p 7 (.ldn 4 (.t 3)),
 p 8 (.call 90 [(.t 6), (.t 7)]),
 p 9 (.not (.t 8)),
 p 10 (.mv (.t 9)),
 ⟨(some 11), .fa 0 (.t 2), (some (10, false)), false⟩,
 ⟨(some 12), .ld (.t 11), (some (10, false)), false⟩,
 ⟨(some 13), .bin .eql (.t 12) (.k (.int .i64 0)), (some (10, false)), false⟩,
 p 14 (.pick (.t 10) (.k (.bool true)) (.t 13))])
 (.cond (.t 14) (.seq (.rg [p 15 (.ldn 2 (.t 2)),
 ⟨none, .stn 2 (.t 4) (.t 15), none, false⟩,
 p 5 (.mv (.k (.bool false)))])
 .ret)
 .skip))
 (.seq (.rg [p 16 (.fa 0 (.t 2)),
 p 17 (.ld (.t 16)),
 p 18 (.bin .sub (.t 17) (.k (.int .i64 1))),
 p 19 (.fa 0 (.t 2)),
 ⟨none, .st (.t 19) (.t 18), none, false⟩])
 (.seq (.rg [p 20 (.ldn 2 (.t 2)),
 ⟨none, .stn 2 (.t 4) (.t 20), none, false⟩,
 p 5 (.mv (.k (.bool true)))])
 .ret)))),
 [.celln 4 2, .tmp 5]⟩

def F28 : Fnc := ⟨(.seq (.rg [p 2 (.box (.t 0)),
 p 3 (.box (.t 1)),
 p 4 (.new [.int .i64 0, .int .i64 0])])
 (.seq (.seq (.rg [p 5 (.ldn 2 (.t 2)),
 p 6 (.ldn 4 (.t 3)),
 p 7 (.call 90 [(.t 5), (.t 6)]),
 p 8 (.not (.t 7))])
 (.cond (.t 8) (.seq (.rg [p 9 (.ldn 2 (.t 2)),
 ⟨none, .stn 2 (.t 4) (.t 9), none, false⟩])
 .ret)
 .skip))
 (.seq (.rg [p 10 (.fa 1 (.t 2)),
 p 11 (.ld (.t 10)),
 p 12 (.bin .add (.t 11) (.k (.int .i64 1))),
 p 13 (.fa 1 (.t 2)),
 ⟨none, .st (.t 13) (.t 12), none, false⟩])
 (.seq (.seq (.rg [p 14 (.fa 1 (.t 2)),
 p 15 (.ld (.t 14)),
 p 16 (.fa 2 (.t 3)),
 p 17 (.ld (.t 16)),
 p 18 (.bin .eql (.t 15) (.t 17))])
 (.cond (.t 18) (.seq (.rg [p 19 (.fa 1 (.t 2)),
 ⟨none, .st (.t 19) (.k (.int .i64 0)), none, false⟩])
 (.rg [p 20 (.fa 0 (.t 2)),
 p 21 (.ld (.t 20)),
 p 22 (.bin .add (.t 21) (.k (.int .i64 1))),
 p 23 (.fa 3 (.t 3)),
 p 24 (.ld (.t 23)),
 p 25 (.mn [(.t 22), (.t 24)]),
 p 26 (.fa 0 (.t 2)),
 ⟨none, .st (.t 26) (.t 25), none, false⟩]))
 .skip))
 (.seq (.rg [p 27 (.ldn 2 (.t 2)),
 ⟨none, .stn 2 (.t 4) (.t 27), none, false⟩])
 .ret))))),
 [.celln 4 2]⟩

def F76 : Fnc := ⟨(.seq (.rg [p 2 (.box (.t 0)),
 p 4 (.mv (.k (.int .i64 0)))])
 (.seq (.seq (.rg [p 5 (.fa 1 (.t 2)),
 p 6 (.ld (.t 5)),
 p 7 (.not (.t 6)),
 p 8 (.mv (.t 7)),
 ⟨(some 9), .fa 2 (.t 2), (some (8, false)), false⟩,
 ⟨(some 10), .ld (.t 9), (some (8, false)), false⟩,
 ⟨(some 11), .bin .lss (.t 10) (.k (.int .i64 1)), (some (8, false)), false⟩,
 p 12 (.pick (.t 8) (.k (.bool true)) (.t 11)),
 p 13 (.mv (.t 12)),
 ⟨(some 14), .fa 3 (.t 2), (some (13, false)), false⟩,
 ⟨(some 15), .ld (.t 14), (some (13, false)), false⟩,
 ⟨(some 16), .bin .lss (.t 15) (.k (.int .i64 0)), (some (13, false)), false⟩,
 p 17 (.pick (.t 13) (.k (.bool true)) (.t 16)),
 p 18 (.mv (.t 17)),
 ⟨(some 19), .mv (.t 1), (some (18, false)), false⟩,
 ⟨(some 20), .call 103 [(.t 19), (.k (.int .i64 0)), (.k (.int .i64 4000))], (some (18, false)), false⟩,
 ⟨(some 21), .not (.t 20), (some (18, false)), false⟩,
 p 22 (.pick (.t 18) (.k (.bool true)) (.t 21))])
 (.cond (.t 22) (.seq (.rg [p 4 (.mv (.k (.int .i64 0)))])
 .ret)
 .skip))
 (.seq (.rg [⟨(some 23), .fa 3 (.t 2), none, true⟩,
 ⟨(some 24), .ld (.t 23), none, true⟩,
 ⟨(some 25), .mv (.t 1), none, true⟩,
 ⟨(some 26), .fa 2 (.t 2), none, true⟩,
 ⟨(some 27), .ld (.t 26), none, true⟩,
 ⟨(some 28), .bin .quo (.t 25) (.t 27), none, true⟩,
 p 29 (.bin .add (.t 24) (.t 28)),
 p 30 (.bin .add (.t 29) (.k (.int .i64 1))),
 p 4 (.mv (.t 30))])
 .ret))),
 [.tmp 4]⟩

def F90 : Fnc := ⟨(.seq (.rg [p 2 (.box (.t 0)),
 p 3 (.box (.t 1)),
 p 4 (.mv (.k (.bool false)))])
 (.seq (.rg [p 5 (.fa 1 (.t 3)),
 p 6 (.ld (.t 5)),
 p 7 (.mv (.t 6)),
 ⟨(some 8), .ldn 2 (.t 2), (some (7, true)), false⟩,
 ⟨(some 9), .ldn 4 (.t 3), (some (7, true)), false⟩,
 ⟨(some 10), .call 26 [(.t 8), (.t 9)], (some (7, true)), false⟩,
 p 11 (.pick (.t 7) (.t 10) (.k (.bool false))),
 p 4 (.mv (.t 11))])
 .ret)),
 [.tmp 4]⟩

def F103 : Fnc := ⟨(.seq (.rg [p 6 (.mv (.k (.bool false)))])
 (.seq (.rg [p 7 (.mv (.t 1)),
 p 8 (.mv (.t 0)),
 p 9 (.bin .leq (.t 7) (.t 8)),
 p 10 (.mv (.t 9)),
 ⟨(some 11), .mv (.t 0), (some (10, true)), false⟩,
 ⟨(some 12), .mv (.t 2), (some (10, true)), false⟩,
 ⟨(some 13), .bin .leq (.t 11) (.t 12), (some (10, true)), false⟩,
 p 14 (.pick (.t 10) (.t 13) (.k (.bool false))),
 p 6 (.mv (.t 14))])
 .ret)),
 [.tmp 6]⟩

def F104 : Fnc := ⟨(.seq (.rg [p 2 (.mv (.k (.bool false)))])
 (.seq (.seq (.rg [p 10 (.mv (.t 0)),
 p 11 (.call 123 [(.t 10)])])
 (.cond (.t 11) (.seq (.rg [p 2 (.mv (.k (.bool true)))])
 .ret)
 .skip))
 (.seq (.rg [p 13 (.mv (.t 0)),
 p 14 (.call 192 [(.t 13)]),
 p 12 (.mv (.t 14)),
 p 15 (.ext 0 (.t 12)),
 p 16 (.ext 1 (.t 12)),
 p 3 (.new [.int .i64 0, .int .i64 0]),
 p 4 (.new [.int .i64 0, .bool false, .int .i64 0, .int .i64 0]),
 ⟨none, .stn 2 (.t 3) (.t 15), none, false⟩,
 ⟨none, .stn 4 (.t 4) (.t 16), none, false⟩])
 (.seq (.seq (.rg [⟨(some 17), .ldn 2 (.t 3), none, true⟩,
 ⟨(some 18), .ldn 4 (.t 4), none, true⟩,
 ⟨(some 19), .call 26 [(.t 17), (.t 18)], none, true⟩,
 ⟨(some 20), .ldn 2 (.t 3), none, true⟩,
 ⟨(some 21), .ldn 4 (.t 4), none, true⟩,
 p 22 (.call 176 [(.t 20), (.t 21)]),
 p 23 (.eqb true (.t 19) (.t 22)),
 p 24 (.mv (.t 23)),
 ⟨(some 25), .ldn 4 (.t 4), (some (24, false)), true⟩,
 ⟨(some 26), .call 25 [(.t 25)], (some (24, false)), true⟩,
 ⟨(some 27), .ldn 4 (.t 4), (some (24, false)), true⟩,
 ⟨(some 28), .call 26 [(.t 26), (.t 27)], (some (24, false)), false⟩,
 ⟨(some 29), .not (.t 28), (some (24, false)), false⟩,
 p 30 (.pick (.t 24) (.k (.bool true)) (.t 29))])
 (.cond (.t 30) (.seq (.rg [p 2 (.mv (.k (.bool false)))])
 .ret)
 .skip))
 (.seq (.seq (.rg [p 31 (.ldn 2 (.t 3)),
 p 32 (.ldn 4 (.t 4)),
 p 33 (.call 176 [(.t 31), (.t 32)]),
 p 34 (.not (.t 33))])
 (.cond (.t 34) (.seq (.rg [⟨(some 35), .ldn 2 (.t 3), none, true⟩,
 ⟨(some 36), .ldn 4 (.t 4), none, true⟩,
 ⟨(some 37), .call 28 [(.t 35), (.t 36)], none, true⟩,
 ⟨(some 38), .ldn 2 (.t 3), none, true⟩,
 p 39 (.eqs false [.i, .i] (.t 37) (.t 38)),
 p 2 (.mv (.t 39))])
 .ret)
 .skip))
 (.seq (.rg [p 5 (.mv (.k (.int .i64 0)))])
 (.seq (.rg [p 40 (.mv (.t 0)),
 p 41 (.call 122 [(.t 40), (.k (.int .i64 0))]),
 p 42 (.bin .rem (.t 41) (.k (.int .i64 60))),
 p 6 (.mv (.t 42))])
 (.seq (.seq (.rg [p 7 (.mv (.k (.int .i64 0)))])
 (.block 0 (.loop (.seq (.seq (.rg [p 43 (.mv (.t 7)),
 p 44 (.mv (.t 6)),
 p 45 (.bin .lss (.t 43) (.t 44))])
 (.cond (.t 45) .skip
 (.exit 0)))
 (.seq (.block 1 (.seq (.rg [p 48 (.ldn 2 (.t 3)),
 p 49 (.ldn 4 (.t 4)),
 p 50 (.call 28 [(.t 48), (.t 49)]),
 ⟨none, .stn 2 (.t 3) (.t 50), none, false⟩])
 (.seq (.seq (.rg [p 51 (.mv (.t 0)),
 p 52 (.mv (.t 7)),
 p 53 (.bin .add (.t 52) (.k (.int .i64 1))),
 p 54 (.call 122 [(.t 51), (.t 53)]),
 p 55 (.bin .rem (.t 54) (.k (.int .i64 2))),
 p 56 (.bin .eql (.t 55) (.k (.int .i64 0)))])
 (.cond (.t 56) (.seq (.rg [p 58 (.ldn 2 (.t 3)),
 p 59 (.ldn 4 (.t 4)),
 p 60 (.call 27 [(.t 58), (.t 59)]),
 p 57 (.mv (.t 60)),
 p 61 (.ext 0 (.t 57)),
 p 62 (.ext 1 (.t 57)),
 p 8 (.new [.int .i64 0, .int .i64 0]),
 ⟨none, .stn 2 (.t 8) (.t 61), none, false⟩,
 p 9 (.mv (.t 62))])
 (.seq (.seq (.rg [p 63 (.mv (.t 9)),
 p 64 (.fa 1 (.t 4)),
 p 65 (.ld (.t 64)),
 p 66 (.mv (.t 65)),
 ⟨(some 67), .fa 0 (.t 3), (some (66, true)), false⟩,
 ⟨(some 68), .ld (.t 67), (some (66, true)), false⟩,
 ⟨(some 69), .bin .gtr (.t 68) (.k (.int .i64 0)), (some (66, true)), false⟩,
 p 70 (.pick (.t 66) (.t 69) (.k (.bool false))),
 p 71 (.eqb true (.t 63) (.t 70))])
 (.cond (.t 71) (.seq (.rg [p 2 (.mv (.k (.bool false)))])
 .ret)
 .skip))
 (.seq (.seq (.rg [p 72 (.mv (.t 9))])
 (.cond (.t 72) (.seq (.rg [p 73 (.mv (.t 5)),
 p 74 (.bin .add (.t 73) (.k (.int .i64 1))),
 p 5 (.mv (.t 74))])
 (.seq (.rg [⟨(some 75), .ldn 2 (.t 8), none, true⟩,
 ⟨(some 76), .ldn 4 (.t 4), none, true⟩,
 ⟨(some 77), .call 24 [(.t 75), (.t 76)], none, true⟩,
 ⟨(some 78), .fld 0 none (.t 77), none, true⟩,
 ⟨(some 79), .fa 0 (.t 3), none, true⟩,
 ⟨(some 80), .ld (.t 79), none, true⟩,
 p 81 (.bin .neq (.t 78) (.t 80))])
 (.cond (.t 81) (.seq (.rg [p 2 (.mv (.k (.bool false)))])
 .ret)
 .skip)))
 .skip))
 (.rg [p 82 (.ldn 2 (.t 8)),
 ⟨none, .stn 2 (.t 3) (.t 82), none, false⟩]))))
 .skip))
 (.seq (.rg [p 83 (.ldn 2 (.t 3)),
 p 84 (.ldn 4 (.t 4)),
 p 85 (.call 176 [(.t 83), (.t 84)]),
 p 86 (.not (.t 85))])
 (.cond (.t 86) (.seq (.rg [p 2 (.mv (.k (.bool false)))])
 .ret)
 .skip)))))
 (.rg [p 46 (.mv (.t 7)),
 p 47 (.bin .add (.t 46) (.k (.int .i64 1))),
 p 7 (.mv (.t 47))]))))))
 (.seq (.rg [p 87 (.mv (.t 5)),
 p 88 (.ldn 4 (.t 4)),
 p 89 (.mv (.t 6)),
 p 90 (.call 76 [(.t 88), (.t 89)]),
 p 91 (.bin .leq (.t 87) (.t 90)),
 p 2 (.mv (.t 91))])
 .ret))))))))),
 [.tmp 2]⟩

def F122 : Fnc := ⟨(.seq (.rg [p 4 (.mv (.k (.int .i64 0)))])
 (.seq (.seq (.rg [p 5 (.mv (.t 1)),
 p 6 (.mv (.t 0)),
 p 7 (.len (.t 6)),
 p 8 (.bin .lss (.t 5) (.t 7))])
 (.cond (.t 8) (.seq (.rg [p 9 (.mv (.t 0)),
 p 10 (.mv (.t 1)),
 p 11 (.ia 1 (.t 9) (.t 10)),
 p 12 (.ld (.t 11)),
 p 13 (.cvi .i64 (.t 12)),
 p 4 (.mv (.t 13))])
 .ret)
 .skip))
 (.seq (.rg [p 14 (.mv (.t 1)),
 p 15 (.bin .mul (.t 14) (.k (.int .i64 37))),
 p 16 (.mv (.t 0)),
 p 17 (.len (.t 16)),
 p 18 (.bin .mul (.t 17) (.k (.int .i64 11))),
 p 19 (.bin .add (.t 15) (.t 18)),
 p 20 (.bin .rem (.t 19) (.k (.int .i64 256))),
 p 4 (.mv (.t 20))])
 .ret))),
 [.tmp 4]⟩

def F123 : Fnc := ⟨(.seq (.rg [p 2 (.mv (.k (.bool false)))])
 (.seq (.rg [p 3 (.mv (.t 0)),
 p 4 (.len (.t 3)),
 p 5 (.bin .gtr (.t 4) (.k (.int .i64 1048576))),
 p 2 (.mv (.t 5))])
 .ret)),
 [.tmp 2]⟩

def F175 : Fnc := ⟨(.seq (.rg [p 1 (.box (.t 0)),
 p 2 (.new [.int .i64 0, .int .i64 0])])
 (.seq (.seq (.rg [p 3 (.fa 1 (.t 1)),
 p 4 (.ld (.t 3)),
 p 5 (.not (.t 4))])
 (.cond (.t 5) (.seq (.rg [p 6 (.bd [.int .i64 0, .int .i64 0] []),
 ⟨none, .stn 2 (.t 2) (.t 6), none, false⟩])
 .ret)
 .skip))
 (.seq (.rg [p 7 (.fa 3 (.t 1)),
 p 8 (.ld (.t 7)),
 p 9 (.mx [(.k (.int .i64 0)), (.t 8)]),
 p 10 (.bd [.int .i64 0, .int .i64 0] [(0, 1, (.t 9))]),
 ⟨none, .stn 2 (.t 2) (.t 10), none, false⟩])
 .ret))),
 [.celln 2 2]⟩

def F176 : Fnc := ⟨(.seq (.rg [p 2 (.box (.t 0)),
 p 3 (.box (.t 1)),
 p 4 (.mv (.k (.bool false)))])
 (.seq (.seq (.rg [p 5 (.fa 1 (.t 3)),
 p 6 (.ld (.t 5)),
 p 7 (.not (.t 6))])
 (.cond (.t 7) (.seq (.rg [p 8 (.ldn 2 (.t 2)),
 p 9 (.bd [.int .i64 0, .int .i64 0] []),
 p 10 (.eqs false [.i, .i] (.t 8) (.t 9)),
 p 4 (.mv (.t 10))])
 .ret)
 .skip))
 (.seq (.rg [p 11 (.fa 0 (.t 2)),
 p 12 (.ld (.t 11)),
 p 13 (.fa 3 (.t 3)),
 p 14 (.ld (.t 13)),
 p 15 (.call 230 [(.t 12), (.k (.int .i64 0)), (.t 14)]),
 p 16 (.mv (.t 15)),
 ⟨(some 17), .fa 1 (.t 2), (some (16, true)), false⟩,
 ⟨(some 18), .ld (.t 17), (some (16, true)), false⟩,
 ⟨(some 19), .fa 2 (.t 3), (some (16, true)), false⟩,
 ⟨(some 20), .ld (.t 19), (some (16, true)), false⟩,
 ⟨(some 21), .bin .sub (.t 20) (.k (.int .i64 1)), (some (16, true)), false⟩,
 ⟨(some 22), .call 230 [(.t 18), (.k (.int .i64 0)), (.t 21)], (some (16, true)), false⟩,
 p 23 (.pick (.t 16) (.t 22) (.k (.bool false))),
 p 4 (.mv (.t 23))])
 .ret))),
 [.tmp 4]⟩

def F177 : Fnc := ⟨(.seq (.rg [p 2 (.box (.t 0)),
 p 3 (.box (.t 1)),
 p 4 (.new [.int .i64 0, .int .i64 0]),
 p 5 (.mv (.k (.bool false)))])
 (.seq (.seq (.rg [p 6 (.fa 1 (.t 3)),
 p 7 (.ld (.t 6)),
 p 8 (.not (.t 7)),
 p 9 (.mv (.t 8)),
 ⟨(some 10), .ldn 2 (.t 2), (some (9, false)), false⟩,
 ⟨(some 11), .ldn 4 (.t 3), (some (9, false)), false⟩,
 ⟨(some 12), .call 176 [(.t 10), (.t 11)], (some (9, false)), false⟩,
 ⟨(some 13), .not (.t 12), (some (9, false)), false⟩,
 p 14 (.pick (.t 9) (.k (.bool true)) (.t 13)),
 p 15 (.mv (.t 14)),
 ⟨(some 16), .fa 0 (.t 2), (some (15, false)), false⟩,
 ⟨(some 17), .ld (.t 16), (some (15, false)), false⟩,
 ⟨(some 18), .bin .eql (.t 17) (.k (.int .i64 0)), (some (15, false)), false⟩,
 p 19 (.pick (.t 15) (.k (.bool true)) (.t 18))])
 (.cond (.t 19) (.seq (.rg [p 20 (.ldn 2 (.t 2)),
 ⟨none, .stn 2 (.t 4) (.t 20), none, false⟩,
 p 5 (.mv (.k (.bool false)))])
 .ret)
 .skip))
 (.seq (.rg [p 21 (.fa 0 (.t 2)),
 p 22 (.ld (.t 21)),
 p 23 (.bin .sub (.t 22) (.k (.int .i64 1))),
 p 24 (.fa 0 (.t 2)),
 ⟨none, .st (.t 24) (.t 23), none, false⟩])
 (.seq (.rg [p 25 (.ldn 2 (.t 2)),
 ⟨none, .stn 2 (.t 4) (.t 25), none, false⟩,
 p 5 (.mv (.k (.bool true)))])
 .ret)))),
 [.celln 4 2, .tmp 5]⟩

def F178 : Fnc := ⟨(.seq (.rg [p 2 (.box (.t 0)),
 p 3 (.box (.t 1)),
 p 4 (.new [.int .i64 0, .int .i64 0])])
 (.seq (.seq (.rg [p 5 (.fa 1 (.t 3)),
 p 6 (.ld (.t 5)),
 p 7 (.not (.t 6)),
 p 8 (.mv (.t 7)),
 ⟨(some 9), .ldn 2 (.t 2), (some (8, false)), false⟩,
 ⟨(some 10), .ldn 4 (.t 3), (some (8, false)), false⟩,
 ⟨(some 11), .call 176 [(.t 9), (.t 10)], (some (8, false)), false⟩,
 ⟨(some 12), .not (.t 11), (some (8, false)), false⟩,
 p 13 (.pick (.t 8) (.k (.bool true)) (.t 12))])
 (.cond (.t 13) (.seq (.rg [p 14 (.ldn 2 (.t 2)),
 ⟨none, .stn 2 (.t 4) (.t 14), none, false⟩])
 .ret)
 .skip))
 (.seq (.rg [p 15 (.fa 1 (.t 2)),
 p 16 (.ld (.t 15)),
 p 17 (.bin .add (.t 16) (.k (.int .i64 1))),
 p 18 (.fa 1 (.t 2)),
 ⟨none, .st (.t 18) (.t 17), none, false⟩])
 (.seq (.seq (.rg [p 19 (.fa 1 (.t 2)),
 p 20 (.ld (.t 19)),
 p 21 (.fa 2 (.t 3)),
 p 22 (.ld (.t 21)),
 p 23 (.bin .eql (.t 20) (.t 22))])
 (.cond (.t 23) (.seq (.rg [p 24 (.fa 1 (.t 2)),
 ⟨none, .st (.t 24) (.k (.int .i64 0)), none, false⟩])
 (.rg [p 25 (.fa 3 (.t 3)),
 p 26 (.ld (.t 25)),
 p 27 (.fa 0 (.t 2)),
 p 28 (.ld (.t 27)),
 p 29 (.bin .add (.t 28) (.k (.int .i64 1))),
 p 30 (.mn [(.t 26), (.t 29)]),
 p 31 (.fa 0 (.t 2)),
 ⟨none, .st (.t 31) (.t 30), none, false⟩]))
 .skip))
 (.seq (.rg [p 32 (.ldn 2 (.t 2)),
 ⟨none, .stn 2 (.t 4) (.t 32), none, false⟩])
 .ret))))),
 [.celln 4 2]⟩

def F191 : Fnc := ⟨(.seq (.rg [p 2 (.new [.int .i64 0, .int .i64 0]),
 p 3 (.new [.int .i64 0, .bool false, .int .i64 0, .int .i64 0])])
 (.seq (.rg [p 7 (.mv (.t 0)),
 p 8 (.call 231 [(.t 7)]),
 p 9 (.call 218 [(.t 8)]),
 p 6 (.mv (.t 9)),
 p 10 (.ext 0 (.t 6)),
 p 11 (.ext 1 (.t 6)),
 p 4 (.new [.int .i64 0, .int .i64 0]),
 p 5 (.new [.int .i64 0, .bool false, .int .i64 0, .int .i64 0]),
 ⟨none, .stn 2 (.t 4) (.t 10), none, false⟩,
 ⟨none, .stn 4 (.t 5) (.t 11), none, false⟩])
 (.seq (.rg [⟨(some 12), .ldn 2 (.t 4), none, true⟩,
 ⟨(some 13), .ldn 4 (.t 5), none, true⟩,
 ⟨none, .stn 2 (.t 2) (.t 12), none, true⟩,
 ⟨none, .stn 4 (.t 3) (.t 13), none, false⟩])
 .ret))),
 [.celln 2 2, .celln 3 4]⟩

def F192 : Fnc := ⟨(.seq (.rg [p 2 (.new [.int .i64 0, .int .i64 0]),
 p 3 (.new [.int .i64 0, .bool false, .int .i64 0, .int .i64 0])])
 (.seq (.rg [p 4 (.mv (.t 0)),
 p 5 (.call 191 [(.t 4)]),
 p 6 (.ext 0 (.t 5)),
 p 7 (.ext 1 (.t 5)),
 ⟨none, .stn 2 (.t 2) (.t 6), none, false⟩,
 ⟨none, .stn 4 (.t 3) (.t 7), none, false⟩])
 .ret)),
 [.celln 2 2, .celln 3 4]⟩

def F218 : Fnc := ⟨(.seq (.rg [p 2 (.new [.int .i64 0, .int .i64 0]),
 p 3 (.new [.int .i64 0, .bool false, .int .i64 0, .int .i64 0])])
 (.seq (.rg [p 7 (.mv (.t 0)),
 p 8 (.call 219 [(.t 7)]),
 p 4 (.new [.int .i64 0, .bool false, .int .i64 0, .int .i64 0]),
 ⟨none, .stn 4 (.t 4) (.t 8), none, false⟩])
 (.seq (.rg [p 9 (.ldn 4 (.t 4)),
 p 10 (.call 175 [(.t 9)]),
 p 5 (.new [.int .i64 0, .int .i64 0]),
 ⟨none, .stn 2 (.t 5) (.t 10), none, false⟩])
 (.seq (.seq (.rg [p 11 (.mv (.t 0)),
 p 12 (.call 228 [(.t 11), (.k (.int .i64 20))]),
 p 6 (.mv (.t 12))])
 (.block 0 (.loop (.seq (.seq (.rg [p 13 (.mv (.t 6)),
 p 14 (.bin .gtr (.t 13) (.k (.int .i64 0)))])
 (.cond (.t 14) .skip
 (.exit 0)))
 (.seq (.block 1 (.seq (.rg [p 17 (.ldn 2 (.t 5)),
 p 18 (.ldn 4 (.t 4)),
 p 19 (.call 178 [(.t 17), (.t 18)]),
 ⟨none, .stn 2 (.t 5) (.t 19), none, false⟩])
 (.seq (.rg [p 20 (.mv (.t 0)),
 p 21 (.call 233 [(.t 20), (.k (.int .i64 3))])])
 (.cond (.t 21) (.rg [p 23 (.ldn 2 (.t 5)),
 p 24 (.ldn 4 (.t 4)),
 p 25 (.call 177 [(.t 23), (.t 24)]),
 p 22 (.mv (.t 25)),
 p 26 (.ext 0 (.t 22)),
 p 27 (.ext 1 (.t 22)),
 ⟨none, .stn 2 (.t 5) (.t 26), none, false⟩])
 .skip))))
 (.rg [p 15 (.mv (.t 6)),
 p 16 (.bin .sub (.t 15) (.k (.int .i64 1))),
 p 6 (.mv (.t 16))]))))))
 (.seq (.seq (.rg [p 28 (.mv (.t 0)),
 p 29 (.call 228 [(.t 28), (.k (.int .i64 12))])])
 (.block 2 (.seq (.rg [p 31 (.bin .eql (.t 29) (.k (.int .i64 0))),
 p 30 (.mv (.t 31))])
 (.cond (.t 30) (.rg [p 32 (.mv (.t 0)),
 p 33 (.fa 3 (.t 4)),
 p 34 (.ld (.t 33)),
 p 35 (.bin .add (.t 34) (.k (.int .i64 1))),
 p 36 (.bs 1 2 [.int .i64 0] [(0, (.k (.int .i64 (-1)))), (1, (.t 35))]),
 p 37 (.call 234 [(.t 32), (.t 36)]),
 p 38 (.fa 0 (.t 5)),
 ⟨none, .st (.t 38) (.t 37), none, false⟩])
 (.seq (.rg [p 40 (.bin .eql (.t 29) (.k (.int .i64 1))),
 p 39 (.mv (.t 40))])
 (.cond (.t 39) (.rg [p 41 (.mv (.t 0)),
 p 42 (.fa 2 (.t 4)),
 p 43 (.ld (.t 42)),
 p 44 (.bs 1 2 [.int .i64 0] [(0, (.k (.int .i64 (-1)))), (1, (.t 43))]),
 p 45 (.call 234 [(.t 41), (.t 44)]),
 p 46 (.fa 1 (.t 5)),
 ⟨none, .st (.t 46) (.t 45), none, false⟩])
 .skip))))))
 (.seq (.rg [⟨(some 47), .ldn 2 (.t 5), none, true⟩,
 ⟨(some 48), .ldn 4 (.t 4), none, true⟩,
 ⟨none, .stn 2 (.t 2) (.t 47), none, true⟩,
 ⟨none, .stn 4 (.t 3) (.t 48), none, false⟩])
 .ret)))))),
 [.celln 2 2, .celln 3 4]⟩

def F219 : Fnc := ⟨(.seq (.rg [p 2 (.new [.int .i64 0, .bool false, .int .i64 0, .int .i64 0])])
 (.seq (.seq (.rg [p 3 (.mv (.t 0)),
 p 4 (.call 233 [(.t 3), (.k (.int .i64 5))])])
 (.cond (.t 4) (.seq (.rg [p 5 (.bd [.int .i64 0, .bool false, .int .i64 0, .int .i64 0] [(0, 1, (.k (.int .i64 1)))]),
 ⟨none, .stn 4 (.t 2) (.t 5), none, false⟩])
 .ret)
 .skip))
 (.seq (.rg [p 6 (.mv (.t 0)),
 p 7 (.call 228 [(.t 6), (.k (.int .i64 6))]),
 p 8 (.bin .add (.k (.int .i64 1)) (.t 7)),
 p 9 (.mv (.t 0)),
 p 10 (.call 228 [(.t 9), (.k (.int .i64 4))]),
 p 11 (.bin .add (.k (.int .i64 1)) (.t 10)),
 p 12 (.bd [.int .i64 0, .bool false, .int .i64 0, .int .i64 0] [(0, 1, (.k (.int .i64 1))), (1, 1, (.k (.bool true))), (2, 1, (.t 8)), (3, 1, (.t 11))]),
 ⟨none, .stn 4 (.t 2) (.t 12), none, false⟩])
 .ret))),
 [.celln 2 4]⟩

def F228 : Fnc := ⟨(.seq (.rg [p 4 (.mv (.k (.int .i64 0)))])
 (.seq (.seq (.rg [p 9 (.mv (.t 1)),
 p 10 (.bin .leq (.t 9) (.k (.int .i64 0)))])
 (.cond (.t 10) (.seq (.rg [p 4 (.mv (.k (.int .i64 0)))])
 .ret)
 .skip))
 (.seq (.seq (.rg [p 11 (.mv (.t 1)),
 p 12 (.bin .leq (.t 11) (.k (.int .i64 256)))])
 (.cond (.t 12) (.seq (.rg [p 13 (.mv (.t 0)),
 p 14 (.call 229 [(.t 13)]),
 p 15 (.mv (.t 1)),
 p 16 (.bin .rem (.t 14) (.t 15)),
 p 4 (.mv (.t 16))])
 .ret)
 .skip))
 (.seq (.rg [p 17 (.mv (.t 0)),
 p 18 (.call 229 [(.t 17)]),
 p 5 (.mv (.t 18))])
 (.seq (.rg [p 19 (.mv (.t 0)),
 p 20 (.call 229 [(.t 19)]),
 p 6 (.mv (.t 20))])
 (.seq (.rg [p 21 (.mv (.t 0)),
 p 22 (.call 229 [(.t 21)]),
 p 7 (.mv (.t 22))])
 (.seq (.rg [p 23 (.mv (.t 0)),
 p 24 (.call 229 [(.t 23)]),
 p 8 (.mv (.t 24))])
 (.seq (.rg [p 25 (.mv (.t 5)),
 p 26 (.bin .mul (.t 25) (.k (.int .i64 16777216))),
 p 27 (.mv (.t 6)),
 p 28 (.bin .mul (.t 27) (.k (.int .i64 65536))),
 p 29 (.bin .add (.t 26) (.t 28)),
 p 30 (.mv (.t 7)),
 p 31 (.bin .mul (.t 30) (.k (.int .i64 256))),
 p 32 (.bin .add (.t 29) (.t 31)),
 p 33 (.mv (.t 8)),
 p 34 (.bin .add (.t 32) (.t 33)),
 p 35 (.mv (.t 1)),
 p 36 (.bin .rem (.t 34) (.t 35)),
 p 4 (.mv (.t 36))])
 .ret)))))))),
 [.tmp 4]⟩

def F229 : Fnc := ⟨(.seq (.rg [p 2 (.mv (.k (.int .i64 0)))])
 (.seq (.rg [p 4 (.mv (.t 0)),
 p 5 (.mv (.t 0)),
 p 6 (.nilc (.t 5)),
 p 7 (.fa 2 (.t 6)),
 p 8 (.ld (.t 7)),
 p 9 (.bin .mul (.t 8) (.k (.int .i64 6364136223846793005))),
 p 10 (.bin .add (.t 9) (.k (.int .i64 1442695040888963407))),
 p 11 (.nilc (.t 4)),
 p 12 (.fa 2 (.t 11)),
 ⟨none, .st (.t 12) (.t 10), none, false⟩])
 (.seq (.rg [⟨(some 13), .mv (.t 0), none, true⟩,
 ⟨(some 14), .nilc (.t 13), none, true⟩,
 ⟨(some 15), .fa 2 (.t 14), none, true⟩,
 ⟨(some 16), .ld (.t 15), none, true⟩,
 ⟨(some 17), .bin .shr (.t 16) (.k (.int .u64 33)), none, true⟩,
 ⟨(some 18), .mv (.t 0), none, true⟩,
 ⟨(some 19), .nilc (.t 18), none, true⟩,
 ⟨(some 20), .fa 2 (.t 19), none, true⟩,
 ⟨(some 21), .ld (.t 20), none, true⟩,
 ⟨(some 22), .bin .shr (.t 21) (.k (.int .u64 45)), none, true⟩,
 p 23 (.bin .xor (.t 17) (.t 22)),
 p 24 (.bin .and (.t 23) (.k (.int .i64 255))),
 p 3 (.mv (.t 24))])
 (.seq (.seq (.rg [⟨(some 25), .mv (.t 0), none, true⟩,
 ⟨(some 26), .nilc (.t 25), none, true⟩,
 ⟨(some 27), .fa 1 (.t 26), none, true⟩,
 ⟨(some 28), .ld (.t 27), none, true⟩,
 ⟨(some 29), .mv (.t 0), none, true⟩,
 ⟨(some 30), .nilc (.t 29), none, true⟩,
 ⟨(some 31), .fa 0 (.t 30), none, true⟩,
 ⟨(some 32), .ld (.t 31), none, true⟩,
 ⟨(some 33), .len (.t 32), none, true⟩,
 p 34 (.bin .lss (.t 28) (.t 33))])
 (.cond (.t 34) (.seq (.rg [⟨(some 35), .mv (.t 3), none, true⟩,
 ⟨(some 36), .mv (.t 0), none, true⟩,
 ⟨(some 37), .nilc (.t 36), none, true⟩,
 ⟨(some 38), .fa 0 (.t 37), none, true⟩,
 ⟨(some 39), .ld (.t 38), none, true⟩,
 ⟨(some 40), .mv (.t 0), none, true⟩,
 ⟨(some 41), .nilc (.t 40), none, true⟩,
 ⟨(some 42), .fa 1 (.t 41), none, true⟩,
 ⟨(some 43), .ld (.t 42), none, true⟩,
 ⟨(some 44), .ia 1 (.t 39) (.t 43), none, true⟩,
 ⟨(some 45), .ld (.t 44), none, true⟩,
 ⟨(some 46), .cvi .i64 (.t 45), none, true⟩,
 p 47 (.bin .add (.t 35) (.t 46)),
 p 48 (.bin .and (.t 47) (.k (.int .i64 255))),
 p 3 (.mv (.t 48))])
 (.rg [p 49 (.mv (.t 0)),
 p 50 (.mv (.t 0)),
 p 51 (.nilc (.t 50)),
 p 52 (.fa 1 (.t 51)),
 p 53 (.ld (.t 52)),
 p 54 (.bin .add (.t 53) (.k (.int .i64 1))),
 p 55 (.nilc (.t 49)),
 p 56 (.fa 1 (.t 55)),
 ⟨none, .st (.t 56) (.t 54), none, false⟩]))
 .skip))
 (.seq (.rg [p 57 (.mv (.t 3)),
 p 2 (.mv (.t 57))])
 .ret))))),
 [.tmp 2]⟩

def F230 : Fnc := ⟨(.seq (.rg [p 6 (.mv (.k (.bool false)))])
 (.seq (.rg [p 7 (.mv (.t 0)),
 p 8 (.mv (.t 1)),
 p 9 (.bin .geq (.t 7) (.t 8)),
 p 10 (.mv (.t 9)),
 ⟨(some 11), .mv (.t 0), (some (10, true)), false⟩,
 ⟨(some 12), .mv (.t 2), (some (10, true)), false⟩,
 ⟨(some 13), .bin .leq (.t 11) (.t 12), (some (10, true)), false⟩,
 p 14 (.pick (.t 10) (.t 13) (.k (.bool false))),
 p 6 (.mv (.t 14))])
 .ret)),
 [.tmp 6]⟩

def F231 : Fnc := ⟨(.seq (.rg [p 2 (.mv (.k (.pointer none)))])
 (.seq (.rg [p 5 (.mv (.t 0)),
 p 6 (.len (.t 5)),
 p 7 (.bin .add (.k (.int .i64 10101)) (.t 6)),
 p 3 (.mv (.t 7))])
 (.seq (.seq (.rg [p 4 (.mv (.k (.int .i64 0)))])
 (.block 0 (.loop (.seq (.seq (.rg [p 8 (.mv (.t 4)),
 p 9 (.mv (.t 0)),
 p 10 (.len (.t 9)),
 p 11 (.bin .lss (.t 8) (.t 10)),
 p 12 (.mv (.t 11)),
 ⟨(some 13), .mv (.t 4), (some (12, true)), false⟩,
 ⟨(some 14), .bin .lss (.t 13) (.k (.int .i64 4000)), (some (12, true)), false⟩,
 p 15 (.pick (.t 12) (.t 14) (.k (.bool false)))])
 (.cond (.t 15) .skip
 (.exit 0)))
 (.seq (.block 1 (.rg [p 18 (.mv (.t 3)),
 p 19 (.bin .mul (.t 18) (.k (.int .i64 131))),
 p 20 (.mv (.t 0)),
 p 21 (.mv (.t 4)),
 p 22 (.ia 1 (.t 20) (.t 21)),
 p 23 (.ld (.t 22)),
 p 24 (.cvi .i64 (.t 23)),
 p 25 (.bin .add (.t 19) (.t 24)),
 p 26 (.bin .add (.t 25) (.k (.int .i64 7))),
 p 27 (.bin .and (.t 26) (.k (.int .i64 1073741823))),
 p 3 (.mv (.t 27))]))
 (.rg [p 16 (.mv (.t 4)),
 p 17 (.bin .add (.t 16) (.k (.int .i64 1))),
 p 4 (.mv (.t 17))]))))))
 (.seq (.rg [p 28 (.mv (.t 0)),
 p 29 (.mv (.t 3)),
 p 30 (.bd [.slice none 0 0, .int .i64 0, .int .i64 0] [(0, 1, (.t 28)), (2, 1, (.t 29))]),
 p 31 (.box (.t 30)),
 p 2 (.mv (.t 31))])
 .ret)))),
 [.tmp 2]⟩

def F233 : Fnc := ⟨(.seq (.rg [p 4 (.mv (.k (.bool false)))])
 (.seq (.rg [p 5 (.mv (.t 0)),
 p 6 (.mv (.t 1)),
 p 7 (.call 228 [(.t 5), (.t 6)]),
 p 8 (.bin .eql (.t 7) (.k (.int .i64 0))),
 p 4 (.mv (.t 8))])
 .ret)),
 [.tmp 4]⟩

def F234 : Fnc := ⟨(.seq (.rg [p 4 (.mv (.k (.int .i64 0)))])
 (.seq (.rg [p 5 (.mv (.t 1)),
 p 6 (.mv (.t 0)),
 p 7 (.mv (.t 1)),
 p 8 (.len (.t 7)),
 p 9 (.call 228 [(.t 6), (.t 8)]),
 p 10 (.ia 1 (.t 5) (.t 9)),
 p 11 (.ld (.t 10)),
 p 4 (.mv (.t 11))])
 .ret)),
 [.tmp 4]⟩

end Go.Proofs.Ytojdedadgddhgaa.AL
