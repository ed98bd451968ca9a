/- Functions in the small language, printed by program. -/
import Derived.Test.YtdialnejieoelaaAl0
namespace Go.Proofs.Ytdialnejieoelaa.AL
open Go
def F25 : Fnc := ⟨(.seq (.rg [p 1 (.box (.t 0)),
 p 2 (.new [.int .i64 0, .int .i64 0])])
 (.seq (.seq (.rg [p 3 (.fa 1 (.t 1)),
 p 4 (.ld (.t 3)),
 p 5 (.not (.t 4))])
 (.cond (.t 5) (.seq (.rg [p 6 (.bd [.int .i64 0, .int .i64 0] []),
 ⟨none, .stn 2 (.t 2) (.t 6), none, false⟩])
 .ret)
 .skip))
 (.seq (.rg [p 7 (.fa 3 (.t 1)),
 p 8 (.ld (.t 7)),
 p 9 (.mx [(.t 8), (.k (.int .i64 0))]),
 p 10 (.bd [.int .i64 0, .int .i64 0] [(0, 1, (.t 9))]),
 ⟨none, .stn 2 (.t 2) (.t 10), none, false⟩])
 .ret))),
 [.celln 2 2]⟩
def F34 : Fnc := ⟨(.seq (.rg [p 1 (.box (.t 0)),
 p 2 (.mv (.k (.bool false)))])
 (.seq (.seq (.rg [p 3 (.fa 0 (.t 1)),
 p 4 (.ld (.t 3)),
 p 5 (.len (.t 4)),
 p 6 (.call 103 [(.t 5), (.k (.int .i64 1)), (.k (.int .i64 4))]),
 p 7 (.not (.t 6)),
 p 8 (.mv (.t 7)),
 ⟨(some 9), .fa 1 (.t 1), (some (8, false)), false⟩,
 ⟨(some 10), .ld (.t 9), (some (8, false)), false⟩,
 ⟨(some 11), .call 103 [(.t 10), (.k (.int .i64 1)), (.k (.int .i64 4))], (some (8, false)), false⟩,
 ⟨(some 12), .not (.t 11), (some (8, false)), false⟩,
 p 13 (.pick (.t 8) (.k (.bool true)) (.t 12)),
 p 14 (.mv (.t 13)),
 ⟨(some 15), .fa 4 (.t 1), (some (14, false)), false⟩,
 ⟨(some 16), .ld (.t 15), (some (14, false)), false⟩,
 ⟨(some 17), .call 103 [(.t 16), (.k (.int .i64 1)), (.k (.int .i64 12))], (some (14, false)), false⟩,
 ⟨(some 18), .not (.t 17), (some (14, false)), false⟩,
 p 19 (.pick (.t 14) (.k (.bool true)) (.t 18)),
 p 20 (.mv (.t 19)),
 ⟨(some 21), .ldn 6 (.t 1), (some (20, false)), false⟩,
 ⟨(some 22), .call 74 [(.t 21)], (some (20, false)), false⟩,
 ⟨(some 23), .bin .eql (.t 22) (.k (.int .i64 0)), (some (20, false)), false⟩,
 p 24 (.pick (.t 20) (.k (.bool true)) (.t 23))])
 (.cond (.t 24) (.seq (.rg [p 2 (.mv (.k (.bool false)))])
 .ret)
 .skip))
 (.seq (.rg [p 25 (.fa 0 (.t 1)),
 p 26 (.ld (.t 25)),
 p 27 (.fn 35 [(.t 1)]),
 p 28 (.call 258 [(.t 26), (.t 27)]),
 p 29 (.not (.t 28)),
 p 2 (.mv (.t 29))])
 .ret))),
 [.tmp 2]⟩
def F35 : Fnc := ⟨(.seq (.rg [p 2 (.box (.t 0)),
 p 3 (.mv (.k (.bool false)))])
 (.seq (.block 0 (.seq (.rg [p 5 (.fa 0 (.t 2)),
 p 6 (.ld (.t 5)),
 p 7 (.call 103 [(.t 6), (.k (.int .i64 1)), (.k (.int .i64 4))]),
 p 8 (.not (.t 7)),
 p 4 (.mv (.t 8))])
 (.cond (.t 4) (.seq (.rg [p 3 (.mv (.k (.bool true)))])
 .ret)
 (.seq (.rg [p 10 (.fa 1 (.t 2)),
 p 11 (.ld (.t 10)),
 p 9 (.mv (.t 11))])
 (.cond (.t 9) (.seq (.rg [⟨(some 12), .fa 2 (.t 2), none, true⟩,
 ⟨(some 13), .ld (.t 12), none, true⟩,
 ⟨(some 14), .ldn 6 (.t 1), none, true⟩,
 ⟨(some 15), .call 50 [(.t 14)], none, true⟩,
 p 16 (.call 103 [(.t 13), (.t 15), (.k (.int .i64 1000))]),
 p 17 (.not (.t 16)),
 p 18 (.mv (.t 17)),
 ⟨(some 19), .fa 3 (.t 2), (some (18, false)), false⟩,
 ⟨(some 20), .ld (.t 19), (some (18, false)), false⟩,
 ⟨(some 21), .call 103 [(.t 20), (.k (.int .i64 1)), (.k (.int .i64 8))], (some (18, false)), false⟩,
 ⟨(some 22), .not (.t 21), (some (18, false)), false⟩,
 p 23 (.pick (.t 18) (.k (.bool true)) (.t 22)),
 p 3 (.mv (.t 23))])
 .ret)
 .skip)))))
 (.seq (.rg [p 24 (.fa 2 (.t 2)),
 p 25 (.ld (.t 24)),
 p 26 (.bin .neq (.t 25) (.k (.int .i64 0))),
 p 27 (.mv (.t 26)),
 ⟨(some 28), .fa 3 (.t 2), (some (27, false)), false⟩,
 ⟨(some 29), .ld (.t 28), (some (27, false)), false⟩,
 ⟨(some 30), .bin .neq (.t 29) (.k (.int .i64 0)), (some (27, false)), false⟩,
 p 31 (.pick (.t 27) (.k (.bool true)) (.t 30)),
 p 3 (.mv (.t 31))])
 .ret))),
 [.tmp 3]⟩
def F37 : Fnc := ⟨(.seq (.rg [p 1 (.box (.t 0)),
 p 2 (.mv (.k (.int .i64 0)))])
 (.seq (.seq (.rg [p 3 (.fa 3 (.t 1)),
 p 4 (.ld (.t 3)),
 p 5 (.call 103 [(.t 4), (.k (.int .i64 0)), (.k (.int .i64 3))]),
 p 6 (.not (.t 5)),
 p 7 (.mv (.t 6)),
 ⟨(some 8), .fa 2 (.t 1), (some (7, false)), false⟩,
 ⟨(some 9), .ld (.t 8), (some (7, false)), false⟩,
 ⟨(some 10), .call 103 [(.t 9), (.k (.int .i64 0)), (.k (.int .i64 3))], (some (7, false)), false⟩,
 ⟨(some 11), .not (.t 10), (some (7, false)), false⟩,
 p 12 (.pick (.t 7) (.k (.bool true)) (.t 11))])
 (.cond (.t 12) (.seq (.rg [p 2 (.mv (.k (.int .i64 0)))])
 .ret)
 .skip))
 (.seq (.rg [p 13 (.fa 3 (.t 1)),
 p 14 (.ld (.t 13)),
 p 15 (.bin .add (.t 14) (.k (.int .i64 2))),
 p 16 (.fa 2 (.t 1)),
 p 17 (.ld (.t 16)),
 p 18 (.bin .add (.t 17) (.k (.int .i64 6))),
 p 19 (.bin .mul (.t 15) (.t 18)),
 p 2 (.mv (.t 19))])
 .ret))),
 [.tmp 2]⟩
def F50 : Fnc := ⟨(.seq (.rg [p 1 (.box (.t 0)),
 p 2 (.mv (.k (.int .i64 0)))])
 (.seq (.rg [⟨(some 3), .ldn 6 (.t 1), none, true⟩,
 ⟨(some 4), .call 74 [(.t 3)], none, true⟩,
 ⟨(some 5), .bin .mul (.k (.int .i64 2)) (.t 4), none, true⟩,
 ⟨(some 6), .ldn 6 (.t 1), none, true⟩,
 ⟨(some 7), .call 101 [(.t 6)], none, true⟩,
 p 8 (.bin .mul (.t 5) (.t 7)),
 p 2 (.mv (.t 8))])
 .ret)),
 [.tmp 2]⟩
def F74 : Fnc := ⟨(.seq (.rg [p 1 (.box (.t 0)),
 p 2 (.mv (.k (.int .i64 0)))])
 (.seq (.seq (.rg [p 3 (.ldn 6 (.t 1)),
 p 4 (.call 37 [(.t 3)]),
 p 5 (.bin .eql (.t 4) (.k (.int .i64 0))),
 p 6 (.mv (.t 5)),
 ⟨(some 7), .fa 5 (.t 1), (some (6, false)), false⟩,
 ⟨(some 8), .ld (.t 7), (some (6, false)), false⟩,
 ⟨(some 9), .call 103 [(.t 8), (.k (.int .i64 1)), (.k (.int .i64 40))], (some (6, false)), false⟩,
 ⟨(some 10), .not (.t 9), (some (6, false)), false⟩,
 p 11 (.pick (.t 6) (.k (.bool true)) (.t 10))])
 (.cond (.t 11) (.seq (.rg [p 2 (.mv (.k (.int .i64 0)))])
 .ret)
 .skip))
 (.seq (.rg [⟨(some 12), .ldn 6 (.t 1), none, true⟩,
 ⟨(some 13), .call 37 [(.t 12)], none, true⟩,
 ⟨(some 14), .bin .mul (.k (.int .i64 2)) (.t 13), none, true⟩,
 ⟨(some 15), .fa 5 (.t 1), none, true⟩,
 ⟨(some 16), .ld (.t 15), none, true⟩,
 p 17 (.bin .add (.t 14) (.t 16)),
 p 2 (.mv (.t 17))])
 .ret))),
 [.tmp 2]⟩
def F96 : Fnc := ⟨(.seq (.rg [p 1 (.box (.t 0)),
 p 2 (.new [.slice none 0 0, .int .i64 0, .int .i64 0, .int .i64 0, .int .i64 0, .int .i64 0])])
 (.seq (.rg [p 3 (.fa 0 (.t 1)),
 p 4 (.ld (.t 3)),
 p 5 (.call 256 [(.t 4)]),
 p 6 (.fa 0 (.t 1)),
 ⟨none, .st (.t 6) (.t 5), none, false⟩])
 (.seq (.rg [p 7 (.ldn 6 (.t 1)),
 ⟨none, .stn 6 (.t 2) (.t 7), none, false⟩])
 .ret))),
 [.celln 2 6]⟩
def F101 : Fnc := ⟨(.seq (.rg [p 1 (.box (.t 0)),
 p 2 (.mv (.k (.int .i64 0)))])
 (.seq (.rg [p 3 (.mv (.k (.int .i64 0)))])
 (.seq (.seq (.rg [p 6 (.fa 0 (.t 1)),
 p 7 (.ld (.t 6)),
 p 8 (.len (.t 7)),
 p 9 (.mv (.k (.int .i64 0)))])
 (.block 0 (.loop (.seq (.rg [p 10 (.bin .lss (.t 9) (.t 8))])
 (.seq (.cond (.t 10) .skip
 (.exit 0))
 (.seq (.block 1 (.seq (.rg [p 11 (.ia 4 (.t 7) (.t 9)),
 p 12 (.ldn 4 (.t 11)),
 p 5 (.new [.int .i64 0, .bool false, .int .i64 0, .int .i64 0]),
 ⟨none, .stn 4 (.t 5) (.t 12), none, false⟩])
 (.seq (.rg [p 13 (.fa 1 (.t 5)),
 p 14 (.ld (.t 13))])
 (.cond (.t 14) (.rg [p 15 (.mv (.t 3)),
 p 16 (.bin .add (.t 15) (.k (.int .i64 1))),
 p 3 (.mv (.t 16))])
 .skip))))
 (.rg [p 17 (.bin .add (.t 9) (.k (.int .i64 1))),
 p 9 (.mv (.t 17))])))))))
 (.seq (.rg [p 18 (.mv (.t 3)),
 p 2 (.mv (.t 18))])
 .ret)))),
 [.tmp 2]⟩
def F103 : Fnc := ⟨(.seq (.rg [p 6 (.mv (.k (.bool false)))])
 (.seq (.rg [p 7 (.mv (.t 1)),
 p 8 (.mv (.t 0)),
 p 9 (.bin .leq (.t 7) (.t 8)),
 p 10 (.mv (.t 9)),
 ⟨(some 11), .mv (.t 0), (some (10, true)), false⟩,
 ⟨(some 12), .mv (.t 2), (some (10, true)), false⟩,
 ⟨(some 13), .bin .leq (.t 11) (.t 12), (some (10, true)), false⟩,
 p 14 (.pick (.t 10) (.t 13) (.k (.bool false))),
 p 6 (.mv (.t 14))])
 .ret)),
 [.tmp 6]⟩
def F124 : Fnc := ⟨(.seq (.rg [p 2 (.box (.t 0)),
 p 3 (.box (.t 1)),
 p 4 (.mv (.k (.bool false)))])
 (.seq (.seq (.rg [p 5 (.fa 0 (.t 2)),
 p 6 (.ld (.t 5)),
 p 7 (.fa 0 (.t 3)),
 p 8 (.ld (.t 7)),
 p 9 (.eqb true (.t 6) (.t 8))])
 (.cond (.t 9) (.seq (.rg [p 4 (.mv (.k (.bool false)))])
 .ret)
 .skip))
 (.seq (.seq (.rg [p 10 (.fa 1 (.t 2)),
 p 11 (.ld (.t 10)),
 p 12 (.fa 1 (.t 3)),
 p 13 (.ld (.t 12)),
 p 14 (.bin .neq (.t 11) (.t 13))])
 (.cond (.t 14) (.seq (.rg [p 4 (.mv (.k (.bool false)))])
 .ret)
 .skip))
 (.seq (.seq (.rg [p 15 (.fa 2 (.t 2)),
 p 16 (.ld (.t 15)),
 p 17 (.fa 2 (.t 3)),
 p 18 (.ld (.t 17)),
 p 19 (.bin .neq (.t 16) (.t 18))])
 (.cond (.t 19) (.seq (.rg [p 4 (.mv (.k (.bool false)))])
 .ret)
 .skip))
 (.seq (.seq (.rg [p 20 (.fa 3 (.t 2)),
 p 21 (.ld (.t 20)),
 p 22 (.fa 3 (.t 3)),
 p 23 (.ld (.t 22)),
 p 24 (.eqb true (.t 21) (.t 23))])
 (.cond (.t 24) (.seq (.rg [p 4 (.mv (.k (.bool false)))])
 .ret)
 .skip))
 (.seq (.seq (.rg [p 25 (.fa 4 (.t 2)),
 p 26 (.ld (.t 25)),
 p 27 (.fa 4 (.t 3)),
 p 28 (.ld (.t 27)),
 p 29 (.bin .neq (.t 26) (.t 28))])
 (.cond (.t 29) (.seq (.rg [p 4 (.mv (.k (.bool false)))])
 .ret)
 .skip))
 (.seq (.seq (.rg [p 30 (.fa 5 (.t 2)),
 p 31 (.ld (.t 30)),
 p 32 (.fa 5 (.t 3)),
 p 33 (.ld (.t 32)),
 p 34 (.bin .neq (.t 31) (.t 33))])
 (.cond (.t 34) (.seq (.rg [p 4 (.mv (.k (.bool false)))])
 .ret)
 .skip))
 (.seq (.seq (.rg [p 35 (.fa 6 (.t 2)),
 p 36 (.ld (.t 35)),
 p 37 (.fa 6 (.t 3)),
 p 38 (.ld (.t 37)),
 p 39 (.bin .neq (.t 36) (.t 38))])
 (.cond (.t 39) (.seq (.rg [p 4 (.mv (.k (.bool false)))])
 .ret)
 .skip))
 (.seq (.seq (.rg [p 40 (.fa 7 (.t 2)),
 p 41 (.ld (.t 40)),
 p 42 (.fa 7 (.t 3)),
 p 43 (.ld (.t 42)),
 p 44 (.eqb true (.t 41) (.t 43))])
 (.cond (.t 44) (.seq (.rg [p 4 (.mv (.k (.bool false)))])
 .ret)
 .skip))
 (.seq (.rg [p 4 (.mv (.k (.bool true)))])
 .ret)))))))))),
 [.tmp 4]⟩
def F125 : Fnc := ⟨(.seq (.rg [p 2 (.box (.t 0)),
 p 3 (.box (.t 1)),
 p 4 (.mv (.k (.bool false)))])
 (.seq (.seq (.rg [p 5 (.fa 0 (.t 2)),
 p 6 (.ld (.t 5)),
 p 7 (.fa 0 (.t 3)),
 p 8 (.ld (.t 7)),
 p 9 (.bin .neq (.t 6) (.t 8))])
 (.cond (.t 9) (.seq (.rg [p 4 (.mv (.k (.bool false)))])
 .ret)
 .skip))
 (.seq (.seq (.rg [p 10 (.fa 1 (.t 2)),
 p 11 (.ld (.t 10)),
 p 12 (.fa 1 (.t 3)),
 p 13 (.ld (.t 12)),
 p 14 (.bin .neq (.t 11) (.t 13))])
 (.cond (.t 14) (.seq (.rg [p 4 (.mv (.k (.bool false)))])
 .ret)
 .skip))
 (.seq (.rg [p 4 (.mv (.k (.bool true)))])
 .ret)))),
 [.tmp 4]⟩
def F126 : Fnc := ⟨(.seq (.rg [p 4 (.mv (.k (.bool false)))])
 (.seq (.seq (.rg [p 6 (.mv (.t 0)),
 p 7 (.len (.t 6)),
 p 8 (.mv (.t 1)),
 p 9 (.len (.t 8)),
 p 10 (.bin .neq (.t 7) (.t 9))])
 (.cond (.t 10) (.seq (.rg [p 4 (.mv (.k (.bool false)))])
 .ret)
 .skip))
 (.seq (.seq (.rg [p 5 (.mv (.k (.int .i64 0)))])
 (.block 0 (.loop (.seq (.seq (.rg [p 11 (.mv (.t 5)),
 p 12 (.mv (.t 0)),
 p 13 (.len (.t 12)),
 p 14 (.bin .lss (.t 11) (.t 13))])
 (.cond (.t 14) .skip
 (.exit 0)))
 (.seq (.block 1 (.seq (.rg [⟨(some 17), .mv (.t 0), none, true⟩,
 ⟨(some 18), .mv (.t 5), none, true⟩,
 ⟨(some 19), .ia 2 (.t 17) (.t 18), none, true⟩,
 ⟨(some 20), .ldn 2 (.t 19), none, true⟩,
 ⟨(some 21), .mv (.t 1), none, true⟩,
 ⟨(some 22), .mv (.t 5), none, true⟩,
 ⟨(some 23), .ia 2 (.t 21) (.t 22), none, true⟩,
 ⟨(some 24), .ldn 2 (.t 23), none, true⟩,
 p 25 (.call 125 [(.t 20), (.t 24)]),
 p 26 (.not (.t 25))])
 (.cond (.t 26) (.seq (.rg [p 4 (.mv (.k (.bool false)))])
 .ret)
 .skip)))
 (.rg [p 15 (.mv (.t 5)),
 p 16 (.bin .add (.t 15) (.k (.int .i64 1))),
 p 5 (.mv (.t 16))]))))))
 (.seq (.rg [p 4 (.mv (.k (.bool true)))])
 .ret)))),
 [.tmp 4]⟩
def F127 : Fnc := ⟨(.seq (.rg [p 2 (.box (.t 0)),
 p 3 (.box (.t 1)),
 p 4 (.mv (.k (.bool false)))])
 (.seq (.seq (.rg [p 5 (.fa 0 (.t 2)),
 p 6 (.ldn 6 (.t 5)),
 p 7 (.fa 0 (.t 3)),
 p 8 (.ldn 6 (.t 7)),
 p 9 (.call 128 [(.t 6), (.t 8)]),
 p 10 (.not (.t 9))])
 (.cond (.t 10) (.seq (.rg [p 4 (.mv (.k (.bool false)))])
 .ret)
 .skip))
 (.seq (.seq (.rg [p 11 (.fa 6 (.t 2)),
 p 12 (.ld (.t 11)),
 p 13 (.fa 6 (.t 3)),
 p 14 (.ld (.t 13)),
 p 15 (.bin .neq (.t 12) (.t 14))])
 (.cond (.t 15) (.seq (.rg [p 4 (.mv (.k (.bool false)))])
 .ret)
 .skip))
 (.seq (.seq (.rg [p 16 (.fa 7 (.t 2)),
 p 17 (.ld (.t 16)),
 p 18 (.fa 7 (.t 3)),
 p 19 (.ld (.t 18)),
 p 20 (.call 137 [(.t 17), (.t 19)]),
 p 21 (.not (.t 20))])
 (.cond (.t 21) (.seq (.rg [p 4 (.mv (.k (.bool false)))])
 .ret)
 .skip))
 (.seq (.seq (.rg [p 22 (.fa 8 (.t 2)),
 p 23 (.ldn 2 (.t 22)),
 p 24 (.fa 8 (.t 3)),
 p 25 (.ldn 2 (.t 24)),
 p 26 (.call 140 [(.t 23), (.t 25)]),
 p 27 (.not (.t 26))])
 (.cond (.t 27) (.seq (.rg [p 4 (.mv (.k (.bool false)))])
 .ret)
 .skip))
 (.seq (.seq (.rg [p 28 (.fa 10 (.t 2)),
 p 29 (.ld (.t 28)),
 p 30 (.fa 10 (.t 3)),
 p 31 (.ld (.t 30)),
 p 32 (.call 126 [(.t 29), (.t 31)]),
 p 33 (.not (.t 32))])
 (.cond (.t 33) (.seq (.rg [p 4 (.mv (.k (.bool false)))])
 .ret)
 .skip))
 (.seq (.seq (.rg [p 34 (.fa 11 (.t 2)),
 p 35 (.ld (.t 34)),
 p 36 (.fa 11 (.t 3)),
 p 37 (.ld (.t 36)),
 p 38 (.call 132 [(.t 35), (.t 37)]),
 p 39 (.not (.t 38))])
 (.cond (.t 39) (.seq (.rg [p 4 (.mv (.k (.bool false)))])
 .ret)
 .skip))
 (.seq (.seq (.rg [p 40 (.fa 12 (.t 2)),
 p 41 (.ld (.t 40)),
 p 42 (.fa 12 (.t 3)),
 p 43 (.ld (.t 42)),
 p 44 (.bin .neq (.t 41) (.t 43))])
 (.cond (.t 44) (.seq (.rg [p 4 (.mv (.k (.bool false)))])
 .ret)
 .skip))
 (.seq (.seq (.rg [p 45 (.fa 13 (.t 2)),
 p 46 (.ld (.t 45)),
 p 47 (.fa 13 (.t 3)),
 p 48 (.ld (.t 47)),
 p 49 (.bin .neq (.t 46) (.t 48))])
 (.cond (.t 49) (.seq (.rg [p 4 (.mv (.k (.bool false)))])
 .ret)
 .skip))
 (.seq (.seq (.rg [p 50 (.fa 14 (.t 2)),
 p 51 (.ld (.t 50)),
 p 52 (.fa 14 (.t 3)),
 p 53 (.ld (.t 52)),
 p 54 (.bin .neq (.t 51) (.t 53))])
 (.cond (.t 54) (.seq (.rg [p 4 (.mv (.k (.bool false)))])
 .ret)
 .skip))
 (.seq (.seq (.rg [p 55 (.fa 15 (.t 2)),
 p 56 (.ldn 8 (.t 55)),
 p 57 (.fa 15 (.t 3)),
 p 58 (.ldn 8 (.t 57)),
 p 59 (.call 124 [(.t 56), (.t 58)]),
 p 60 (.not (.t 59))])
 (.cond (.t 60) (.seq (.rg [p 4 (.mv (.k (.bool false)))])
 .ret)
 .skip))
 (.seq (.seq (.rg [p 61 (.fa 23 (.t 2)),
 p 62 (.ldn 8 (.t 61)),
 p 63 (.fa 23 (.t 3)),
 p 64 (.ldn 8 (.t 63)),
 p 65 (.call 124 [(.t 62), (.t 64)]),
 p 66 (.not (.t 65))])
 (.cond (.t 66) (.seq (.rg [p 4 (.mv (.k (.bool false)))])
 .ret)
 .skip))
 (.seq (.seq (.rg [p 67 (.fa 31 (.t 2)),
 p 68 (.ldn 4 (.t 67)),
 p 69 (.fa 31 (.t 3)),
 p 70 (.ldn 4 (.t 69)),
 p 71 (.call 135 [(.t 68), (.t 70)]),
 p 72 (.not (.t 71))])
 (.cond (.t 72) (.seq (.rg [p 4 (.mv (.k (.bool false)))])
 .ret)
 .skip))
 (.seq (.seq (.rg [p 73 (.fa 35 (.t 2)),
 p 74 (.ld (.t 73)),
 p 75 (.fa 35 (.t 3)),
 p 76 (.ld (.t 75)),
 p 77 (.bin .neq (.t 74) (.t 76))])
 (.cond (.t 77) (.seq (.rg [p 4 (.mv (.k (.bool false)))])
 .ret)
 .skip))
 (.seq (.seq (.rg [p 78 (.fa 36 (.t 2)),
 p 79 (.ld (.t 78)),
 p 80 (.fa 36 (.t 3)),
 p 81 (.ld (.t 80)),
 p 82 (.call 131 [(.t 79), (.t 81)]),
 p 83 (.not (.t 82))])
 (.cond (.t 83) (.seq (.rg [p 4 (.mv (.k (.bool false)))])
 .ret)
 .skip))
 (.seq (.rg [p 4 (.mv (.k (.bool true)))])
 .ret)))))))))))))))),
 [.tmp 4]⟩
def F128 : Fnc := ⟨(.seq (.rg [p 2 (.box (.t 0)),
 p 3 (.box (.t 1)),
 p 4 (.mv (.k (.bool false)))])
 (.seq (.seq (.rg [p 5 (.fa 0 (.t 2)),
 p 6 (.ld (.t 5)),
 p 7 (.fa 0 (.t 3)),
 p 8 (.ld (.t 7)),
 p 9 (.call 134 [(.t 6), (.t 8)]),
 p 10 (.not (.t 9))])
 (.cond (.t 10) (.seq (.rg [p 4 (.mv (.k (.bool false)))])
 .ret)
 .skip))
 (.seq (.seq (.rg [p 11 (.fa 1 (.t 2)),
 p 12 (.ld (.t 11)),
 p 13 (.fa 1 (.t 3)),
 p 14 (.ld (.t 13)),
 p 15 (.bin .neq (.t 12) (.t 14))])
 (.cond (.t 15) (.seq (.rg [p 4 (.mv (.k (.bool false)))])
 .ret)
 .skip))
 (.seq (.seq (.rg [p 16 (.fa 2 (.t 2)),
 p 17 (.ld (.t 16)),
 p 18 (.fa 2 (.t 3)),
 p 19 (.ld (.t 18)),
 p 20 (.bin .neq (.t 17) (.t 19))])
 (.cond (.t 20) (.seq (.rg [p 4 (.mv (.k (.bool false)))])
 .ret)
 .skip))
 (.seq (.seq (.rg [p 21 (.fa 3 (.t 2)),
 p 22 (.ld (.t 21)),
 p 23 (.fa 3 (.t 3)),
 p 24 (.ld (.t 23)),
 p 25 (.bin .neq (.t 22) (.t 24))])
 (.cond (.t 25) (.seq (.rg [p 4 (.mv (.k (.bool false)))])
 .ret)
 .skip))
 (.seq (.seq (.rg [p 26 (.fa 4 (.t 2)),
 p 27 (.ld (.t 26)),
 p 28 (.fa 4 (.t 3)),
 p 29 (.ld (.t 28)),
 p 30 (.bin .neq (.t 27) (.t 29))])
 (.cond (.t 30) (.seq (.rg [p 4 (.mv (.k (.bool false)))])
 .ret)
 .skip))
 (.seq (.seq (.rg [p 31 (.fa 5 (.t 2)),
 p 32 (.ld (.t 31)),
 p 33 (.fa 5 (.t 3)),
 p 34 (.ld (.t 33)),
 p 35 (.bin .neq (.t 32) (.t 34))])
 (.cond (.t 35) (.seq (.rg [p 4 (.mv (.k (.bool false)))])
 .ret)
 .skip))
 (.seq (.rg [p 4 (.mv (.k (.bool true)))])
 .ret)))))))),
 [.tmp 4]⟩
def F129 : Fnc := ⟨(.seq (.rg [p 2 (.box (.t 0)),
 p 3 (.box (.t 1)),
 p 4 (.mv (.k (.bool false)))])
 (.seq (.seq (.rg [p 5 (.fa 0 (.t 2)),
 p 6 (.ld (.t 5)),
 p 7 (.fa 0 (.t 3)),
 p 8 (.ld (.t 7)),
 p 9 (.call 132 [(.t 6), (.t 8)]),
 p 10 (.not (.t 9))])
 (.cond (.t 10) (.seq (.rg [p 4 (.mv (.k (.bool false)))])
 .ret)
 .skip))
 (.seq (.seq (.rg [p 11 (.fa 1 (.t 2)),
 p 12 (.ld (.t 11)),
 p 13 (.fa 1 (.t 3)),
 p 14 (.ld (.t 13)),
 p 15 (.bin .neq (.t 12) (.t 14))])
 (.cond (.t 15) (.seq (.rg [p 4 (.mv (.k (.bool false)))])
 .ret)
 .skip))
 (.seq (.seq (.rg [p 16 (.fa 2 (.t 2)),
 p 17 (.ld (.t 16)),
 p 18 (.fa 2 (.t 3)),
 p 19 (.ld (.t 18)),
 p 20 (.call 132 [(.t 17), (.t 19)]),
 p 21 (.not (.t 20))])
 (.cond (.t 21) (.seq (.rg [p 4 (.mv (.k (.bool false)))])
 .ret)
 .skip))
 (.seq (.rg [p 4 (.mv (.k (.bool true)))])
 .ret))))),
 [.tmp 4]⟩
def F130 : Fnc := ⟨(.seq (.rg [p 2 (.box (.t 0)),
 p 3 (.box (.t 1)),
 p 4 (.mv (.k (.bool false)))])
 (.seq (.seq (.rg [p 5 (.fa 0 (.t 2)),
 p 6 (.ld (.t 5)),
 p 7 (.fa 0 (.t 3)),
 p 8 (.ld (.t 7)),
 p 9 (.bin .neq (.t 6) (.t 8))])
 (.cond (.t 9) (.seq (.rg [p 4 (.mv (.k (.bool false)))])
 .ret)
 .skip))
 (.seq (.seq (.rg [p 10 (.fa 1 (.t 2)),
 p 11 (.ld (.t 10)),
 p 12 (.fa 1 (.t 3)),
 p 13 (.ld (.t 12)),
 p 14 (.bin .neq (.t 11) (.t 13))])
 (.cond (.t 14) (.seq (.rg [p 4 (.mv (.k (.bool false)))])
 .ret)
 .skip))
 (.seq (.seq (.rg [p 15 (.fa 2 (.t 2)),
 p 16 (.ld (.t 15)),
 p 17 (.fa 2 (.t 3)),
 p 18 (.ld (.t 17)),
 p 19 (.eqb true (.t 16) (.t 18))])
 (.cond (.t 19) (.seq (.rg [p 4 (.mv (.k (.bool false)))])
 .ret)
 .skip))
 (.seq (.seq (.rg [p 20 (.fa 3 (.t 2)),
 p 21 (.ld (.t 20)),
 p 22 (.fa 3 (.t 3)),
 p 23 (.ld (.t 22)),
 p 24 (.bin .neq (.t 21) (.t 23))])
 (.cond (.t 24) (.seq (.rg [p 4 (.mv (.k (.bool false)))])
 .ret)
 .skip))
 (.seq (.seq (.rg [p 25 (.fa 4 (.t 2)),
 p 26 (.ld (.t 25)),
 p 27 (.fa 4 (.t 3)),
 p 28 (.ld (.t 27)),
 p 29 (.bin .neq (.t 26) (.t 28))])
 (.cond (.t 29) (.seq (.rg [p 4 (.mv (.k (.bool false)))])
 .ret)
 .skip))
 (.seq (.seq (.rg [p 30 (.fa 5 (.t 2)),
 p 31 (.ld (.t 30)),
 p 32 (.fa 5 (.t 3)),
 p 33 (.ld (.t 32)),
 p 34 (.bin .neq (.t 31) (.t 33))])
 (.cond (.t 34) (.seq (.rg [p 4 (.mv (.k (.bool false)))])
 .ret)
 .skip))
 (.seq (.seq (.rg [p 35 (.fa 6 (.t 2)),
 p 36 (.ld (.t 35)),
 p 37 (.fa 6 (.t 3)),
 p 38 (.ld (.t 37)),
 p 39 (.bin .neq (.t 36) (.t 38))])
 (.cond (.t 39) (.seq (.rg [p 4 (.mv (.k (.bool false)))])
 .ret)
 .skip))
 (.seq (.rg [p 4 (.mv (.k (.bool true)))])
 .ret))))))))),
 [.tmp 4]⟩
def F131 : Fnc := ⟨(.seq (.rg [p 4 (.mv (.k (.bool false)))])
 (.seq (.seq (.rg [p 6 (.mv (.t 0)),
 p 7 (.len (.t 6)),
 p 8 (.mv (.t 1)),
 p 9 (.len (.t 8)),
 p 10 (.bin .neq (.t 7) (.t 9))])
 (.cond (.t 10) (.seq (.rg [p 4 (.mv (.k (.bool false)))])
 .ret)
 .skip))
 (.seq (.seq (.rg [p 5 (.mv (.k (.int .i64 0)))])
 (.block 0 (.loop (.seq (.seq (.rg [p 11 (.mv (.t 5)),
 p 12 (.mv (.t 0)),
 p 13 (.len (.t 12)),
 p 14 (.bin .lss (.t 11) (.t 13))])
 (.cond (.t 14) .skip
 (.exit 0)))
 (.seq (.block 1 (.seq (.rg [⟨(some 17), .mv (.t 0), none, true⟩,
 ⟨(some 18), .mv (.t 5), none, true⟩,
 ⟨(some 19), .ia 7 (.t 17) (.t 18), none, true⟩,
 ⟨(some 20), .ldn 7 (.t 19), none, true⟩,
 ⟨(some 21), .mv (.t 1), none, true⟩,
 ⟨(some 22), .mv (.t 5), none, true⟩,
 ⟨(some 23), .ia 7 (.t 21) (.t 22), none, true⟩,
 ⟨(some 24), .ldn 7 (.t 23), none, true⟩,
 p 25 (.call 130 [(.t 20), (.t 24)]),
 p 26 (.not (.t 25))])
 (.cond (.t 26) (.seq (.rg [p 4 (.mv (.k (.bool false)))])
 .ret)
 .skip)))
 (.rg [p 15 (.mv (.t 5)),
 p 16 (.bin .add (.t 15) (.k (.int .i64 1))),
 p 5 (.mv (.t 16))]))))))
 (.seq (.rg [p 4 (.mv (.k (.bool true)))])
 .ret)))),
 [.tmp 4]⟩
def F132 : Fnc := ⟨(.seq (.rg [p 4 (.mv (.k (.bool false)))])
 (.seq (.seq (.rg [p 6 (.mv (.t 0)),
 p 7 (.len (.t 6)),
 p 8 (.mv (.t 1)),
 p 9 (.len (.t 8)),
 p 10 (.bin .neq (.t 7) (.t 9))])
 (.cond (.t 10) (.seq (.rg [p 4 (.mv (.k (.bool false)))])
 .ret)
 .skip))
 (.seq (.seq (.rg [p 5 (.mv (.k (.int .i64 0)))])
 (.block 0 (.loop (.seq (.seq (.rg [p 11 (.mv (.t 5)),
 p 12 (.mv (.t 0)),
 p 13 (.len (.t 12)),
 p 14 (.bin .lss (.t 11) (.t 13))])
 (.cond (.t 14) .skip
 (.exit 0)))
 (.seq (.block 1 (.seq (.rg [⟨(some 17), .mv (.t 0), none, true⟩,
 ⟨(some 18), .mv (.t 5), none, true⟩,
 ⟨(some 19), .ia 1 (.t 17) (.t 18), none, true⟩,
 ⟨(some 20), .ld (.t 19), none, true⟩,
 ⟨(some 21), .mv (.t 1), none, true⟩,
 ⟨(some 22), .mv (.t 5), none, true⟩,
 ⟨(some 23), .ia 1 (.t 21) (.t 22), none, true⟩,
 ⟨(some 24), .ld (.t 23), none, true⟩,
 p 25 (.bin .neq (.t 20) (.t 24))])
 (.cond (.t 25) (.seq (.rg [p 4 (.mv (.k (.bool false)))])
 .ret)
 .skip)))
 (.rg [p 15 (.mv (.t 5)),
 p 16 (.bin .add (.t 15) (.k (.int .i64 1))),
 p 5 (.mv (.t 16))]))))))
 (.seq (.rg [p 4 (.mv (.k (.bool true)))])
 .ret)))),
 [.tmp 4]⟩
def F133 : Fnc := ⟨(.seq (.rg [p 2 (.box (.t 0)),
 p 3 (.box (.t 1)),
 p 4 (.mv (.k (.bool false)))])
 (.seq (.seq (.rg [p 5 (.fa 0 (.t 2)),
 p 6 (.ld (.t 5)),
 p 7 (.fa 0 (.t 3)),
 p 8 (.ld (.t 7)),
 p 9 (.bin .neq (.t 6) (.t 8))])
 (.cond (.t 9) (.seq (.rg [p 4 (.mv (.k (.bool false)))])
 .ret)
 .skip))
 (.seq (.seq (.rg [p 10 (.fa 1 (.t 2)),
 p 11 (.ld (.t 10)),
 p 12 (.fa 1 (.t 3)),
 p 13 (.ld (.t 12)),
 p 14 (.eqb true (.t 11) (.t 13))])
 (.cond (.t 14) (.seq (.rg [p 4 (.mv (.k (.bool false)))])
 .ret)
 .skip))
 (.seq (.seq (.rg [p 15 (.fa 2 (.t 2)),
 p 16 (.ld (.t 15)),
 p 17 (.fa 2 (.t 3)),
 p 18 (.ld (.t 17)),
 p 19 (.bin .neq (.t 16) (.t 18))])
 (.cond (.t 19) (.seq (.rg [p 4 (.mv (.k (.bool false)))])
 .ret)
 .skip))
 (.seq (.seq (.rg [p 20 (.fa 3 (.t 2)),
 p 21 (.ld (.t 20)),
 p 22 (.fa 3 (.t 3)),
 p 23 (.ld (.t 22)),
 p 24 (.bin .neq (.t 21) (.t 23))])
 (.cond (.t 24) (.seq (.rg [p 4 (.mv (.k (.bool false)))])
 .ret)
 .skip))
 (.seq (.rg [p 4 (.mv (.k (.bool true)))])
 .ret)))))),
 [.tmp 4]⟩
def F134 : Fnc := ⟨(.seq (.rg [p 4 (.mv (.k (.bool false)))])
 (.seq (.seq (.rg [p 6 (.mv (.t 0)),
 p 7 (.len (.t 6)),
 p 8 (.mv (.t 1)),
 p 9 (.len (.t 8)),
 p 10 (.bin .neq (.t 7) (.t 9))])
 (.cond (.t 10) (.seq (.rg [p 4 (.mv (.k (.bool false)))])
 .ret)
 .skip))
 (.seq (.seq (.rg [p 5 (.mv (.k (.int .i64 0)))])
 (.block 0 (.loop (.seq (.seq (.rg [p 11 (.mv (.t 5)),
 p 12 (.mv (.t 0)),
 p 13 (.len (.t 12)),
 p 14 (.bin .lss (.t 11) (.t 13))])
 (.cond (.t 14) .skip
 (.exit 0)))
 (.seq (.block 1 (.seq (.rg [⟨(some 17), .mv (.t 0), none, true⟩,
 ⟨(some 18), .mv (.t 5), none, true⟩,
 ⟨(some 19), .ia 4 (.t 17) (.t 18), none, true⟩,
 ⟨(some 20), .ldn 4 (.t 19), none, true⟩,
 ⟨(some 21), .mv (.t 1), none, true⟩,
 ⟨(some 22), .mv (.t 5), none, true⟩,
 ⟨(some 23), .ia 4 (.t 21) (.t 22), none, true⟩,
 ⟨(some 24), .ldn 4 (.t 23), none, true⟩,
 p 25 (.call 133 [(.t 20), (.t 24)]),
 p 26 (.not (.t 25))])
 (.cond (.t 26) (.seq (.rg [p 4 (.mv (.k (.bool false)))])
 .ret)
 .skip)))
 (.rg [p 15 (.mv (.t 5)),
 p 16 (.bin .add (.t 15) (.k (.int .i64 1))),
 p 5 (.mv (.t 16))]))))))
 (.seq (.rg [p 4 (.mv (.k (.bool true)))])
 .ret)))),
 [.tmp 4]⟩
def F135 : Fnc := ⟨(.seq (.rg [p 2 (.box (.t 0)),
 p 3 (.box (.t 1)),
 p 4 (.mv (.k (.bool false)))])
 (.seq (.seq (.rg [p 5 (.fa 0 (.t 2)),
 p 6 (.ld (.t 5)),
 p 7 (.fa 0 (.t 3)),
 p 8 (.ld (.t 7)),
 p 9 (.call 132 [(.t 6), (.t 8)]),
 p 10 (.not (.t 9))])
 (.cond (.t 10) (.seq (.rg [p 4 (.mv (.k (.bool false)))])
 .ret)
 .skip))
 (.seq (.seq (.rg [p 11 (.fa 1 (.t 2)),
 p 12 (.ldn 3 (.t 11)),
 p 13 (.fa 1 (.t 3)),
 p 14 (.ldn 3 (.t 13)),
 p 15 (.call 129 [(.t 12), (.t 14)]),
 p 16 (.not (.t 15))])
 (.cond (.t 16) (.seq (.rg [p 4 (.mv (.k (.bool false)))])
 .ret)
 .skip))
 (.seq (.rg [p 4 (.mv (.k (.bool true)))])
 .ret)))),
 [.tmp 4]⟩
def F136 : Fnc := ⟨(.seq (.rg [p 2 (.box (.t 0)),
 p 3 (.box (.t 1)),
 p 4 (.mv (.k (.bool false)))])
 (.seq (.seq (.rg [p 5 (.fa 0 (.t 2)),
 p 6 (.ld (.t 5)),
 p 7 (.fa 0 (.t 3)),
 p 8 (.ld (.t 7)),
 p 9 (.call 139 [(.t 6), (.t 8)]),
 p 10 (.not (.t 9))])
 (.cond (.t 10) (.seq (.rg [p 4 (.mv (.k (.bool false)))])
 .ret)
 .skip))
 (.seq (.seq (.rg [p 11 (.fa 1 (.t 2)),
 p 12 (.ld (.t 11)),
 p 13 (.fa 1 (.t 3)),
 p 14 (.ld (.t 13)),
 p 15 (.bin .neq (.t 12) (.t 14))])
 (.cond (.t 15) (.seq (.rg [p 4 (.mv (.k (.bool false)))])
 .ret)
 .skip))
 (.seq (.seq (.rg [p 16 (.fa 2 (.t 2)),
 p 17 (.ld (.t 16)),
 p 18 (.fa 2 (.t 3)),
 p 19 (.ld (.t 18)),
 p 20 (.bin .neq (.t 17) (.t 19))])
 (.cond (.t 20) (.seq (.rg [p 4 (.mv (.k (.bool false)))])
 .ret)
 .skip))
 (.seq (.seq (.rg [p 21 (.fa 3 (.t 2)),
 p 22 (.ld (.t 21)),
 p 23 (.fa 3 (.t 3)),
 p 24 (.ld (.t 23)),
 p 25 (.bin .neq (.t 22) (.t 24))])
 (.cond (.t 25) (.seq (.rg [p 4 (.mv (.k (.bool false)))])
 .ret)
 .skip))
 (.seq (.seq (.rg [p 26 (.fa 4 (.t 2)),
 p 27 (.ld (.t 26)),
 p 28 (.fa 4 (.t 3)),
 p 29 (.ld (.t 28)),
 p 30 (.eqb true (.t 27) (.t 29))])
 (.cond (.t 30) (.seq (.rg [p 4 (.mv (.k (.bool false)))])
 .ret)
 .skip))
 (.seq (.seq (.rg [p 31 (.fa 5 (.t 2)),
 p 32 (.ld (.t 31)),
 p 33 (.fa 5 (.t 3)),
 p 34 (.ld (.t 33)),
 p 35 (.eqb true (.t 32) (.t 34))])
 (.cond (.t 35) (.seq (.rg [p 4 (.mv (.k (.bool false)))])
 .ret)
 .skip))
 (.seq (.rg [p 4 (.mv (.k (.bool true)))])
 .ret)))))))),
 [.tmp 4]⟩
def F137 : Fnc := ⟨(.seq (.rg [p 4 (.mv (.k (.bool false)))])
 (.seq (.seq (.rg [p 6 (.mv (.t 0)),
 p 7 (.len (.t 6)),
 p 8 (.mv (.t 1)),
 p 9 (.len (.t 8)),
 p 10 (.bin .neq (.t 7) (.t 9))])
 (.cond (.t 10) (.seq (.rg [p 4 (.mv (.k (.bool false)))])
 .ret)
 .skip))
 (.seq (.seq (.rg [p 5 (.mv (.k (.int .i64 0)))])
 (.block 0 (.loop (.seq (.seq (.rg [p 11 (.mv (.t 5)),
 p 12 (.mv (.t 0)),
 p 13 (.len (.t 12)),
 p 14 (.bin .lss (.t 11) (.t 13))])
 (.cond (.t 14) .skip
 (.exit 0)))
 (.seq (.block 1 (.seq (.rg [⟨(some 17), .mv (.t 0), none, true⟩,
 ⟨(some 18), .mv (.t 5), none, true⟩,
 ⟨(some 19), .ia 6 (.t 17) (.t 18), none, true⟩,
 ⟨(some 20), .ldn 6 (.t 19), none, true⟩,
 ⟨(some 21), .mv (.t 1), none, true⟩,
 ⟨(some 22), .mv (.t 5), none, true⟩,
 ⟨(some 23), .ia 6 (.t 21) (.t 22), none, true⟩,
 ⟨(some 24), .ldn 6 (.t 23), none, true⟩,
 p 25 (.call 136 [(.t 20), (.t 24)]),
 p 26 (.not (.t 25))])
 (.cond (.t 26) (.seq (.rg [p 4 (.mv (.k (.bool false)))])
 .ret)
 .skip)))
 (.rg [p 15 (.mv (.t 5)),
 p 16 (.bin .add (.t 15) (.k (.int .i64 1))),
 p 5 (.mv (.t 16))]))))))
 (.seq (.rg [p 4 (.mv (.k (.bool true)))])
 .ret)))),
 [.tmp 4]⟩
def F138 : Fnc := ⟨(.seq (.rg [p 2 (.box (.t 0)),
 p 3 (.box (.t 1)),
 p 4 (.mv (.k (.bool false)))])
 (.seq (.seq (.rg [p 5 (.fa 0 (.t 2)),
 p 6 (.ld (.t 5)),
 p 7 (.fa 0 (.t 3)),
 p 8 (.ld (.t 7)),
 p 9 (.eqb true (.t 6) (.t 8))])
 (.cond (.t 9) (.seq (.rg [p 4 (.mv (.k (.bool false)))])
 .ret)
 .skip))
 (.seq (.seq (.rg [p 10 (.fa 1 (.t 2)),
 p 11 (.ld (.t 10)),
 p 12 (.fa 1 (.t 3)),
 p 13 (.ld (.t 12)),
 p 14 (.bin .neq (.t 11) (.t 13))])
 (.cond (.t 14) (.seq (.rg [p 4 (.mv (.k (.bool false)))])
 .ret)
 .skip))
 (.seq (.seq (.rg [p 15 (.fa 2 (.t 2)),
 p 16 (.ld (.t 15)),
 p 17 (.fa 2 (.t 3)),
 p 18 (.ld (.t 17)),
 p 19 (.bin .neq (.t 16) (.t 18))])
 (.cond (.t 19) (.seq (.rg [p 4 (.mv (.k (.bool false)))])
 .ret)
 .skip))
 (.seq (.seq (.rg [p 20 (.fa 3 (.t 2)),
 p 21 (.ld (.t 20)),
 p 22 (.fa 3 (.t 3)),
 p 23 (.ld (.t 22)),
 p 24 (.bin .neq (.t 21) (.t 23))])
 (.cond (.t 24) (.seq (.rg [p 4 (.mv (.k (.bool false)))])
 .ret)
 .skip))
 (.seq (.seq (.rg [p 25 (.fa 4 (.t 2)),
 p 26 (.ld (.t 25)),
 p 27 (.fa 4 (.t 3)),
 p 28 (.ld (.t 27)),
 p 29 (.eqb true (.t 26) (.t 28))])
 (.cond (.t 29) (.seq (.rg [p 4 (.mv (.k (.bool false)))])
 .ret)
 .skip))
 (.seq (.seq (.rg [p 30 (.fa 5 (.t 2)),
 p 31 (.ld (.t 30)),
 p 32 (.fa 5 (.t 3)),
 p 33 (.ld (.t 32)),
 p 34 (.call 132 [(.t 31), (.t 33)]),
 p 35 (.not (.t 34))])
 (.cond (.t 35) (.seq (.rg [p 4 (.mv (.k (.bool false)))])
 .ret)
 .skip))
 (.seq (.rg [p 4 (.mv (.k (.bool true)))])
 .ret)))))))),
 [.tmp 4]⟩
def F139 : Fnc := ⟨(.seq (.rg [p 4 (.mv (.k (.bool false)))])
 (.seq (.seq (.rg [p 6 (.mv (.t 0)),
 p 7 (.len (.t 6)),
 p 8 (.mv (.t 1)),
 p 9 (.len (.t 8)),
 p 10 (.bin .neq (.t 7) (.t 9))])
 (.cond (.t 10) (.seq (.rg [p 4 (.mv (.k (.bool false)))])
 .ret)
 .skip))
 (.seq (.seq (.rg [p 5 (.mv (.k (.int .i64 0)))])
 (.block 0 (.loop (.seq (.seq (.rg [p 11 (.mv (.t 5)),
 p 12 (.mv (.t 0)),
 p 13 (.len (.t 12)),
 p 14 (.bin .lss (.t 11) (.t 13))])
 (.cond (.t 14) .skip
 (.exit 0)))
 (.seq (.block 1 (.seq (.rg [⟨(some 17), .mv (.t 0), none, true⟩,
 ⟨(some 18), .mv (.t 5), none, true⟩,
 ⟨(some 19), .ia 6 (.t 17) (.t 18), none, true⟩,
 ⟨(some 20), .ldn 6 (.t 19), none, true⟩,
 ⟨(some 21), .mv (.t 1), none, true⟩,
 ⟨(some 22), .mv (.t 5), none, true⟩,
 ⟨(some 23), .ia 6 (.t 21) (.t 22), none, true⟩,
 ⟨(some 24), .ldn 6 (.t 23), none, true⟩,
 p 25 (.call 138 [(.t 20), (.t 24)]),
 p 26 (.not (.t 25))])
 (.cond (.t 26) (.seq (.rg [p 4 (.mv (.k (.bool false)))])
 .ret)
 .skip)))
 (.rg [p 15 (.mv (.t 5)),
 p 16 (.bin .add (.t 15) (.k (.int .i64 1))),
 p 5 (.mv (.t 16))]))))))
 (.seq (.rg [p 4 (.mv (.k (.bool true)))])
 .ret)))),
 [.tmp 4]⟩
def F140 : Fnc := ⟨(.seq (.rg [p 2 (.box (.t 0)),
 p 3 (.box (.t 1)),
 p 4 (.mv (.k (.bool false)))])
 (.seq (.seq (.rg [p 5 (.fa 0 (.t 2)),
 p 6 (.ld (.t 5)),
 p 7 (.fa 0 (.t 3)),
 p 8 (.ld (.t 7)),
 p 9 (.bin .neq (.t 6) (.t 8))])
 (.cond (.t 9) (.seq (.rg [p 4 (.mv (.k (.bool false)))])
 .ret)
 .skip))
 (.seq (.seq (.rg [p 10 (.fa 1 (.t 2)),
 p 11 (.ld (.t 10)),
 p 12 (.fa 1 (.t 3)),
 p 13 (.ld (.t 12)),
 p 14 (.bin .neq (.t 11) (.t 13))])
 (.cond (.t 14) (.seq (.rg [p 4 (.mv (.k (.bool false)))])
 .ret)
 .skip))
 (.seq (.rg [p 4 (.mv (.k (.bool true)))])
 .ret)))),
 [.tmp 4]⟩
def F141 : Fnc := ⟨(.seq (.rg [p 4 (.mv (.k (.int .i64 0)))])
 (.seq (.seq (.rg [p 5 (.mv (.k (.int .i64 0)))])
 (.block 0 (.loop (.seq (.seq (.rg [p 6 (.mv (.t 5)),
 p 7 (.mv (.t 0)),
 p 8 (.len (.t 7)),
 p 9 (.bin .lss (.t 6) (.t 8))])
 (.cond (.t 9) .skip
 (.exit 0)))
 (.seq (.block 1 (.seq (.seq (.rg [p 12 (.mv (.t 0)),
 p 13 (.mv (.t 5)),
 p 14 (.ia 7 (.t 12) (.t 13)),
 p 15 (.fa 0 (.t 14)),
 p 16 (.ld (.t 15)),
 p 17 (.mv (.t 1)),
 p 18 (.bin .neq (.t 16) (.t 17))])
 (.cond (.t 18) (.seq (.rg [p 4 (.mv (.k (.int .i64 (-1))))])
 .ret)
 .skip))
 (.seq (.rg [p 19 (.mv (.t 1)),
 p 20 (.bin .add (.t 19) (.k (.int .i64 1))),
 p 1 (.mv (.t 20))])
 (.seq (.seq (.rg [p 21 (.mv (.t 0)),
 p 22 (.mv (.t 5)),
 p 23 (.ia 7 (.t 21) (.t 22)),
 p 24 (.fa 1 (.t 23)),
 p 25 (.ld (.t 24)),
 p 26 (.mv (.t 1)),
 p 27 (.bin .neq (.t 25) (.t 26))])
 (.cond (.t 27) (.seq (.rg [p 4 (.mv (.k (.int .i64 (-1))))])
 .ret)
 .skip))
 (.seq (.rg [p 28 (.mv (.t 1)),
 p 29 (.bin .add (.t 28) (.k (.int .i64 1))),
 p 1 (.mv (.t 29))])
 (.seq (.seq (.rg [p 30 (.mv (.t 0)),
 p 31 (.mv (.t 5)),
 p 32 (.ia 7 (.t 30) (.t 31)),
 p 33 (.fa 2 (.t 32)),
 p 34 (.ld (.t 33)),
 p 35 (.mv (.t 1)),
 p 36 (.bin .rem (.t 35) (.k (.int .i64 3))),
 p 37 (.bin .eql (.t 36) (.k (.int .i64 0))),
 p 38 (.eqb true (.t 34) (.t 37))])
 (.cond (.t 38) (.seq (.rg [p 4 (.mv (.k (.int .i64 (-1))))])
 .ret)
 .skip))
 (.seq (.rg [p 39 (.mv (.t 1)),
 p 40 (.bin .add (.t 39) (.k (.int .i64 1))),
 p 1 (.mv (.t 40))])
 (.seq (.seq (.rg [p 41 (.mv (.t 0)),
 p 42 (.mv (.t 5)),
 p 43 (.ia 7 (.t 41) (.t 42)),
 p 44 (.fa 3 (.t 43)),
 p 45 (.ld (.t 44)),
 p 46 (.mv (.t 1)),
 p 47 (.bin .neq (.t 45) (.t 46))])
 (.cond (.t 47) (.seq (.rg [p 4 (.mv (.k (.int .i64 (-1))))])
 .ret)
 .skip))
 (.seq (.rg [p 48 (.mv (.t 1)),
 p 49 (.bin .add (.t 48) (.k (.int .i64 1))),
 p 1 (.mv (.t 49))])
 (.seq (.seq (.rg [p 50 (.mv (.t 0)),
 p 51 (.mv (.t 5)),
 p 52 (.ia 7 (.t 50) (.t 51)),
 p 53 (.fa 4 (.t 52)),
 p 54 (.ld (.t 53)),
 p 55 (.mv (.t 1)),
 p 56 (.bin .neq (.t 54) (.t 55))])
 (.cond (.t 56) (.seq (.rg [p 4 (.mv (.k (.int .i64 (-1))))])
 .ret)
 .skip))
 (.seq (.rg [p 57 (.mv (.t 1)),
 p 58 (.bin .add (.t 57) (.k (.int .i64 1))),
 p 1 (.mv (.t 58))])
 (.seq (.seq (.rg [p 59 (.mv (.t 0)),
 p 60 (.mv (.t 5)),
 p 61 (.ia 7 (.t 59) (.t 60)),
 p 62 (.fa 5 (.t 61)),
 p 63 (.ld (.t 62)),
 p 64 (.mv (.t 1)),
 p 65 (.bin .neq (.t 63) (.t 64))])
 (.cond (.t 65) (.seq (.rg [p 4 (.mv (.k (.int .i64 (-1))))])
 .ret)
 .skip))
 (.seq (.rg [p 66 (.mv (.t 1)),
 p 67 (.bin .add (.t 66) (.k (.int .i64 1))),
 p 1 (.mv (.t 67))])
 (.seq (.seq (.rg [p 68 (.mv (.t 0)),
 p 69 (.mv (.t 5)),
 p 70 (.ia 7 (.t 68) (.t 69)),
 p 71 (.fa 6 (.t 70)),
 p 72 (.ld (.t 71)),
 p 73 (.mv (.t 1)),
 p 74 (.bin .neq (.t 72) (.t 73))])
 (.cond (.t 74) (.seq (.rg [p 4 (.mv (.k (.int .i64 (-1))))])
 .ret)
 .skip))
 (.rg [p 75 (.mv (.t 1)),
 p 76 (.bin .add (.t 75) (.k (.int .i64 1))),
 p 1 (.mv (.t 76))])))))))))))))))
 (.rg [p 10 (.mv (.t 5)),
 p 11 (.bin .add (.t 10) (.k (.int .i64 1))),
 p 5 (.mv (.t 11))]))))))
 (.seq (.rg [p 77 (.mv (.t 1)),
 p 4 (.mv (.t 77))])
 .ret))),
 [.tmp 4]⟩
def F142 : Fnc := ⟨(.seq (.rg [p 4 (.mv (.k (.int .i64 0)))])
 (.seq (.seq (.rg [p 5 (.mv (.k (.int .i64 0)))])
 (.block 0 (.loop (.seq (.seq (.rg [p 6 (.mv (.t 5)),
 p 7 (.mv (.t 0)),
 p 8 (.len (.t 7)),
 p 9 (.bin .lss (.t 6) (.t 8))])
 (.cond (.t 9) .skip
 (.exit 0)))
 (.seq (.block 1 (.seq (.rg [p 12 (.mv (.t 0)),
 p 13 (.mv (.t 5)),
 p 14 (.mv (.t 1)),
 p 15 (.ia 7 (.t 12) (.t 13)),
 p 16 (.fa 0 (.t 15)),
 ⟨none, .st (.t 16) (.t 14), none, false⟩])
 (.seq (.rg [p 17 (.mv (.t 1)),
 p 18 (.bin .add (.t 17) (.k (.int .i64 1))),
 p 1 (.mv (.t 18))])
 (.seq (.rg [p 19 (.mv (.t 0)),
 p 20 (.mv (.t 5)),
 p 21 (.mv (.t 1)),
 p 22 (.ia 7 (.t 19) (.t 20)),
 p 23 (.fa 1 (.t 22)),
 ⟨none, .st (.t 23) (.t 21), none, false⟩])
 (.seq (.rg [p 24 (.mv (.t 1)),
 p 25 (.bin .add (.t 24) (.k (.int .i64 1))),
 p 1 (.mv (.t 25))])
 (.seq (.rg [p 26 (.mv (.t 0)),
 p 27 (.mv (.t 5)),
 p 28 (.mv (.t 1)),
 p 29 (.bin .rem (.t 28) (.k (.int .i64 3))),
 p 30 (.bin .eql (.t 29) (.k (.int .i64 0))),
 p 31 (.ia 7 (.t 26) (.t 27)),
 p 32 (.fa 2 (.t 31)),
 ⟨none, .st (.t 32) (.t 30), none, false⟩])
 (.seq (.rg [p 33 (.mv (.t 1)),
 p 34 (.bin .add (.t 33) (.k (.int .i64 1))),
 p 1 (.mv (.t 34))])
 (.seq (.rg [p 35 (.mv (.t 0)),
 p 36 (.mv (.t 5)),
 p 37 (.mv (.t 1)),
 p 38 (.ia 7 (.t 35) (.t 36)),
 p 39 (.fa 3 (.t 38)),
 ⟨none, .st (.t 39) (.t 37), none, false⟩])
 (.seq (.rg [p 40 (.mv (.t 1)),
 p 41 (.bin .add (.t 40) (.k (.int .i64 1))),
 p 1 (.mv (.t 41))])
 (.seq (.rg [p 42 (.mv (.t 0)),
 p 43 (.mv (.t 5)),
 p 44 (.mv (.t 1)),
 p 45 (.ia 7 (.t 42) (.t 43)),
 p 46 (.fa 4 (.t 45)),
 ⟨none, .st (.t 46) (.t 44), none, false⟩])
 (.seq (.rg [p 47 (.mv (.t 1)),
 p 48 (.bin .add (.t 47) (.k (.int .i64 1))),
 p 1 (.mv (.t 48))])
 (.seq (.rg [p 49 (.mv (.t 0)),
 p 50 (.mv (.t 5)),
 p 51 (.mv (.t 1)),
 p 52 (.ia 7 (.t 49) (.t 50)),
 p 53 (.fa 5 (.t 52)),
 ⟨none, .st (.t 53) (.t 51), none, false⟩])
 (.seq (.rg [p 54 (.mv (.t 1)),
 p 55 (.bin .add (.t 54) (.k (.int .i64 1))),
 p 1 (.mv (.t 55))])
 (.seq (.rg [p 56 (.mv (.t 0)),
 p 57 (.mv (.t 5)),
 p 58 (.mv (.t 1)),
 p 59 (.ia 7 (.t 56) (.t 57)),
 p 60 (.fa 6 (.t 59)),
 ⟨none, .st (.t 60) (.t 58), none, false⟩])
 (.rg [p 61 (.mv (.t 1)),
 p 62 (.bin .add (.t 61) (.k (.int .i64 1))),
 p 1 (.mv (.t 62))])))))))))))))))
 (.rg [p 10 (.mv (.t 5)),
 p 11 (.bin .add (.t 10) (.k (.int .i64 1))),
 p 5 (.mv (.t 11))]))))))
 (.seq (.rg [p 63 (.mv (.t 1)),
 p 4 (.mv (.t 63))])
 .ret))),
 [.tmp 4]⟩
def F145 : Fnc := ⟨(.seq (.rg [p 2 (.box (.t 0)),
 p 4 (.mv (.k (.int .i64 0)))])
 (.seq (.rg [p 5 (.fa 0 (.t 2)),
 p 6 (.ld (.t 5)),
 p 7 (.mv (.t 1)),
 p 8 (.call 149 [(.t 6), (.t 7)]),
 p 1 (.mv (.t 8))])
 (.seq (.seq (.rg [p 9 (.mv (.t 1)),
 p 10 (.bin .lss (.t 9) (.k (.int .i64 0)))])
 (.cond (.t 10) (.seq (.rg [p 4 (.mv (.k (.int .i64 (-1))))])
 .ret)
 .skip))
 (.seq (.rg [p 11 (.mv (.t 1)),
 p 4 (.mv (.t 11))])
 .ret)))),
 [.tmp 4]⟩
def F149 : Fnc := ⟨(.seq (.rg [p 4 (.mv (.k (.int .i64 0)))])
 (.seq (.rg [p 5 (.mv (.t 1)),
 p 6 (.mv (.t 0)),
 p 7 (.len (.t 6)),
 p 8 (.bin .sub (.t 5) (.t 7)),
 p 1 (.mv (.t 8))])
 (.seq (.seq (.rg [p 9 (.mv (.t 1)),
 p 10 (.bin .lss (.t 9) (.k (.int .i64 0)))])
 (.cond (.t 10) (.seq (.rg [p 4 (.mv (.k (.int .i64 (-1))))])
 .ret)
 .skip))
 (.seq (.rg [p 11 (.mv (.t 1)),
 p 4 (.mv (.t 11))])
 .ret)))),
 [.tmp 4]⟩
def F159 : Fnc := ⟨(.seq (.rg [p 1 (.box (.t 0)),
 p 2 (.new [.slice none 0 0, .int .i64 0, .int .i64 0, .int .i64 0, .int .i64 0, .int .i64 0])])
 (.seq (.rg [p 3 (.new [.slice none 0 0, .int .i64 0, .int .i64 0, .int .i64 0, .int .i64 0, .int .i64 0])])
 (.seq (.rg [p 4 (.fa 0 (.t 1)),
 p 5 (.ld (.t 4)),
 p 6 (.call 165 [(.t 5)]),
 p 7 (.fa 0 (.t 3)),
 ⟨none, .st (.t 7) (.t 6), none, false⟩])
 (.seq (.rg [p 8 (.fa 1 (.t 1)),
 p 9 (.ld (.t 8)),
 p 10 (.fa 1 (.t 3)),
 ⟨none, .st (.t 10) (.t 9), none, false⟩])
 (.seq (.rg [p 11 (.fa 2 (.t 1)),
 p 12 (.ld (.t 11)),
 p 13 (.fa 2 (.t 3)),
 ⟨none, .st (.t 13) (.t 12), none, false⟩])
 (.seq (.rg [p 14 (.fa 3 (.t 1)),
 p 15 (.ld (.t 14)),
 p 16 (.fa 3 (.t 3)),
 ⟨none, .st (.t 16) (.t 15), none, false⟩])
 (.seq (.rg [p 17 (.fa 4 (.t 1)),
 p 18 (.ld (.t 17)),
 p 19 (.fa 4 (.t 3)),
 ⟨none, .st (.t 19) (.t 18), none, false⟩])
 (.seq (.rg [p 20 (.fa 5 (.t 1)),
 p 21 (.ld (.t 20)),
 p 22 (.fa 5 (.t 3)),
 ⟨none, .st (.t 22) (.t 21), none, false⟩])
 (.seq (.rg [p 23 (.ldn 6 (.t 3)),
 ⟨none, .stn 6 (.t 2) (.t 23), none, false⟩])
 .ret))))))))),
 [.celln 2 6]⟩
def F164 : Fnc := ⟨(.seq (.rg [p 1 (.box (.t 0)),
 p 2 (.new [.int .i64 0, .bool false, .int .i64 0, .int .i64 0])])
 (.seq (.rg [p 3 (.new [.int .i64 0, .bool false, .int .i64 0, .int .i64 0])])
 (.seq (.rg [p 4 (.fa 0 (.t 1)),
 p 5 (.ld (.t 4)),
 p 6 (.fa 0 (.t 3)),
 ⟨none, .st (.t 6) (.t 5), none, false⟩])
 (.seq (.rg [p 7 (.fa 1 (.t 1)),
 p 8 (.ld (.t 7)),
 p 9 (.fa 1 (.t 3)),
 ⟨none, .st (.t 9) (.t 8), none, false⟩])
 (.seq (.rg [p 10 (.fa 2 (.t 1)),
 p 11 (.ld (.t 10)),
 p 12 (.fa 2 (.t 3)),
 ⟨none, .st (.t 12) (.t 11), none, false⟩])
 (.seq (.rg [p 13 (.fa 3 (.t 1)),
 p 14 (.ld (.t 13)),
 p 15 (.fa 3 (.t 3)),
 ⟨none, .st (.t 15) (.t 14), none, false⟩])
 (.seq (.rg [p 16 (.ldn 4 (.t 3)),
 ⟨none, .stn 4 (.t 2) (.t 16), none, false⟩])
 .ret))))))),
 [.celln 2 4]⟩
def F165 : Fnc := ⟨(.seq (.rg [p 2 (.mv (.k (.slice none 0 0)))])
 (.seq (.rg [p 5 (.mv (.t 0)),
 p 6 (.len (.t 5)),
 p 7 (.mk 4 32 [.int .i64 0, .bool false, .int .i64 0, .int .i64 0] (.t 6) (.t 6)),
 p 3 (.mv (.t 7))])
 (.seq (.seq (.rg [p 4 (.mv (.k (.int .i64 0)))])
 (.block 0 (.loop (.seq (.seq (.rg [p 8 (.mv (.t 4)),
 p 9 (.mv (.t 0)),
 p 10 (.len (.t 9)),
 p 11 (.bin .lss (.t 8) (.t 10))])
 (.cond (.t 11) .skip
 (.exit 0)))
 (.seq (.block 1 (.rg [p 14 (.mv (.t 3)),
 p 15 (.mv (.t 4)),
 p 16 (.mv (.t 0)),
 p 17 (.mv (.t 4)),
 p 18 (.ia 4 (.t 16) (.t 17)),
 p 19 (.ldn 4 (.t 18)),
 p 20 (.call 164 [(.t 19)]),
 p 21 (.ia 4 (.t 14) (.t 15)),
 ⟨none, .stn 4 (.t 21) (.t 20), none, false⟩]))
 (.rg [p 12 (.mv (.t 4)),
 p 13 (.bin .add (.t 12) (.k (.int .i64 1))),
 p 4 (.mv (.t 13))]))))))
 (.seq (.rg [p 22 (.mv (.t 3)),
 p 2 (.mv (.t 22))])
 .ret)))),
 [.tmp 2]⟩
def F175 : Fnc := ⟨(.seq (.rg [p 1 (.box (.t 0)),
 p 2 (.new [.int .i64 0, .int .i64 0])])
 (.seq (.seq (.rg [p 3 (.fa 1 (.t 1)),
 p 4 (.ld (.t 3)),
 p 5 (.not (.t 4))])
 (.cond (.t 5) (.seq (.rg [p 6 (.bd [.int .i64 0, .int .i64 0] []),
 ⟨none, .stn 2 (.t 2) (.t 6), none, false⟩])
 .ret)
 .skip))
 (.seq (.rg [p 7 (.fa 3 (.t 1)),
 p 8 (.ld (.t 7)),
 p 9 (.mx [(.k (.int .i64 0)), (.t 8)]),
 p 10 (.bd [.int .i64 0, .int .i64 0] [(0, 1, (.t 9))]),
 ⟨none, .stn 2 (.t 2) (.t 10), none, false⟩])
 .ret))),
 [.celln 2 2]⟩
def F181 : Fnc := ⟨(.seq (.rg [p 1 (.box (.t 0)),
 p 2 (.new [.slice none 0 0, .int .i64 0, .int .i64 0, .int .i64 0, .int .i64 0, .int .i64 0, .int .i64 0, .slice none 0 0, .int .i64 0, .int .i64 0, .slice none 0 0, .slice none 0 0, .int .i64 0, .int .i64 0, .int .i64 0, .bool false, .int .i64 0, .int .i64 0, .bool false, .int .i64 0, .int .i64 0, .int .i64 0, .bool false, .bool false, .int .i64 0, .int .i64 0, .bool false, .int .i64 0, .int .i64 0, .int .i64 0, .bool false, .slice none 0 0, .slice none 0 0, .int .i64 0, .slice none 0 0, .int .i64 0, .slice none 0 0]),
 p 3 (.mv (.k (.bool false)))])
 (.seq (.seq (.rg [p 6 (.ldn 6 (.t 1)),
 p 7 (.call 184 [(.t 6)]),
 p 8 (.not (.t 7))])
 (.cond (.t 8) (.seq (.rg [p 9 (.bd [.slice none 0 0, .int .i64 0, .int .i64 0, .int .i64 0, .int .i64 0, .int .i64 0, .int .i64 0, .slice none 0 0, .int .i64 0, .int .i64 0, .slice none 0 0, .slice none 0 0, .int .i64 0, .int .i64 0, .int .i64 0, .bool false, .int .i64 0, .int .i64 0, .bool false, .int .i64 0, .int .i64 0, .int .i64 0, .bool false, .bool false, .int .i64 0, .int .i64 0, .bool false, .int .i64 0, .int .i64 0, .int .i64 0, .bool false, .slice none 0 0, .slice none 0 0, .int .i64 0, .slice none 0 0, .int .i64 0, .slice none 0 0] []),
 ⟨none, .stn 37 (.t 2) (.t 9), none, false⟩,
 p 3 (.mv (.k (.bool false)))])
 .ret)
 .skip))
 (.seq (.rg [p 10 (.ldn 6 (.t 1)),
 p 11 (.call 244 [(.t 10)]),
 p 12 (.call 202 []),
 p 13 (.bd [.slice none 0 0, .int .i64 0, .int .i64 0, .int .i64 0, .int .i64 0, .int .i64 0, .int .i64 0, .slice none 0 0, .int .i64 0, .int .i64 0, .slice none 0 0, .slice none 0 0, .int .i64 0, .int .i64 0, .int .i64 0, .bool false, .int .i64 0, .int .i64 0, .bool false, .int .i64 0, .int .i64 0, .int .i64 0, .bool false, .bool false, .int .i64 0, .int .i64 0, .bool false, .int .i64 0, .int .i64 0, .int .i64 0, .bool false, .slice none 0 0, .slice none 0 0, .int .i64 0, .slice none 0 0, .int .i64 0, .slice none 0 0] [(0, 6, (.t 11)), (12, 1, (.k (.int .i64 (-1)))), (14, 1, (.k (.int .i64 (-1)))), (31, 4, (.t 12))]),
 p 4 (.new [.slice none 0 0, .int .i64 0, .int .i64 0, .int .i64 0, .int .i64 0, .int .i64 0, .int .i64 0, .slice none 0 0, .int .i64 0, .int .i64 0, .slice none 0 0, .slice none 0 0, .int .i64 0, .int .i64 0, .int .i64 0, .bool false, .int .i64 0, .int .i64 0, .bool false, .int .i64 0, .int .i64 0, .int .i64 0, .bool false, .bool false, .int .i64 0, .int .i64 0, .bool false, .int .i64 0, .int .i64 0, .int .i64 0, .bool false, .slice none 0 0, .slice none 0 0, .int .i64 0, .slice none 0 0, .int .i64 0, .slice none 0 0]),
 ⟨none, .stn 37 (.t 4) (.t 13), none, false⟩])
 (.seq (.seq (.rg [p 5 (.mv (.k (.int .i64 0)))])
 (.block 0 (.loop (.seq (.seq (.rg [p 14 (.mv (.t 5)),
 p 15 (.fa 0 (.t 1)),
 p 16 (.ld (.t 15)),
 p 17 (.len (.t 16)),
 p 18 (.bin .lss (.t 14) (.t 17))])
 (.cond (.t 18) .skip
 (.exit 0)))
 (.seq (.block 1 (.seq (.rg [p 21 (.fa 7 (.t 4)),
 p 22 (.ld (.t 21)),
 p 23 (.bd [.slice none 0 0, .int .i64 0, .int .i64 0, .int .i64 0, .bool false, .bool false] []),
 p 24 (.bs 6 1 [.slice none 0 0, .int .i64 0, .int .i64 0, .int .i64 0, .bool false, .bool false] [(0, (.t 23))]),
 p 25 (.app 6 56 (.t 22) (.t 24)),
 p 26 (.fa 7 (.t 4)),
 ⟨none, .st (.t 26) (.t 25), none, false⟩])
 (.seq (.rg [⟨(some 27), .fa 10 (.t 4), none, true⟩,
 ⟨(some 28), .ld (.t 27), none, true⟩,
 ⟨(some 29), .fa 0 (.t 1), none, true⟩,
 ⟨(some 30), .ld (.t 29), none, true⟩,
 ⟨(some 31), .mv (.t 5), none, true⟩,
 ⟨(some 32), .ia 4 (.t 30) (.t 31), none, true⟩,
 ⟨(some 33), .ldn 4 (.t 32), none, true⟩,
 ⟨(some 34), .call 175 [(.t 33)], none, true⟩,
 ⟨(some 35), .bs 2 1 [.int .i64 0, .int .i64 0] [(0, (.t 34))], none, true⟩,
 p 36 (.app 2 16 (.t 28) (.t 35)),
 p 37 (.fa 10 (.t 4)),
 ⟨none, .st (.t 37) (.t 36), none, false⟩])
 (.rg [p 38 (.fa 11 (.t 4)),
 p 39 (.ld (.t 38)),
 p 40 (.bs 1 1 [.int .i64 0] [(0, (.k (.int .i64 0)))]),
 p 41 (.app 1 8 (.t 39) (.t 40)),
 p 42 (.fa 11 (.t 4)),
 ⟨none, .st (.t 42) (.t 41), none, false⟩]))))
 (.rg [p 19 (.mv (.t 5)),
 p 20 (.bin .add (.t 19) (.k (.int .i64 1))),
 p 5 (.mv (.t 20))]))))))
 (.seq (.rg [p 43 (.ldn 37 (.t 4)),
 ⟨none, .stn 37 (.t 2) (.t 43), none, false⟩,
 p 3 (.mv (.k (.bool true)))])
 .ret))))),
 [.celln 2 37, .tmp 3]⟩
def F184 : Fnc := ⟨(.seq (.rg [p 1 (.box (.t 0)),
 p 2 (.mv (.k (.bool false)))])
 (.seq (.rg [p 3 (.mv (.k (.int .i64 0)))])
 (.seq (.seq (.rg [p 4 (.mv (.k (.int .i64 0)))])
 (.block 0 (.loop (.seq (.seq (.rg [p 7 (.mv (.t 4)),
 p 8 (.fa 0 (.t 1)),
 p 9 (.ld (.t 8)),
 p 10 (.len (.t 9)),
 p 11 (.bin .lss (.t 7) (.t 10))])
 (.cond (.t 11) .skip
 (.exit 0)))
 (.seq (.block 1 (.seq (.rg [p 14 (.fa 0 (.t 1)),
 p 15 (.ld (.t 14)),
 p 16 (.mv (.t 4)),
 p 17 (.ia 4 (.t 15) (.t 16)),
 p 18 (.fa 1 (.t 17)),
 p 19 (.ld (.t 18))])
 (.cond (.t 19) (.rg [p 20 (.mv (.t 3)),
 p 21 (.bin .add (.t 20) (.k (.int .i64 1))),
 p 3 (.mv (.t 21))])
 .skip)))
 (.rg [p 12 (.mv (.t 4)),
 p 13 (.bin .add (.t 12) (.k (.int .i64 1))),
 p 4 (.mv (.t 13))]))))))
 (.seq (.seq (.rg [p 5 (.mv (.k (.int .i64 0)))])
 (.block 2 (.loop (.seq (.seq (.rg [p 22 (.mv (.t 5)),
 p 23 (.fa 0 (.t 1)),
 p 24 (.ld (.t 23)),
 p 25 (.len (.t 24)),
 p 26 (.bin .lss (.t 22) (.t 25))])
 (.cond (.t 26) .skip
 (.exit 2)))
 (.seq (.block 3 (.seq (.rg [p 29 (.fa 0 (.t 1)),
 p 30 (.ld (.t 29)),
 p 31 (.mv (.t 5)),
 p 32 (.ia 4 (.t 30) (.t 31)),
 p 33 (.ldn 4 (.t 32)),
 p 6 (.new [.int .i64 0, .bool false, .int .i64 0, .int .i64 0]),
 ⟨none, .stn 4 (.t 6) (.t 33), none, false⟩])
 (.seq (.rg [p 34 (.fa 0 (.t 6)),
 p 35 (.ld (.t 34)),
 p 36 (.call 230 [(.t 35), (.k (.int .i64 1)), (.k (.int .i64 4))]),
 p 37 (.not (.t 36)),
 p 38 (.mv (.t 37)),
 ⟨(some 39), .fa 1 (.t 6), (some (38, false)), false⟩,
 ⟨(some 40), .ld (.t 39), (some (38, false)), false⟩,
 ⟨(some 41), .not (.t 40), (some (38, false)), false⟩,
 ⟨(some 42), .mv (.t 41), (some (38, false)), false⟩,
 ⟨(some 43), .fa 2 (.t 6), (some (42, true)), false⟩,
 ⟨(some 44), .ld (.t 43), (some (42, true)), false⟩,
 ⟨(some 45), .bin .neq (.t 44) (.k (.int .i64 0)), (some (42, true)), false⟩,
 ⟨(some 46), .mv (.t 45), (some (42, true)), false⟩,
 ⟨(some 47), .fa 3 (.t 6), (some (46, false)), false⟩,
 ⟨(some 48), .ld (.t 47), (some (46, false)), false⟩,
 ⟨(some 49), .bin .neq (.t 48) (.k (.int .i64 0)), (some (46, false)), false⟩,
 ⟨(some 50), .pick (.t 46) (.k (.bool true)) (.t 49), (some (42, true)), false⟩,
 ⟨(some 51), .pick (.t 42) (.t 50) (.k (.bool false)), (some (38, false)), false⟩,
 p 52 (.pick (.t 38) (.k (.bool true)) (.t 51)),
 p 53 (.mv (.t 52)),
 ⟨(some 54), .fa 1 (.t 6), (some (53, false)), false⟩,
 ⟨(some 55), .ld (.t 54), (some (53, false)), false⟩,
 ⟨(some 56), .mv (.t 55), (some (53, false)), false⟩,
 ⟨(some 57), .fa 2 (.t 6), (some (56, true)), true⟩,
 ⟨(some 58), .ld (.t 57), (some (56, true)), true⟩,
 ⟨(some 59), .mv (.t 3), (some (56, true)), true⟩,
 ⟨(some 60), .bin .mul (.k (.int .i64 2)) (.t 59), (some (56, true)), true⟩,
 ⟨(some 61), .ldn 6 (.t 1), (some (56, true)), true⟩,
 ⟨(some 62), .call 214 [(.t 61)], (some (56, true)), true⟩,
 ⟨(some 63), .bin .mul (.t 60) (.t 62), (some (56, true)), true⟩,
 ⟨(some 64), .call 230 [(.t 58), (.t 63), (.k (.int .i64 1000))], (some (56, true)), false⟩,
 ⟨(some 65), .not (.t 64), (some (56, true)), false⟩,
 ⟨(some 66), .mv (.t 65), (some (56, true)), false⟩,
 ⟨(some 67), .fa 3 (.t 6), (some (66, false)), false⟩,
 ⟨(some 68), .ld (.t 67), (some (66, false)), false⟩,
 ⟨(some 69), .call 230 [(.t 68), (.k (.int .i64 1)), (.k (.int .i64 8))], (some (66, false)), false⟩,
 ⟨(some 70), .not (.t 69), (some (66, false)), false⟩,
 ⟨(some 71), .pick (.t 66) (.k (.bool true)) (.t 70), (some (56, true)), false⟩,
 ⟨(some 72), .pick (.t 56) (.t 71) (.k (.bool false)), (some (53, false)), false⟩,
 p 73 (.pick (.t 53) (.k (.bool true)) (.t 72))])
 (.cond (.t 73) (.seq (.rg [p 2 (.mv (.k (.bool false)))])
 .ret)
 .skip))))
 (.rg [p 27 (.mv (.t 5)),
 p 28 (.bin .add (.t 27) (.k (.int .i64 1))),
 p 5 (.mv (.t 28))]))))))
 (.seq (.rg [p 74 (.fa 0 (.t 1)),
 p 75 (.ld (.t 74)),
 p 76 (.len (.t 75)),
 p 77 (.call 230 [(.t 76), (.k (.int .i64 1)), (.k (.int .i64 4))]),
 p 78 (.mv (.t 77)),
 ⟨(some 79), .ldn 6 (.t 1), (some (78, true)), false⟩,
 ⟨(some 80), .call 245 [(.t 79)], (some (78, true)), false⟩,
 p 81 (.pick (.t 78) (.t 80) (.k (.bool false))),
 p 2 (.mv (.t 81))])
 .ret))))),
 [.tmp 2]⟩
def F186 : Fnc := ⟨(.seq (.rg [p 1 (.box (.t 0)),
 p 2 (.mv (.k (.int .i64 0)))])
 (.seq (.seq (.rg [p 3 (.fa 3 (.t 1)),
 p 4 (.ld (.t 3)),
 p 5 (.call 230 [(.t 4), (.k (.int .i64 0)), (.k (.int .i64 3))]),
 p 6 (.not (.t 5)),
 p 7 (.mv (.t 6)),
 ⟨(some 8), .fa 2 (.t 1), (some (7, false)), false⟩,
 ⟨(some 9), .ld (.t 8), (some (7, false)), false⟩,
 ⟨(some 10), .call 230 [(.t 9), (.k (.int .i64 0)), (.k (.int .i64 3))], (some (7, false)), false⟩,
 ⟨(some 11), .not (.t 10), (some (7, false)), false⟩,
 p 12 (.pick (.t 7) (.k (.bool true)) (.t 11))])
 (.cond (.t 12) (.seq (.rg [p 2 (.mv (.k (.int .i64 0)))])
 .ret)
 .skip))
 (.seq (.rg [p 13 (.fa 3 (.t 1)),
 p 14 (.ld (.t 13)),
 p 15 (.bin .add (.t 14) (.k (.int .i64 2))),
 p 16 (.fa 2 (.t 1)),
 p 17 (.ld (.t 16)),
 p 18 (.bin .add (.t 17) (.k (.int .i64 6))),
 p 19 (.bin .mul (.t 15) (.t 18)),
 p 2 (.mv (.t 19))])
 .ret))),
 [.tmp 2]⟩
def F188 : Fnc := ⟨(.seq (.rg [p 0 (.new [.slice none 0 0, .int .i64 0, .slice none 0 0])])
 (.seq (.rg [p 1 (.mk 1 8 [.int .i64 0] (.k (.int .i64 4)) (.k (.int .i64 4))),
 p 2 (.bd [.slice none 0 0, .int .i64 0, .slice none 0 0] [(0, 1, (.t 1))]),
 ⟨none, .stn 3 (.t 0) (.t 2), none, false⟩])
 .ret)),
 [.celln 0 3]⟩
def F202 : Fnc := ⟨(.seq (.rg [p 0 (.new [.slice none 0 0, .slice none 0 0, .int .i64 0, .slice none 0 0])])
 (.seq (.rg [⟨(some 1), .mk 1 8 [.int .i64 0] (.k (.int .i64 192)) (.k (.int .i64 192)), none, true⟩,
 ⟨(some 2), .call 188 [], none, true⟩,
 p 3 (.bd [.slice none 0 0, .slice none 0 0, .int .i64 0, .slice none 0 0] [(0, 1, (.t 1)), (1, 3, (.t 2))]),
 ⟨none, .stn 4 (.t 0) (.t 3), none, false⟩])
 .ret)),
 [.celln 0 4]⟩
def F214 : Fnc := ⟨(.seq (.rg [p 1 (.box (.t 0)),
 p 2 (.mv (.k (.int .i64 0)))])
 (.seq (.seq (.rg [p 3 (.ldn 6 (.t 1)),
 p 4 (.call 186 [(.t 3)]),
 p 5 (.bin .eql (.t 4) (.k (.int .i64 0))),
 p 6 (.mv (.t 5)),
 ⟨(some 7), .fa 5 (.t 1), (some (6, false)), false⟩,
 ⟨(some 8), .ld (.t 7), (some (6, false)), false⟩,
 ⟨(some 9), .call 230 [(.t 8), (.k (.int .i64 1)), (.k (.int .i64 40))], (some (6, false)), false⟩,
 ⟨(some 10), .not (.t 9), (some (6, false)), false⟩,
 p 11 (.pick (.t 6) (.k (.bool true)) (.t 10))])
 (.cond (.t 11) (.seq (.rg [p 2 (.mv (.k (.int .i64 0)))])
 .ret)
 .skip))
 (.seq (.rg [⟨(some 12), .ldn 6 (.t 1), none, true⟩,
 ⟨(some 13), .call 186 [(.t 12)], none, true⟩,
 ⟨(some 14), .bin .mul (.k (.int .i64 2)) (.t 13), none, true⟩,
 ⟨(some 15), .fa 5 (.t 1), none, true⟩,
 ⟨(some 16), .ld (.t 15), none, true⟩,
 p 17 (.bin .add (.t 14) (.t 16)),
 p 2 (.mv (.t 17))])
 .ret))),
 [.tmp 2]⟩
def F230 : Fnc := ⟨(.seq (.rg [p 6 (.mv (.k (.bool false)))])
 (.seq (.rg [p 7 (.mv (.t 0)),
 p 8 (.mv (.t 1)),
 p 9 (.bin .geq (.t 7) (.t 8)),
 p 10 (.mv (.t 9)),
 ⟨(some 11), .mv (.t 0), (some (10, true)), false⟩,
 ⟨(some 12), .mv (.t 2), (some (10, true)), false⟩,
 ⟨(some 13), .bin .leq (.t 11) (.t 12), (some (10, true)), false⟩,
 p 14 (.pick (.t 10) (.t 13) (.k (.bool false))),
 p 6 (.mv (.t 14))])
 .ret)),
 [.tmp 6]⟩
def F244 : Fnc := ⟨(.seq (.rg [p 1 (.box (.t 0)),
 p 2 (.new [.slice none 0 0, .int .i64 0, .int .i64 0, .int .i64 0, .int .i64 0, .int .i64 0])])
 (.seq (.rg [p 3 (.bs 4 0 [.int .i64 0, .bool false, .int .i64 0, .int .i64 0] []),
 p 4 (.fa 0 (.t 1)),
 p 5 (.ld (.t 4)),
 p 6 (.app 4 32 (.t 3) (.t 5)),
 p 7 (.fa 0 (.t 1)),
 ⟨none, .st (.t 7) (.t 6), none, false⟩])
 (.seq (.rg [p 8 (.ldn 6 (.t 1)),
 ⟨none, .stn 6 (.t 2) (.t 8), none, false⟩])
 .ret))),
 [.celln 2 6]⟩
def F245 : Fnc := ⟨(.seq (.rg [p 1 (.box (.t 0)),
 p 2 (.mv (.k (.bool false)))])
 (.seq (.rg [p 3 (.fa 1 (.t 1)),
 p 4 (.ld (.t 3)),
 p 5 (.call 230 [(.t 4), (.k (.int .i64 1)), (.k (.int .i64 4))]),
 p 6 (.mv (.t 5)),
 ⟨(some 7), .ldn 6 (.t 1), (some (6, true)), false⟩,
 ⟨(some 8), .call 186 [(.t 7)], (some (6, true)), false⟩,
 ⟨(some 9), .bin .gtr (.t 8) (.k (.int .i64 0)), (some (6, true)), false⟩,
 p 10 (.pick (.t 6) (.t 9) (.k (.bool false))),
 p 11 (.mv (.t 10)),
 ⟨(some 12), .fa 4 (.t 1), (some (11, true)), false⟩,
 ⟨(some 13), .ld (.t 12), (some (11, true)), false⟩,
 ⟨(some 14), .call 230 [(.t 13), (.k (.int .i64 1)), (.k (.int .i64 12))], (some (11, true)), false⟩,
 p 15 (.pick (.t 11) (.t 14) (.k (.bool false))),
 p 16 (.mv (.t 15)),
 ⟨(some 17), .fa 5 (.t 1), (some (16, true)), false⟩,
 ⟨(some 18), .ld (.t 17), (some (16, true)), false⟩,
 ⟨(some 19), .call 230 [(.t 18), (.k (.int .i64 1)), (.k (.int .i64 40))], (some (16, true)), false⟩,
 p 20 (.pick (.t 16) (.t 19) (.k (.bool false))),
 p 2 (.mv (.t 20))])
 .ret)),
 [.tmp 2]⟩
def F256 : Fnc := ⟨(.seq (.rg [p 2 (.mv (.k (.slice none 0 0)))])
 (.seq (.seq (.rg [p 3 (.mv (.t 0)),
 p 4 (.eqnil false (.t 3))])
 (.cond (.t 4) (.seq (.rg [p 2 (.mv (.k (.slice none 0 0)))])
 .ret)
 .skip))
 (.seq (.rg [p 5 (.bs 4 0 [.int .i64 0, .bool false, .int .i64 0, .int .i64 0] []),
 p 6 (.mv (.t 0)),
 p 7 (.app 4 32 (.t 5) (.t 6)),
 p 2 (.mv (.t 7))])
 .ret))),
 [.tmp 2]⟩
def F258 : Fnc := ⟨(.seq (.rg [p 4 (.mv (.k (.bool false)))])
 (.seq (.rg [p 5 (.mv (.t 0)),
 p 6 (.mv (.t 1)),
 p 7 (.call 269 [(.t 5), (.t 6)]),
 p 8 (.bin .geq (.t 7) (.k (.int .i64 0))),
 p 4 (.mv (.t 8))])
 .ret)),
 [.tmp 4]⟩
def F269 : Fnc := ⟨(.seq (.rg [p 4 (.mv (.k (.int .i64 0)))])
 (.seq (.seq (.rg [p 6 (.mv (.t 0)),
 p 7 (.len (.t 6)),
 p 8 (.mv (.k (.int .i64 0)))])
 (.block 0 (.loop (.seq (.rg [p 9 (.bin .lss (.t 8) (.t 7))])
 (.seq (.cond (.t 9) .skip
 (.exit 0))
 (.seq (.block 1 (.seq (.rg [p 10 (.mv (.t 8)),
 p 5 (.mv (.t 10))])
 (.seq (.rg [p 11 (.mv (.t 1)),
 p 12 (.mv (.t 0)),
 p 13 (.mv (.t 5)),
 p 14 (.ia 4 (.t 12) (.t 13)),
 p 15 (.ldn 4 (.t 14)),
 p 16 (.calli (.t 11) [(.t 15)])])
 (.cond (.t 16) (.seq (.rg [p 17 (.mv (.t 5)),
 p 4 (.mv (.t 17))])
 .ret)
 .skip))))
 (.rg [p 18 (.bin .add (.t 8) (.k (.int .i64 1))),
 p 8 (.mv (.t 18))])))))))
 (.seq (.rg [p 4 (.mv (.k (.int .i64 (-1))))])
 .ret))),
 [.tmp 4]⟩
def F337 : Fnc := ⟨(.seq (.rg [p 4 (.mv (.k (.int .i64 0)))])
 (.seq (.seq (.rg [p 5 (.mv (.k (.int .i64 0)))])
 (.block 0 (.loop (.seq (.seq (.rg [p 6 (.mv (.t 5)),
 p 7 (.mv (.t 0)),
 p 8 (.len (.t 7)),
 p 9 (.bin .lss (.t 6) (.t 8))])
 (.cond (.t 9) .skip
 (.exit 0)))
 (.seq (.block 1 (.seq (.rg [p 12 (.mv (.t 0)),
 p 13 (.mv (.t 5)),
 p 14 (.mv (.t 1)),
 p 15 (.ia 1 (.t 12) (.t 13)),
 ⟨none, .st (.t 15) (.t 14), none, false⟩])
 (.rg [p 16 (.mv (.t 1)),
 p 17 (.bin .add (.t 16) (.k (.int .i64 1))),
 p 1 (.mv (.t 17))])))
 (.rg [p 10 (.mv (.t 5)),
 p 11 (.bin .add (.t 10) (.k (.int .i64 1))),
 p 5 (.mv (.t 11))]))))))
 (.seq (.rg [p 18 (.mv (.t 1)),
 p 4 (.mv (.t 18))])
 .ret))),
 [.tmp 4]⟩
def F351 : Fnc := ⟨(.seq (.rg [p 1 (.box (.t 0)),
 p 2 (.mv (.k (.bool false)))])
 (.seq (.rg [p 3 (.mv (.k (.int .i64 1048576)))])
 (.seq (.rg [p 14 (.ldn 6 (.t 1)),
 p 15 (.mv (.t 3)),
 p 16 (.call 145 [(.t 14), (.t 15)]),
 p 3 (.mv (.t 16))])
 (.seq (.seq (.rg [p 17 (.mv (.t 3)),
 p 18 (.bin .lss (.t 17) (.k (.int .i64 0)))])
 (.cond (.t 18) (.seq (.rg [p 2 (.mv (.k (.bool true)))])
 .ret)
 .skip))
 (.seq (.rg [p 20 (.ldn 6 (.t 1)),
 p 21 (.call 159 [(.t 20)]),
 p 22 (.call 181 [(.t 21)]),
 p 19 (.mv (.t 22)),
 p 23 (.ext 0 (.t 19)),
 p 24 (.ext 1 (.t 19)),
 p 4 (.new [.slice none 0 0, .int .i64 0, .int .i64 0, .int .i64 0, .int .i64 0, .int .i64 0, .int .i64 0, .slice none 0 0, .int .i64 0, .int .i64 0, .slice none 0 0, .slice none 0 0, .int .i64 0, .int .i64 0, .int .i64 0, .bool false, .int .i64 0, .int .i64 0, .bool false, .int .i64 0, .int .i64 0, .int .i64 0, .bool false, .bool false, .int .i64 0, .int .i64 0, .bool false, .int .i64 0, .int .i64 0, .int .i64 0, .bool false, .slice none 0 0, .slice none 0 0, .int .i64 0, .slice none 0 0, .int .i64 0, .slice none 0 0]),
 ⟨none, .stn 37 (.t 4) (.t 23), none, false⟩,
 p 5 (.mv (.t 24))])
 (.seq (.rg [p 25 (.ldn 6 (.t 1)),
 p 26 (.call 159 [(.t 25)]),
 p 6 (.new [.slice none 0 0, .int .i64 0, .int .i64 0, .int .i64 0, .int .i64 0, .int .i64 0]),
 ⟨none, .stn 6 (.t 6) (.t 26), none, false⟩])
 (.seq (.rg [p 28 (.ldn 6 (.t 6)),
 p 29 (.call 368 [(.t 28)]),
 p 27 (.mv (.t 29)),
 p 30 (.ext 0 (.t 27)),
 p 31 (.ext 1 (.t 27)),
 p 7 (.new [.slice none 0 0, .int .i64 0, .int .i64 0, .int .i64 0, .int .i64 0, .int .i64 0, .int .i64 0, .slice none 0 0, .int .i64 0, .int .i64 0, .slice none 0 0, .slice none 0 0, .int .i64 0, .int .i64 0, .int .i64 0, .bool false, .int .i64 0, .int .i64 0, .bool false, .int .i64 0, .int .i64 0, .int .i64 0, .bool false, .bool false, .int .i64 0, .int .i64 0, .bool false, .int .i64 0, .int .i64 0, .int .i64 0, .bool false, .slice none 0 0, .slice none 0 0, .int .i64 0, .slice none 0 0, .int .i64 0, .slice none 0 0]),
 ⟨none, .stn 37 (.t 7) (.t 30), none, false⟩,
 p 8 (.mv (.t 31))])
 (.seq (.seq (.rg [p 32 (.ldn 37 (.t 7)),
 p 33 (.ldn 37 (.t 4)),
 p 34 (.call 127 [(.t 32), (.t 33)]),
 p 35 (.not (.t 34)),
 p 36 (.mv (.t 35)),
 ⟨(some 37), .mv (.t 8), (some (36, false)), false⟩,
 ⟨(some 38), .mv (.t 5), (some (36, false)), false⟩,
 ⟨(some 39), .eqb true (.t 37) (.t 38), (some (36, false)), false⟩,
 p 40 (.pick (.t 36) (.k (.bool true)) (.t 39))])
 (.cond (.t 40) (.seq (.rg [p 2 (.mv (.k (.bool false)))])
 .ret)
 .skip))
 (.seq (.seq (.rg [⟨(some 41), .ldn 6 (.t 6), none, true⟩,
 ⟨(some 42), .ldn 6 (.t 1), none, true⟩,
 ⟨(some 43), .call 159 [(.t 42)], none, true⟩,
 p 44 (.call 128 [(.t 41), (.t 43)]),
 p 45 (.not (.t 44))])
 (.cond (.t 45) (.seq (.rg [p 2 (.mv (.k (.bool false)))])
 .ret)
 .skip))
 (.seq (.rg [p 9 (.mv (.k (.int .i64 1)))])
 (.seq (.rg [p 46 (.ldn 6 (.t 6)),
 p 47 (.mv (.t 9)),
 p 48 (.call 369 [(.t 46), (.t 47)]),
 p 9 (.mv (.t 48))])
 (.seq (.seq (.rg [p 49 (.mv (.t 9)),
 p 50 (.bin .lss (.t 49) (.k (.int .i64 0))),
 p 51 (.mv (.t 50)),
 ⟨(some 52), .ldn 37 (.t 7), (some (51, false)), false⟩,
 ⟨(some 53), .ldn 37 (.t 4), (some (51, false)), false⟩,
 ⟨(some 54), .call 127 [(.t 52), (.t 53)], (some (51, false)), false⟩,
 ⟨(some 55), .not (.t 54), (some (51, false)), false⟩,
 p 56 (.pick (.t 51) (.k (.bool true)) (.t 55)),
 p 57 (.mv (.t 56)),
 ⟨(some 58), .mv (.t 8), (some (57, false)), false⟩,
 ⟨(some 59), .mv (.t 5), (some (57, false)), false⟩,
 ⟨(some 60), .eqb true (.t 58) (.t 59), (some (57, false)), false⟩,
 p 61 (.pick (.t 57) (.k (.bool true)) (.t 60))])
 (.cond (.t 61) (.seq (.rg [p 2 (.mv (.k (.bool false)))])
 .ret)
 .skip))
 (.seq (.rg [p 10 (.mv (.k (.int .i64 1)))])
 (.seq (.rg [p 62 (.ldn 37 (.t 7)),
 p 63 (.mv (.t 10)),
 p 64 (.call 370 [(.t 62), (.t 63)]),
 p 10 (.mv (.t 64))])
 (.seq (.rg [p 11 (.mv (.k (.int .i64 1)))])
 (.seq (.rg [p 65 (.ldn 37 (.t 7)),
 p 66 (.mv (.t 11)),
 p 67 (.call 371 [(.t 65), (.t 66)]),
 p 11 (.mv (.t 67))])
 (.seq (.seq (.rg [p 68 (.mv (.t 11)),
 p 69 (.bin .lss (.t 68) (.k (.int .i64 0)))])
 (.cond (.t 69) (.seq (.rg [p 2 (.mv (.k (.bool false)))])
 .ret)
 .skip))
 (.seq (.seq (.rg [p 70 (.mv (.t 11)),
 p 71 (.mv (.t 10)),
 p 72 (.bin .neq (.t 70) (.t 71))])
 (.cond (.t 72) (.seq (.rg [p 2 (.mv (.k (.bool false)))])
 .ret)
 .skip))
 (.seq (.rg [p 74 (.ldn 6 (.t 1)),
 p 75 (.call 159 [(.t 74)]),
 p 76 (.call 368 [(.t 75)]),
 p 73 (.mv (.t 76)),
 p 77 (.ext 0 (.t 73)),
 p 78 (.ext 1 (.t 73)),
 p 12 (.new [.slice none 0 0, .int .i64 0, .int .i64 0, .int .i64 0, .int .i64 0, .int .i64 0, .int .i64 0, .slice none 0 0, .int .i64 0, .int .i64 0, .slice none 0 0, .slice none 0 0, .int .i64 0, .int .i64 0, .int .i64 0, .bool false, .int .i64 0, .int .i64 0, .bool false, .int .i64 0, .int .i64 0, .int .i64 0, .bool false, .bool false, .int .i64 0, .int .i64 0, .bool false, .int .i64 0, .int .i64 0, .int .i64 0, .bool false, .slice none 0 0, .slice none 0 0, .int .i64 0, .slice none 0 0, .int .i64 0, .slice none 0 0]),
 ⟨none, .stn 37 (.t 12) (.t 77), none, false⟩,
 p 13 (.mv (.t 78))])
 (.seq (.seq (.rg [p 79 (.ldn 37 (.t 12)),
 p 80 (.ldn 37 (.t 4)),
 p 81 (.call 127 [(.t 79), (.t 80)]),
 p 82 (.not (.t 81)),
 p 83 (.mv (.t 82)),
 ⟨(some 84), .mv (.t 13), (some (83, false)), false⟩,
 ⟨(some 85), .mv (.t 5), (some (83, false)), false⟩,
 ⟨(some 86), .eqb true (.t 84) (.t 85), (some (83, false)), false⟩,
 p 87 (.pick (.t 83) (.k (.bool true)) (.t 86))])
 (.cond (.t 87) (.seq (.rg [p 2 (.mv (.k (.bool false)))])
 .ret)
 .skip))
 (.seq (.rg [p 11 (.mv (.k (.int .i64 1)))])
 (.seq (.rg [p 88 (.ldn 37 (.t 7)),
 p 89 (.mv (.t 11)),
 p 90 (.call 371 [(.t 88), (.t 89)]),
 p 11 (.mv (.t 90))])
 (.seq (.seq (.rg [p 91 (.mv (.t 11)),
 p 92 (.bin .lss (.t 91) (.k (.int .i64 0)))])
 (.cond (.t 92) (.seq (.rg [p 2 (.mv (.k (.bool false)))])
 .ret)
 .skip))
 (.seq (.seq (.rg [p 93 (.mv (.t 11)),
 p 94 (.mv (.t 10)),
 p 95 (.bin .neq (.t 93) (.t 94))])
 (.cond (.t 95) (.seq (.rg [p 2 (.mv (.k (.bool false)))])
 .ret)
 .skip))
 (.seq (.rg [p 2 (.mv (.k (.bool true)))])
 .ret))))))))))))))))))))))))),
 [.tmp 2]⟩
def F362 : Fnc := ⟨(.seq (.rg [p 2 (.box (.t 0)),
 p 4 (.mv (.k (.int .i64 0)))])
 (.seq (.rg [p 5 (.fa 0 (.t 2)),
 p 6 (.ld (.t 5)),
 p 7 (.mv (.t 1)),
 p 8 (.call 337 [(.t 6), (.t 7)]),
 p 1 (.mv (.t 8))])
 (.seq (.rg [p 9 (.fa 1 (.t 2)),
 p 10 (.ldn 3 (.t 9)),
 p 11 (.mv (.t 1)),
 p 12 (.call 379 [(.t 10), (.t 11)]),
 p 1 (.mv (.t 12))])
 (.seq (.rg [p 13 (.mv (.t 1)),
 p 4 (.mv (.t 13))])
 .ret)))),
 [.tmp 4]⟩
def F363 : Fnc := ⟨(.seq (.rg [p 2 (.box (.t 0)),
 p 4 (.mv (.k (.int .i64 0)))])
 (.seq (.rg [p 5 (.fa 0 (.t 2)),
 p 6 (.ld (.t 5)),
 p 7 (.mv (.t 1)),
 p 8 (.call 380 [(.t 6), (.t 7)]),
 p 1 (.mv (.t 8))])
 (.seq (.seq (.rg [p 9 (.mv (.t 1)),
 p 10 (.bin .lss (.t 9) (.k (.int .i64 0)))])
 (.cond (.t 10) (.seq (.rg [p 4 (.mv (.k (.int .i64 (-1))))])
 .ret)
 .skip))
 (.seq (.rg [p 11 (.fa 1 (.t 2)),
 p 12 (.ldn 3 (.t 11)),
 p 13 (.mv (.t 1)),
 p 14 (.call 381 [(.t 12), (.t 13)]),
 p 1 (.mv (.t 14))])
 (.seq (.seq (.rg [p 15 (.mv (.t 1)),
 p 16 (.bin .lss (.t 15) (.k (.int .i64 0)))])
 (.cond (.t 16) (.seq (.rg [p 4 (.mv (.k (.int .i64 (-1))))])
 .ret)
 .skip))
 (.seq (.rg [p 17 (.mv (.t 1)),
 p 4 (.mv (.t 17))])
 .ret)))))),
 [.tmp 4]⟩
def F368 : Fnc := ⟨(.seq (.rg [p 1 (.box (.t 0)),
 p 2 (.new [.slice none 0 0, .int .i64 0, .int .i64 0, .int .i64 0, .int .i64 0, .int .i64 0, .int .i64 0, .slice none 0 0, .int .i64 0, .int .i64 0, .slice none 0 0, .slice none 0 0, .int .i64 0, .int .i64 0, .int .i64 0, .bool false, .int .i64 0, .int .i64 0, .bool false, .int .i64 0, .int .i64 0, .int .i64 0, .bool false, .bool false, .int .i64 0, .int .i64 0, .bool false, .int .i64 0, .int .i64 0, .int .i64 0, .bool false, .slice none 0 0, .slice none 0 0, .int .i64 0, .slice none 0 0, .int .i64 0, .slice none 0 0]),
 p 3 (.mv (.k (.bool false)))])
 (.seq (.seq (.rg [p 7 (.ldn 6 (.t 1)),
 p 8 (.call 34 [(.t 7)]),
 p 9 (.not (.t 8))])
 (.cond (.t 9) (.seq (.rg [p 10 (.bd [.slice none 0 0, .int .i64 0, .int .i64 0, .int .i64 0, .int .i64 0, .int .i64 0, .int .i64 0, .slice none 0 0, .int .i64 0, .int .i64 0, .slice none 0 0, .slice none 0 0, .int .i64 0, .int .i64 0, .int .i64 0, .bool false, .int .i64 0, .int .i64 0, .bool false, .int .i64 0, .int .i64 0, .int .i64 0, .bool false, .bool false, .int .i64 0, .int .i64 0, .bool false, .int .i64 0, .int .i64 0, .int .i64 0, .bool false, .slice none 0 0, .slice none 0 0, .int .i64 0, .slice none 0 0, .int .i64 0, .slice none 0 0] []),
 ⟨none, .stn 37 (.t 2) (.t 10), none, false⟩,
 p 3 (.mv (.k (.bool false)))])
 .ret)
 .skip))
 (.seq (.rg [p 11 (.ldn 6 (.t 1)),
 p 12 (.call 96 [(.t 11)]),
 p 13 (.call 378 []),
 p 14 (.bd [.slice none 0 0, .int .i64 0, .int .i64 0, .int .i64 0, .int .i64 0, .int .i64 0, .int .i64 0, .slice none 0 0, .int .i64 0, .int .i64 0, .slice none 0 0, .slice none 0 0, .int .i64 0, .int .i64 0, .int .i64 0, .bool false, .int .i64 0, .int .i64 0, .bool false, .int .i64 0, .int .i64 0, .int .i64 0, .bool false, .bool false, .int .i64 0, .int .i64 0, .bool false, .int .i64 0, .int .i64 0, .int .i64 0, .bool false, .slice none 0 0, .slice none 0 0, .int .i64 0, .slice none 0 0, .int .i64 0, .slice none 0 0] [(0, 6, (.t 12)), (12, 1, (.k (.int .i64 (-1)))), (14, 1, (.k (.int .i64 (-1)))), (31, 4, (.t 13))]),
 p 4 (.new [.slice none 0 0, .int .i64 0, .int .i64 0, .int .i64 0, .int .i64 0, .int .i64 0, .int .i64 0, .slice none 0 0, .int .i64 0, .int .i64 0, .slice none 0 0, .slice none 0 0, .int .i64 0, .int .i64 0, .int .i64 0, .bool false, .int .i64 0, .int .i64 0, .bool false, .int .i64 0, .int .i64 0, .int .i64 0, .bool false, .bool false, .int .i64 0, .int .i64 0, .bool false, .int .i64 0, .int .i64 0, .int .i64 0, .bool false, .slice none 0 0, .slice none 0 0, .int .i64 0, .slice none 0 0, .int .i64 0, .slice none 0 0]),
 ⟨none, .stn 37 (.t 4) (.t 14), none, false⟩])
 (.seq (.seq (.rg [p 15 (.fa 0 (.t 1)),
 p 16 (.ld (.t 15)),
 p 17 (.len (.t 16)),
 p 18 (.mv (.k (.int .i64 0)))])
 (.block 0 (.loop (.seq (.rg [p 19 (.bin .lss (.t 18) (.t 17))])
 (.seq (.cond (.t 19) .skip
 (.exit 0))
 (.seq (.block 1 (.seq (.rg [p 20 (.ia 4 (.t 16) (.t 18)),
 p 21 (.ldn 4 (.t 20)),
 p 6 (.new [.int .i64 0, .bool false, .int .i64 0, .int .i64 0]),
 ⟨none, .stn 4 (.t 6) (.t 21), none, false⟩])
 (.seq (.rg [p 22 (.fa 7 (.t 4)),
 p 23 (.ld (.t 22)),
 p 24 (.bd [.slice none 0 0, .int .i64 0, .int .i64 0, .int .i64 0, .bool false, .bool false] []),
 p 25 (.bs 6 1 [.slice none 0 0, .int .i64 0, .int .i64 0, .int .i64 0, .bool false, .bool false] [(0, (.t 24))]),
 p 26 (.app 6 56 (.t 23) (.t 25)),
 p 27 (.fa 7 (.t 4)),
 ⟨none, .st (.t 27) (.t 26), none, false⟩])
 (.seq (.rg [⟨(some 28), .fa 10 (.t 4), none, true⟩,
 ⟨(some 29), .ld (.t 28), none, true⟩,
 ⟨(some 30), .ldn 4 (.t 6), none, true⟩,
 ⟨(some 31), .call 25 [(.t 30)], none, true⟩,
 ⟨(some 32), .bs 2 1 [.int .i64 0, .int .i64 0] [(0, (.t 31))], none, true⟩,
 p 33 (.app 2 16 (.t 29) (.t 32)),
 p 34 (.fa 10 (.t 4)),
 ⟨none, .st (.t 34) (.t 33), none, false⟩])
 (.rg [p 35 (.fa 11 (.t 4)),
 p 36 (.ld (.t 35)),
 p 37 (.bs 1 1 [.int .i64 0] [(0, (.k (.int .i64 0)))]),
 p 38 (.app 1 8 (.t 36) (.t 37)),
 p 39 (.fa 11 (.t 4)),
 ⟨none, .st (.t 39) (.t 38), none, false⟩])))))
 (.rg [p 40 (.bin .add (.t 18) (.k (.int .i64 1))),
 p 18 (.mv (.t 40))])))))))
 (.seq (.rg [p 41 (.ldn 37 (.t 4)),
 ⟨none, .stn 37 (.t 2) (.t 41), none, false⟩,
 p 3 (.mv (.k (.bool true)))])
 .ret))))),
 [.celln 2 37, .tmp 3]⟩
def F369 : Fnc := ⟨(.seq (.rg [p 2 (.box (.t 0)),
 p 4 (.mv (.k (.int .i64 0)))])
 (.seq (.rg [p 5 (.fa 0 (.t 2)),
 p 6 (.ld (.t 5)),
 p 7 (.mv (.t 1)),
 p 8 (.call 388 [(.t 6), (.t 7)]),
 p 1 (.mv (.t 8))])
 (.seq (.rg [p 9 (.mv (.t 1)),
 p 4 (.mv (.t 9))])
 .ret))),
 [.tmp 4]⟩
def F370 : Fnc := ⟨(.seq (.rg [p 2 (.box (.t 0)),
 p 4 (.mv (.k (.int .i64 0)))])
 (.seq (.rg [p 5 (.fa 0 (.t 2)),
 p 6 (.ldn 6 (.t 5)),
 p 7 (.mv (.t 1)),
 p 8 (.call 369 [(.t 6), (.t 7)]),
 p 1 (.mv (.t 8))])
 (.seq (.rg [p 9 (.fa 7 (.t 2)),
 p 10 (.ld (.t 9)),
 p 11 (.mv (.t 1)),
 p 12 (.call 389 [(.t 10), (.t 11)]),
 p 1 (.mv (.t 12))])
 (.seq (.rg [p 13 (.fa 10 (.t 2)),
 p 14 (.ld (.t 13)),
 p 15 (.mv (.t 1)),
 p 16 (.call 390 [(.t 14), (.t 15)]),
 p 1 (.mv (.t 16))])
 (.seq (.rg [p 17 (.fa 11 (.t 2)),
 p 18 (.ld (.t 17)),
 p 19 (.mv (.t 1)),
 p 20 (.call 337 [(.t 18), (.t 19)]),
 p 1 (.mv (.t 20))])
 (.seq (.rg [p 21 (.fa 31 (.t 2)),
 p 22 (.ldn 4 (.t 21)),
 p 23 (.mv (.t 1)),
 p 24 (.call 362 [(.t 22), (.t 23)]),
 p 1 (.mv (.t 24))])
 (.seq (.rg [p 25 (.fa 36 (.t 2)),
 p 26 (.ld (.t 25)),
 p 27 (.mv (.t 1)),
 p 28 (.call 142 [(.t 26), (.t 27)]),
 p 1 (.mv (.t 28))])
 (.seq (.rg [p 29 (.mv (.t 1)),
 p 4 (.mv (.t 29))])
 .ret)))))))),
 [.tmp 4]⟩
def F371 : Fnc := ⟨(.seq (.rg [p 2 (.box (.t 0)),
 p 4 (.mv (.k (.int .i64 0)))])
 (.seq (.rg [p 5 (.fa 0 (.t 2)),
 p 6 (.ldn 6 (.t 5)),
 p 7 (.mv (.t 1)),
 p 8 (.call 391 [(.t 6), (.t 7)]),
 p 1 (.mv (.t 8))])
 (.seq (.seq (.rg [p 9 (.mv (.t 1)),
 p 10 (.bin .lss (.t 9) (.k (.int .i64 0)))])
 (.cond (.t 10) (.seq (.rg [p 4 (.mv (.k (.int .i64 (-1))))])
 .ret)
 .skip))
 (.seq (.rg [p 11 (.fa 7 (.t 2)),
 p 12 (.ld (.t 11)),
 p 13 (.mv (.t 1)),
 p 14 (.call 392 [(.t 12), (.t 13)]),
 p 1 (.mv (.t 14))])
 (.seq (.seq (.rg [p 15 (.mv (.t 1)),
 p 16 (.bin .lss (.t 15) (.k (.int .i64 0)))])
 (.cond (.t 16) (.seq (.rg [p 4 (.mv (.k (.int .i64 (-1))))])
 .ret)
 .skip))
 (.seq (.rg [p 17 (.fa 10 (.t 2)),
 p 18 (.ld (.t 17)),
 p 19 (.mv (.t 1)),
 p 20 (.call 393 [(.t 18), (.t 19)]),
 p 1 (.mv (.t 20))])
 (.seq (.seq (.rg [p 21 (.mv (.t 1)),
 p 22 (.bin .lss (.t 21) (.k (.int .i64 0)))])
 (.cond (.t 22) (.seq (.rg [p 4 (.mv (.k (.int .i64 (-1))))])
 .ret)
 .skip))
 (.seq (.rg [p 23 (.fa 11 (.t 2)),
 p 24 (.ld (.t 23)),
 p 25 (.mv (.t 1)),
 p 26 (.call 380 [(.t 24), (.t 25)]),
 p 1 (.mv (.t 26))])
 (.seq (.seq (.rg [p 27 (.mv (.t 1)),
 p 28 (.bin .lss (.t 27) (.k (.int .i64 0)))])
 (.cond (.t 28) (.seq (.rg [p 4 (.mv (.k (.int .i64 (-1))))])
 .ret)
 .skip))
 (.seq (.rg [p 29 (.fa 31 (.t 2)),
 p 30 (.ldn 4 (.t 29)),
 p 31 (.mv (.t 1)),
 p 32 (.call 363 [(.t 30), (.t 31)]),
 p 1 (.mv (.t 32))])
 (.seq (.seq (.rg [p 33 (.mv (.t 1)),
 p 34 (.bin .lss (.t 33) (.k (.int .i64 0)))])
 (.cond (.t 34) (.seq (.rg [p 4 (.mv (.k (.int .i64 (-1))))])
 .ret)
 .skip))
 (.seq (.rg [p 35 (.fa 36 (.t 2)),
 p 36 (.ld (.t 35)),
 p 37 (.mv (.t 1)),
 p 38 (.call 141 [(.t 36), (.t 37)]),
 p 1 (.mv (.t 38))])
 (.seq (.seq (.rg [p 39 (.mv (.t 1)),
 p 40 (.bin .lss (.t 39) (.k (.int .i64 0)))])
 (.cond (.t 40) (.seq (.rg [p 4 (.mv (.k (.int .i64 (-1))))])
 .ret)
 .skip))
 (.seq (.rg [p 41 (.mv (.t 1)),
 p 4 (.mv (.t 41))])
 .ret)))))))))))))),
 [.tmp 4]⟩
def F375 : Fnc := ⟨(.seq (.rg [p 4 (.mv (.k (.int .i64 0)))])
 (.seq (.seq (.rg [p 5 (.mv (.k (.int .i64 0)))])
 (.block 0 (.loop (.seq (.seq (.rg [p 6 (.mv (.t 5)),
 p 7 (.mv (.t 0)),
 p 8 (.len (.t 7)),
 p 9 (.bin .lss (.t 6) (.t 8))])
 (.cond (.t 9) .skip
 (.exit 0)))
 (.seq (.block 1 (.seq (.rg [p 12 (.mv (.t 0)),
 p 13 (.mv (.t 5)),
 p 14 (.mv (.t 1)),
 p 15 (.bin .rem (.t 14) (.k (.int .i64 3))),
 p 16 (.bin .eql (.t 15) (.k (.int .i64 0))),
 p 17 (.ia 6 (.t 12) (.t 13)),
 p 18 (.fa 0 (.t 17)),
 ⟨none, .st (.t 18) (.t 16), none, false⟩])
 (.seq (.rg [p 19 (.mv (.t 1)),
 p 20 (.bin .add (.t 19) (.k (.int .i64 1))),
 p 1 (.mv (.t 20))])
 (.seq (.rg [p 21 (.mv (.t 0)),
 p 22 (.mv (.t 5)),
 p 23 (.mv (.t 1)),
 p 24 (.ia 6 (.t 21) (.t 22)),
 p 25 (.fa 1 (.t 24)),
 ⟨none, .st (.t 25) (.t 23), none, false⟩])
 (.seq (.rg [p 26 (.mv (.t 1)),
 p 27 (.bin .add (.t 26) (.k (.int .i64 1))),
 p 1 (.mv (.t 27))])
 (.seq (.rg [p 28 (.mv (.t 0)),
 p 29 (.mv (.t 5)),
 p 30 (.mv (.t 1)),
 p 31 (.ia 6 (.t 28) (.t 29)),
 p 32 (.fa 2 (.t 31)),
 ⟨none, .st (.t 32) (.t 30), none, false⟩])
 (.seq (.rg [p 33 (.mv (.t 1)),
 p 34 (.bin .add (.t 33) (.k (.int .i64 1))),
 p 1 (.mv (.t 34))])
 (.seq (.rg [p 35 (.mv (.t 0)),
 p 36 (.mv (.t 5)),
 p 37 (.mv (.t 1)),
 p 38 (.ia 6 (.t 35) (.t 36)),
 p 39 (.fa 3 (.t 38)),
 ⟨none, .st (.t 39) (.t 37), none, false⟩])
 (.seq (.rg [p 40 (.mv (.t 1)),
 p 41 (.bin .add (.t 40) (.k (.int .i64 1))),
 p 1 (.mv (.t 41))])
 (.seq (.rg [p 42 (.mv (.t 0)),
 p 43 (.mv (.t 5)),
 p 44 (.mv (.t 1)),
 p 45 (.bin .rem (.t 44) (.k (.int .i64 3))),
 p 46 (.bin .eql (.t 45) (.k (.int .i64 0))),
 p 47 (.ia 6 (.t 42) (.t 43)),
 p 48 (.fa 4 (.t 47)),
 ⟨none, .st (.t 48) (.t 46), none, false⟩])
 (.seq (.rg [p 49 (.mv (.t 1)),
 p 50 (.bin .add (.t 49) (.k (.int .i64 1))),
 p 1 (.mv (.t 50))])
 (.rg [p 51 (.mv (.t 0)),
 p 52 (.mv (.t 5)),
 p 53 (.ia 6 (.t 51) (.t 52)),
 p 54 (.fa 5 (.t 53)),
 p 55 (.ld (.t 54)),
 p 56 (.mv (.t 1)),
 p 57 (.call 337 [(.t 55), (.t 56)]),
 p 1 (.mv (.t 57))]))))))))))))
 (.rg [p 10 (.mv (.t 5)),
 p 11 (.bin .add (.t 10) (.k (.int .i64 1))),
 p 5 (.mv (.t 11))]))))))
 (.seq (.rg [p 58 (.mv (.t 1)),
 p 4 (.mv (.t 58))])
 .ret))),
 [.tmp 4]⟩
def F376 : Fnc := ⟨(.seq (.rg [p 4 (.mv (.k (.int .i64 0)))])
 (.seq (.seq (.rg [p 5 (.mv (.k (.int .i64 0)))])
 (.block 0 (.loop (.seq (.seq (.rg [p 6 (.mv (.t 5)),
 p 7 (.mv (.t 0)),
 p 8 (.len (.t 7)),
 p 9 (.bin .lss (.t 6) (.t 8))])
 (.cond (.t 9) .skip
 (.exit 0)))
 (.seq (.block 1 (.seq (.seq (.rg [p 12 (.mv (.t 0)),
 p 13 (.mv (.t 5)),
 p 14 (.ia 6 (.t 12) (.t 13)),
 p 15 (.fa 0 (.t 14)),
 p 16 (.ld (.t 15)),
 p 17 (.mv (.t 1)),
 p 18 (.bin .rem (.t 17) (.k (.int .i64 3))),
 p 19 (.bin .eql (.t 18) (.k (.int .i64 0))),
 p 20 (.eqb true (.t 16) (.t 19))])
 (.cond (.t 20) (.seq (.rg [p 4 (.mv (.k (.int .i64 (-1))))])
 .ret)
 .skip))
 (.seq (.rg [p 21 (.mv (.t 1)),
 p 22 (.bin .add (.t 21) (.k (.int .i64 1))),
 p 1 (.mv (.t 22))])
 (.seq (.seq (.rg [p 23 (.mv (.t 0)),
 p 24 (.mv (.t 5)),
 p 25 (.ia 6 (.t 23) (.t 24)),
 p 26 (.fa 1 (.t 25)),
 p 27 (.ld (.t 26)),
 p 28 (.mv (.t 1)),
 p 29 (.bin .neq (.t 27) (.t 28))])
 (.cond (.t 29) (.seq (.rg [p 4 (.mv (.k (.int .i64 (-1))))])
 .ret)
 .skip))
 (.seq (.rg [p 30 (.mv (.t 1)),
 p 31 (.bin .add (.t 30) (.k (.int .i64 1))),
 p 1 (.mv (.t 31))])
 (.seq (.seq (.rg [p 32 (.mv (.t 0)),
 p 33 (.mv (.t 5)),
 p 34 (.ia 6 (.t 32) (.t 33)),
 p 35 (.fa 2 (.t 34)),
 p 36 (.ld (.t 35)),
 p 37 (.mv (.t 1)),
 p 38 (.bin .neq (.t 36) (.t 37))])
 (.cond (.t 38) (.seq (.rg [p 4 (.mv (.k (.int .i64 (-1))))])
 .ret)
 .skip))
 (.seq (.rg [p 39 (.mv (.t 1)),
 p 40 (.bin .add (.t 39) (.k (.int .i64 1))),
 p 1 (.mv (.t 40))])
 (.seq (.seq (.rg [p 41 (.mv (.t 0)),
 p 42 (.mv (.t 5)),
 p 43 (.ia 6 (.t 41) (.t 42)),
 p 44 (.fa 3 (.t 43)),
 p 45 (.ld (.t 44)),
 p 46 (.mv (.t 1)),
 p 47 (.bin .neq (.t 45) (.t 46))])
 (.cond (.t 47) (.seq (.rg [p 4 (.mv (.k (.int .i64 (-1))))])
 .ret)
 .skip))
 (.seq (.rg [p 48 (.mv (.t 1)),
 p 49 (.bin .add (.t 48) (.k (.int .i64 1))),
 p 1 (.mv (.t 49))])
 (.seq (.seq (.rg [p 50 (.mv (.t 0)),
 p 51 (.mv (.t 5)),
 p 52 (.ia 6 (.t 50) (.t 51)),
 p 53 (.fa 4 (.t 52)),
 p 54 (.ld (.t 53)),
 p 55 (.mv (.t 1)),
 p 56 (.bin .rem (.t 55) (.k (.int .i64 3))),
 p 57 (.bin .eql (.t 56) (.k (.int .i64 0))),
 p 58 (.eqb true (.t 54) (.t 57))])
 (.cond (.t 58) (.seq (.rg [p 4 (.mv (.k (.int .i64 (-1))))])
 .ret)
 .skip))
 (.seq (.rg [p 59 (.mv (.t 1)),
 p 60 (.bin .add (.t 59) (.k (.int .i64 1))),
 p 1 (.mv (.t 60))])
 (.seq (.rg [p 61 (.mv (.t 0)),
 p 62 (.mv (.t 5)),
 p 63 (.ia 6 (.t 61) (.t 62)),
 p 64 (.fa 5 (.t 63)),
 p 65 (.ld (.t 64)),
 p 66 (.mv (.t 1)),
 p 67 (.call 380 [(.t 65), (.t 66)]),
 p 1 (.mv (.t 67))])
 (.seq (.rg [p 68 (.mv (.t 1)),
 p 69 (.bin .lss (.t 68) (.k (.int .i64 0)))])
 (.cond (.t 69) (.seq (.rg [p 4 (.mv (.k (.int .i64 (-1))))])
 .ret)
 .skip))))))))))))))
 (.rg [p 10 (.mv (.t 5)),
 p 11 (.bin .add (.t 10) (.k (.int .i64 1))),
 p 5 (.mv (.t 11))]))))))
 (.seq (.rg [p 70 (.mv (.t 1)),
 p 4 (.mv (.t 70))])
 .ret))),
 [.tmp 4]⟩
def F378 : Fnc := ⟨(.seq (.rg [p 0 (.new [.slice none 0 0, .slice none 0 0, .int .i64 0, .slice none 0 0])])
 (.seq (.rg [⟨(some 1), .mk 1 8 [.int .i64 0] (.k (.int .i64 192)) (.k (.int .i64 192)), none, true⟩,
 ⟨(some 2), .call 400 [], none, true⟩,
 p 3 (.bd [.slice none 0 0, .slice none 0 0, .int .i64 0, .slice none 0 0] [(0, 1, (.t 1)), (1, 3, (.t 2))]),
 ⟨none, .stn 4 (.t 0) (.t 3), none, false⟩])
 .ret)),
 [.celln 0 4]⟩
def F379 : Fnc := ⟨(.seq (.rg [p 2 (.box (.t 0)),
 p 4 (.mv (.k (.int .i64 0)))])
 (.seq (.rg [p 5 (.fa 0 (.t 2)),
 p 6 (.ld (.t 5)),
 p 7 (.mv (.t 1)),
 p 8 (.call 337 [(.t 6), (.t 7)]),
 p 1 (.mv (.t 8))])
 (.seq (.rg [p 9 (.fa 2 (.t 2)),
 p 10 (.ld (.t 9)),
 p 11 (.mv (.t 1)),
 p 12 (.call 337 [(.t 10), (.t 11)]),
 p 1 (.mv (.t 12))])
 (.seq (.rg [p 13 (.mv (.t 1)),
 p 4 (.mv (.t 13))])
 .ret)))),
 [.tmp 4]⟩
def F380 : Fnc := ⟨(.seq (.rg [p 4 (.mv (.k (.int .i64 0)))])
 (.seq (.seq (.rg [p 5 (.mv (.k (.int .i64 0)))])
 (.block 0 (.loop (.seq (.seq (.rg [p 6 (.mv (.t 5)),
 p 7 (.mv (.t 0)),
 p 8 (.len (.t 7)),
 p 9 (.bin .lss (.t 6) (.t 8))])
 (.cond (.t 9) .skip
 (.exit 0)))
 (.seq (.block 1 (.seq (.seq (.rg [p 12 (.mv (.t 0)),
 p 13 (.mv (.t 5)),
 p 14 (.ia 1 (.t 12) (.t 13)),
 p 15 (.ld (.t 14)),
 p 16 (.mv (.t 1)),
 p 17 (.bin .neq (.t 15) (.t 16))])
 (.cond (.t 17) (.seq (.rg [p 4 (.mv (.k (.int .i64 (-1))))])
 .ret)
 .skip))
 (.rg [p 18 (.mv (.t 1)),
 p 19 (.bin .add (.t 18) (.k (.int .i64 1))),
 p 1 (.mv (.t 19))])))
 (.rg [p 10 (.mv (.t 5)),
 p 11 (.bin .add (.t 10) (.k (.int .i64 1))),
 p 5 (.mv (.t 11))]))))))
 (.seq (.rg [p 20 (.mv (.t 1)),
 p 4 (.mv (.t 20))])
 .ret))),
 [.tmp 4]⟩
def F381 : Fnc := ⟨(.seq (.rg [p 2 (.box (.t 0)),
 p 4 (.mv (.k (.int .i64 0)))])
 (.seq (.rg [p 5 (.fa 0 (.t 2)),
 p 6 (.ld (.t 5)),
 p 7 (.mv (.t 1)),
 p 8 (.call 380 [(.t 6), (.t 7)]),
 p 1 (.mv (.t 8))])
 (.seq (.seq (.rg [p 9 (.mv (.t 1)),
 p 10 (.bin .lss (.t 9) (.k (.int .i64 0)))])
 (.cond (.t 10) (.seq (.rg [p 4 (.mv (.k (.int .i64 (-1))))])
 .ret)
 .skip))
 (.seq (.rg [p 11 (.fa 2 (.t 2)),
 p 12 (.ld (.t 11)),
 p 13 (.mv (.t 1)),
 p 14 (.call 380 [(.t 12), (.t 13)]),
 p 1 (.mv (.t 14))])
 (.seq (.seq (.rg [p 15 (.mv (.t 1)),
 p 16 (.bin .lss (.t 15) (.k (.int .i64 0)))])
 (.cond (.t 16) (.seq (.rg [p 4 (.mv (.k (.int .i64 (-1))))])
 .ret)
 .skip))
 (.seq (.rg [p 17 (.mv (.t 1)),
 p 4 (.mv (.t 17))])
 .ret)))))),
 [.tmp 4]⟩
def F388 : Fnc := ⟨(.seq (.rg [p 4 (.mv (.k (.int .i64 0)))])
 (.seq (.seq (.rg [p 5 (.mv (.k (.int .i64 0)))])
 (.block 0 (.loop (.seq (.seq (.rg [p 6 (.mv (.t 5)),
 p 7 (.mv (.t 0)),
 p 8 (.len (.t 7)),
 p 9 (.bin .lss (.t 6) (.t 8))])
 (.cond (.t 9) .skip
 (.exit 0)))
 (.seq (.block 1 (.seq (.rg [p 12 (.mv (.t 0)),
 p 13 (.mv (.t 5)),
 p 14 (.mv (.t 1)),
 p 15 (.ia 4 (.t 12) (.t 13)),
 p 16 (.fa 0 (.t 15)),
 ⟨none, .st (.t 16) (.t 14), none, false⟩])
 (.seq (.rg [p 17 (.mv (.t 1)),
 p 18 (.bin .add (.t 17) (.k (.int .i64 1))),
 p 1 (.mv (.t 18))])
 (.seq (.rg [p 19 (.mv (.t 0)),
 p 20 (.mv (.t 5)),
 p 21 (.mv (.t 1)),
 p 22 (.bin .rem (.t 21) (.k (.int .i64 3))),
 p 23 (.bin .eql (.t 22) (.k (.int .i64 0))),
 p 24 (.ia 4 (.t 19) (.t 20)),
 p 25 (.fa 1 (.t 24)),
 ⟨none, .st (.t 25) (.t 23), none, false⟩])
 (.seq (.rg [p 26 (.mv (.t 1)),
 p 27 (.bin .add (.t 26) (.k (.int .i64 1))),
 p 1 (.mv (.t 27))])
 (.seq (.rg [p 28 (.mv (.t 0)),
 p 29 (.mv (.t 5)),
 p 30 (.mv (.t 1)),
 p 31 (.ia 4 (.t 28) (.t 29)),
 p 32 (.fa 2 (.t 31)),
 ⟨none, .st (.t 32) (.t 30), none, false⟩])
 (.seq (.rg [p 33 (.mv (.t 1)),
 p 34 (.bin .add (.t 33) (.k (.int .i64 1))),
 p 1 (.mv (.t 34))])
 (.seq (.rg [p 35 (.mv (.t 0)),
 p 36 (.mv (.t 5)),
 p 37 (.mv (.t 1)),
 p 38 (.ia 4 (.t 35) (.t 36)),
 p 39 (.fa 3 (.t 38)),
 ⟨none, .st (.t 39) (.t 37), none, false⟩])
 (.rg [p 40 (.mv (.t 1)),
 p 41 (.bin .add (.t 40) (.k (.int .i64 1))),
 p 1 (.mv (.t 41))])))))))))
 (.rg [p 10 (.mv (.t 5)),
 p 11 (.bin .add (.t 10) (.k (.int .i64 1))),
 p 5 (.mv (.t 11))]))))))
 (.seq (.rg [p 42 (.mv (.t 1)),
 p 4 (.mv (.t 42))])
 .ret))),
 [.tmp 4]⟩
def F389 : Fnc := ⟨(.seq (.rg [p 4 (.mv (.k (.int .i64 0)))])
 (.seq (.seq (.rg [p 5 (.mv (.k (.int .i64 0)))])
 (.block 0 (.loop (.seq (.seq (.rg [p 6 (.mv (.t 5)),
 p 7 (.mv (.t 0)),
 p 8 (.len (.t 7)),
 p 9 (.bin .lss (.t 6) (.t 8))])
 (.cond (.t 9) .skip
 (.exit 0)))
 (.seq (.block 1 (.seq (.rg [p 12 (.mv (.t 0)),
 p 13 (.mv (.t 5)),
 p 14 (.ia 6 (.t 12) (.t 13)),
 p 15 (.fa 0 (.t 14)),
 p 16 (.ld (.t 15)),
 p 17 (.mv (.t 1)),
 p 18 (.call 375 [(.t 16), (.t 17)]),
 p 1 (.mv (.t 18))])
 (.seq (.rg [p 19 (.mv (.t 0)),
 p 20 (.mv (.t 5)),
 p 21 (.mv (.t 1)),
 p 22 (.ia 6 (.t 19) (.t 20)),
 p 23 (.fa 1 (.t 22)),
 ⟨none, .st (.t 23) (.t 21), none, false⟩])
 (.seq (.rg [p 24 (.mv (.t 1)),
 p 25 (.bin .add (.t 24) (.k (.int .i64 1))),
 p 1 (.mv (.t 25))])
 (.seq (.rg [p 26 (.mv (.t 0)),
 p 27 (.mv (.t 5)),
 p 28 (.mv (.t 1)),
 p 29 (.ia 6 (.t 26) (.t 27)),
 p 30 (.fa 2 (.t 29)),
 ⟨none, .st (.t 30) (.t 28), none, false⟩])
 (.seq (.rg [p 31 (.mv (.t 1)),
 p 32 (.bin .add (.t 31) (.k (.int .i64 1))),
 p 1 (.mv (.t 32))])
 (.seq (.rg [p 33 (.mv (.t 0)),
 p 34 (.mv (.t 5)),
 p 35 (.mv (.t 1)),
 p 36 (.ia 6 (.t 33) (.t 34)),
 p 37 (.fa 3 (.t 36)),
 ⟨none, .st (.t 37) (.t 35), none, false⟩])
 (.seq (.rg [p 38 (.mv (.t 1)),
 p 39 (.bin .add (.t 38) (.k (.int .i64 1))),
 p 1 (.mv (.t 39))])
 (.seq (.rg [p 40 (.mv (.t 0)),
 p 41 (.mv (.t 5)),
 p 42 (.mv (.t 1)),
 p 43 (.bin .rem (.t 42) (.k (.int .i64 3))),
 p 44 (.bin .eql (.t 43) (.k (.int .i64 0))),
 p 45 (.ia 6 (.t 40) (.t 41)),
 p 46 (.fa 4 (.t 45)),
 ⟨none, .st (.t 46) (.t 44), none, false⟩])
 (.seq (.rg [p 47 (.mv (.t 1)),
 p 48 (.bin .add (.t 47) (.k (.int .i64 1))),
 p 1 (.mv (.t 48))])
 (.seq (.rg [p 49 (.mv (.t 0)),
 p 50 (.mv (.t 5)),
 p 51 (.mv (.t 1)),
 p 52 (.bin .rem (.t 51) (.k (.int .i64 3))),
 p 53 (.bin .eql (.t 52) (.k (.int .i64 0))),
 p 54 (.ia 6 (.t 49) (.t 50)),
 p 55 (.fa 5 (.t 54)),
 ⟨none, .st (.t 55) (.t 53), none, false⟩])
 (.rg [p 56 (.mv (.t 1)),
 p 57 (.bin .add (.t 56) (.k (.int .i64 1))),
 p 1 (.mv (.t 57))]))))))))))))
 (.rg [p 10 (.mv (.t 5)),
 p 11 (.bin .add (.t 10) (.k (.int .i64 1))),
 p 5 (.mv (.t 11))]))))))
 (.seq (.rg [p 58 (.mv (.t 1)),
 p 4 (.mv (.t 58))])
 .ret))),
 [.tmp 4]⟩
def F390 : Fnc := ⟨(.seq (.rg [p 4 (.mv (.k (.int .i64 0)))])
 (.seq (.seq (.rg [p 5 (.mv (.k (.int .i64 0)))])
 (.block 0 (.loop (.seq (.seq (.rg [p 6 (.mv (.t 5)),
 p 7 (.mv (.t 0)),
 p 8 (.len (.t 7)),
 p 9 (.bin .lss (.t 6) (.t 8))])
 (.cond (.t 9) .skip
 (.exit 0)))
 (.seq (.block 1 (.seq (.rg [p 12 (.mv (.t 0)),
 p 13 (.mv (.t 5)),
 p 14 (.mv (.t 1)),
 p 15 (.ia 2 (.t 12) (.t 13)),
 p 16 (.fa 0 (.t 15)),
 ⟨none, .st (.t 16) (.t 14), none, false⟩])
 (.seq (.rg [p 17 (.mv (.t 1)),
 p 18 (.bin .add (.t 17) (.k (.int .i64 1))),
 p 1 (.mv (.t 18))])
 (.seq (.rg [p 19 (.mv (.t 0)),
 p 20 (.mv (.t 5)),
 p 21 (.mv (.t 1)),
 p 22 (.ia 2 (.t 19) (.t 20)),
 p 23 (.fa 1 (.t 22)),
 ⟨none, .st (.t 23) (.t 21), none, false⟩])
 (.rg [p 24 (.mv (.t 1)),
 p 25 (.bin .add (.t 24) (.k (.int .i64 1))),
 p 1 (.mv (.t 25))])))))
 (.rg [p 10 (.mv (.t 5)),
 p 11 (.bin .add (.t 10) (.k (.int .i64 1))),
 p 5 (.mv (.t 11))]))))))
 (.seq (.rg [p 26 (.mv (.t 1)),
 p 4 (.mv (.t 26))])
 .ret))),
 [.tmp 4]⟩
def F391 : Fnc := ⟨(.seq (.rg [p 2 (.box (.t 0)),
 p 4 (.mv (.k (.int .i64 0)))])
 (.seq (.rg [p 5 (.fa 0 (.t 2)),
 p 6 (.ld (.t 5)),
 p 7 (.mv (.t 1)),
 p 8 (.call 404 [(.t 6), (.t 7)]),
 p 1 (.mv (.t 8))])
 (.seq (.seq (.rg [p 9 (.mv (.t 1)),
 p 10 (.bin .lss (.t 9) (.k (.int .i64 0)))])
 (.cond (.t 10) (.seq (.rg [p 4 (.mv (.k (.int .i64 (-1))))])
 .ret)
 .skip))
 (.seq (.rg [p 11 (.mv (.t 1)),
 p 4 (.mv (.t 11))])
 .ret)))),
 [.tmp 4]⟩
def F392 : Fnc := ⟨(.seq (.rg [p 4 (.mv (.k (.int .i64 0)))])
 (.seq (.seq (.rg [p 5 (.mv (.k (.int .i64 0)))])
 (.block 0 (.loop (.seq (.seq (.rg [p 6 (.mv (.t 5)),
 p 7 (.mv (.t 0)),
 p 8 (.len (.t 7)),
 p 9 (.bin .lss (.t 6) (.t 8))])
 (.cond (.t 9) .skip
 (.exit 0)))
 (.seq (.block 1 (.seq (.rg [p 12 (.mv (.t 0)),
 p 13 (.mv (.t 5)),
 p 14 (.ia 6 (.t 12) (.t 13)),
 p 15 (.fa 0 (.t 14)),
 p 16 (.ld (.t 15)),
 p 17 (.mv (.t 1)),
 p 18 (.call 376 [(.t 16), (.t 17)]),
 p 1 (.mv (.t 18))])
 (.seq (.seq (.rg [p 19 (.mv (.t 1)),
 p 20 (.bin .lss (.t 19) (.k (.int .i64 0)))])
 (.cond (.t 20) (.seq (.rg [p 4 (.mv (.k (.int .i64 (-1))))])
 .ret)
 .skip))
 (.seq (.seq (.rg [p 21 (.mv (.t 0)),
 p 22 (.mv (.t 5)),
 p 23 (.ia 6 (.t 21) (.t 22)),
 p 24 (.fa 1 (.t 23)),
 p 25 (.ld (.t 24)),
 p 26 (.mv (.t 1)),
 p 27 (.bin .neq (.t 25) (.t 26))])
 (.cond (.t 27) (.seq (.rg [p 4 (.mv (.k (.int .i64 (-1))))])
 .ret)
 .skip))
 (.seq (.rg [p 28 (.mv (.t 1)),
 p 29 (.bin .add (.t 28) (.k (.int .i64 1))),
 p 1 (.mv (.t 29))])
 (.seq (.seq (.rg [p 30 (.mv (.t 0)),
 p 31 (.mv (.t 5)),
 p 32 (.ia 6 (.t 30) (.t 31)),
 p 33 (.fa 2 (.t 32)),
 p 34 (.ld (.t 33)),
 p 35 (.mv (.t 1)),
 p 36 (.bin .neq (.t 34) (.t 35))])
 (.cond (.t 36) (.seq (.rg [p 4 (.mv (.k (.int .i64 (-1))))])
 .ret)
 .skip))
 (.seq (.rg [p 37 (.mv (.t 1)),
 p 38 (.bin .add (.t 37) (.k (.int .i64 1))),
 p 1 (.mv (.t 38))])
 (.seq (.seq (.rg [p 39 (.mv (.t 0)),
 p 40 (.mv (.t 5)),
 p 41 (.ia 6 (.t 39) (.t 40)),
 p 42 (.fa 3 (.t 41)),
 p 43 (.ld (.t 42)),
 p 44 (.mv (.t 1)),
 p 45 (.bin .neq (.t 43) (.t 44))])
 (.cond (.t 45) (.seq (.rg [p 4 (.mv (.k (.int .i64 (-1))))])
 .ret)
 .skip))
 (.seq (.rg [p 46 (.mv (.t 1)),
 p 47 (.bin .add (.t 46) (.k (.int .i64 1))),
 p 1 (.mv (.t 47))])
 (.seq (.seq (.rg [p 48 (.mv (.t 0)),
 p 49 (.mv (.t 5)),
 p 50 (.ia 6 (.t 48) (.t 49)),
 p 51 (.fa 4 (.t 50)),
 p 52 (.ld (.t 51)),
 p 53 (.mv (.t 1)),
 p 54 (.bin .rem (.t 53) (.k (.int .i64 3))),
 p 55 (.bin .eql (.t 54) (.k (.int .i64 0))),
 p 56 (.eqb true (.t 52) (.t 55))])
 (.cond (.t 56) (.seq (.rg [p 4 (.mv (.k (.int .i64 (-1))))])
 .ret)
 .skip))
 (.seq (.rg [p 57 (.mv (.t 1)),
 p 58 (.bin .add (.t 57) (.k (.int .i64 1))),
 p 1 (.mv (.t 58))])
 (.seq (.seq (.rg [p 59 (.mv (.t 0)),
 p 60 (.mv (.t 5)),
 p 61 (.ia 6 (.t 59) (.t 60)),
 p 62 (.fa 5 (.t 61)),
 p 63 (.ld (.t 62)),
 p 64 (.mv (.t 1)),
 p 65 (.bin .rem (.t 64) (.k (.int .i64 3))),
 p 66 (.bin .eql (.t 65) (.k (.int .i64 0))),
 p 67 (.eqb true (.t 63) (.t 66))])
 (.cond (.t 67) (.seq (.rg [p 4 (.mv (.k (.int .i64 (-1))))])
 .ret)
 .skip))
 (.rg [p 68 (.mv (.t 1)),
 p 69 (.bin .add (.t 68) (.k (.int .i64 1))),
 p 1 (.mv (.t 69))])))))))))))))
 (.rg [p 10 (.mv (.t 5)),
 p 11 (.bin .add (.t 10) (.k (.int .i64 1))),
 p 5 (.mv (.t 11))]))))))
 (.seq (.rg [p 70 (.mv (.t 1)),
 p 4 (.mv (.t 70))])
 .ret))),
 [.tmp 4]⟩
def F393 : Fnc := ⟨(.seq (.rg [p 4 (.mv (.k (.int .i64 0)))])
 (.seq (.seq (.rg [p 5 (.mv (.k (.int .i64 0)))])
 (.block 0 (.loop (.seq (.seq (.rg [p 6 (.mv (.t 5)),
 p 7 (.mv (.t 0)),
 p 8 (.len (.t 7)),
 p 9 (.bin .lss (.t 6) (.t 8))])
 (.cond (.t 9) .skip
 (.exit 0)))
 (.seq (.block 1 (.seq (.seq (.rg [p 12 (.mv (.t 0)),
 p 13 (.mv (.t 5)),
 p 14 (.ia 2 (.t 12) (.t 13)),
 p 15 (.fa 0 (.t 14)),
 p 16 (.ld (.t 15)),
 p 17 (.mv (.t 1)),
 p 18 (.bin .neq (.t 16) (.t 17))])
 (.cond (.t 18) (.seq (.rg [p 4 (.mv (.k (.int .i64 (-1))))])
 .ret)
 .skip))
 (.seq (.rg [p 19 (.mv (.t 1)),
 p 20 (.bin .add (.t 19) (.k (.int .i64 1))),
 p 1 (.mv (.t 20))])
 (.seq (.seq (.rg [p 21 (.mv (.t 0)),
 p 22 (.mv (.t 5)),
 p 23 (.ia 2 (.t 21) (.t 22)),
 p 24 (.fa 1 (.t 23)),
 p 25 (.ld (.t 24)),
 p 26 (.mv (.t 1)),
 p 27 (.bin .neq (.t 25) (.t 26))])
 (.cond (.t 27) (.seq (.rg [p 4 (.mv (.k (.int .i64 (-1))))])
 .ret)
 .skip))
 (.rg [p 28 (.mv (.t 1)),
 p 29 (.bin .add (.t 28) (.k (.int .i64 1))),
 p 1 (.mv (.t 29))])))))
 (.rg [p 10 (.mv (.t 5)),
 p 11 (.bin .add (.t 10) (.k (.int .i64 1))),
 p 5 (.mv (.t 11))]))))))
 (.seq (.rg [p 30 (.mv (.t 1)),
 p 4 (.mv (.t 30))])
 .ret))),
 [.tmp 4]⟩
def F400 : Fnc := ⟨(.seq (.rg [p 0 (.new [.slice none 0 0, .int .i64 0, .slice none 0 0])])
 (.seq (.rg [p 1 (.mk 1 8 [.int .i64 0] (.k (.int .i64 4)) (.k (.int .i64 4))),
 p 2 (.bd [.slice none 0 0, .int .i64 0, .slice none 0 0] [(0, 1, (.t 1))]),
 ⟨none, .stn 3 (.t 0) (.t 2), none, false⟩])
 .ret)),
 [.celln 0 3]⟩
def F404 : Fnc := ⟨(.seq (.rg [p 4 (.mv (.k (.int .i64 0)))])
 (.seq (.seq (.rg [p 5 (.mv (.k (.int .i64 0)))])
 (.block 0 (.loop (.seq (.seq (.rg [p 6 (.mv (.t 5)),
 p 7 (.mv (.t 0)),
 p 8 (.len (.t 7)),
 p 9 (.bin .lss (.t 6) (.t 8))])
 (.cond (.t 9) .skip
 (.exit 0)))
 (.seq (.block 1 (.seq (.seq (.rg [p 12 (.mv (.t 0)),
 p 13 (.mv (.t 5)),
 p 14 (.ia 4 (.t 12) (.t 13)),
 p 15 (.fa 0 (.t 14)),
 p 16 (.ld (.t 15)),
 p 17 (.mv (.t 1)),
 p 18 (.bin .neq (.t 16) (.t 17))])
 (.cond (.t 18) (.seq (.rg [p 4 (.mv (.k (.int .i64 (-1))))])
 .ret)
 .skip))
 (.seq (.rg [p 19 (.mv (.t 1)),
 p 20 (.bin .add (.t 19) (.k (.int .i64 1))),
 p 1 (.mv (.t 20))])
 (.seq (.seq (.rg [p 21 (.mv (.t 0)),
 p 22 (.mv (.t 5)),
 p 23 (.ia 4 (.t 21) (.t 22)),
 p 24 (.fa 1 (.t 23)),
 p 25 (.ld (.t 24)),
 p 26 (.mv (.t 1)),
 p 27 (.bin .rem (.t 26) (.k (.int .i64 3))),
 p 28 (.bin .eql (.t 27) (.k (.int .i64 0))),
 p 29 (.eqb true (.t 25) (.t 28))])
 (.cond (.t 29) (.seq (.rg [p 4 (.mv (.k (.int .i64 (-1))))])
 .ret)
 .skip))
 (.seq (.rg [p 30 (.mv (.t 1)),
 p 31 (.bin .add (.t 30) (.k (.int .i64 1))),
 p 1 (.mv (.t 31))])
 (.seq (.seq (.rg [p 32 (.mv (.t 0)),
 p 33 (.mv (.t 5)),
 p 34 (.ia 4 (.t 32) (.t 33)),
 p 35 (.fa 2 (.t 34)),
 p 36 (.ld (.t 35)),
 p 37 (.mv (.t 1)),
 p 38 (.bin .neq (.t 36) (.t 37))])
 (.cond (.t 38) (.seq (.rg [p 4 (.mv (.k (.int .i64 (-1))))])
 .ret)
 .skip))
 (.seq (.rg [p 39 (.mv (.t 1)),
 p 40 (.bin .add (.t 39) (.k (.int .i64 1))),
 p 1 (.mv (.t 40))])
 (.seq (.seq (.rg [p 41 (.mv (.t 0)),
 p 42 (.mv (.t 5)),
 p 43 (.ia 4 (.t 41) (.t 42)),
 p 44 (.fa 3 (.t 43)),
 p 45 (.ld (.t 44)),
 p 46 (.mv (.t 1)),
 p 47 (.bin .neq (.t 45) (.t 46))])
 (.cond (.t 47) (.seq (.rg [p 4 (.mv (.k (.int .i64 (-1))))])
 .ret)
 .skip))
 (.rg [p 48 (.mv (.t 1)),
 p 49 (.bin .add (.t 48) (.k (.int .i64 1))),
 p 1 (.mv (.t 49))])))))))))
 (.rg [p 10 (.mv (.t 5)),
 p 11 (.bin .add (.t 10) (.k (.int .i64 1))),
 p 5 (.mv (.t 11))]))))))
 (.seq (.rg [p 50 (.mv (.t 1)),
 p 4 (.mv (.t 50))])
 .ret))),
 [.tmp 4]⟩
end Go.Proofs.Ytdialnejieoelaa.AL
