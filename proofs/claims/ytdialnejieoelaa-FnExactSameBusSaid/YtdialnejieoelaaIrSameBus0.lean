/- Functions in the small language, printed by program. -/
import Derived.Test.YtdialnejieoelaaAl0
namespace Go.Proofs.Ytdialnejieoelaa.AL
open Go

def F70 : Fnc := ⟨(.seq (.rg [p 2 (.box (.t 0)),
 p 3 (.box (.t 1)),
 p 4 (.mv (.k (.bool false)))])
 (.seq (.rg [p 5 (.fa 0 (.t 2)),
 p 6 (.ld (.t 5)),
 p 7 (.fa 0 (.t 3)),
 p 8 (.ld (.t 7)),
 p 9 (.call 263 [(.t 6), (.t 8), (.k (.func (.func 71) #[] #[]))]),
 p 10 (.mv (.t 9)),
 ⟨(some 11), .fa 1 (.t 2), (some (10, true)), false⟩,
 ⟨(some 12), .ld (.t 11), (some (10, true)), false⟩,
 ⟨(some 13), .fa 1 (.t 3), (some (10, true)), false⟩,
 ⟨(some 14), .ld (.t 13), (some (10, true)), false⟩,
 ⟨(some 15), .bin .eql (.t 12) (.t 14), (some (10, true)), false⟩,
 p 16 (.pick (.t 10) (.t 15) (.k (.bool false))),
 p 17 (.mv (.t 16)),
 ⟨(some 18), .fa 2 (.t 2), (some (17, true)), false⟩,
 ⟨(some 19), .ld (.t 18), (some (17, true)), false⟩,
 ⟨(some 20), .fa 2 (.t 3), (some (17, true)), false⟩,
 ⟨(some 21), .ld (.t 20), (some (17, true)), false⟩,
 ⟨(some 22), .bin .eql (.t 19) (.t 21), (some (17, true)), false⟩,
 p 23 (.pick (.t 17) (.t 22) (.k (.bool false))),
 p 24 (.mv (.t 23)),
 ⟨(some 25), .fa 3 (.t 2), (some (24, true)), false⟩,
 ⟨(some 26), .ld (.t 25), (some (24, true)), false⟩,
 ⟨(some 27), .fa 3 (.t 3), (some (24, true)), false⟩,
 ⟨(some 28), .ld (.t 27), (some (24, true)), false⟩,
 ⟨(some 29), .bin .eql (.t 26) (.t 28), (some (24, true)), false⟩,
 p 30 (.pick (.t 24) (.t 29) (.k (.bool false))),
 p 31 (.mv (.t 30)),
 ⟨(some 32), .fa 4 (.t 2), (some (31, true)), false⟩,
 ⟨(some 33), .ld (.t 32), (some (31, true)), false⟩,
 ⟨(some 34), .fa 4 (.t 3), (some (31, true)), false⟩,
 ⟨(some 35), .ld (.t 34), (some (31, true)), false⟩,
 ⟨(some 36), .eqb false (.t 33) (.t 35), (some (31, true)), false⟩,
 p 37 (.pick (.t 31) (.t 36) (.k (.bool false))),
 p 38 (.mv (.t 37)),
 ⟨(some 39), .fa 5 (.t 2), (some (38, true)), false⟩,
 ⟨(some 40), .ld (.t 39), (some (38, true)), false⟩,
 ⟨(some 41), .fa 5 (.t 3), (some (38, true)), false⟩,
 ⟨(some 42), .ld (.t 41), (some (38, true)), false⟩,
 ⟨(some 43), .eqb false (.t 40) (.t 42), (some (38, true)), false⟩,
 p 44 (.pick (.t 38) (.t 43) (.k (.bool false))),
 p 4 (.mv (.t 44))])
 .ret)),
 [.tmp 4]⟩

def F71 : Fnc := ⟨(.seq (.rg [p 2 (.box (.t 0)),
 p 3 (.box (.t 1)),
 p 4 (.mv (.k (.bool false)))])
 (.seq (.rg [p 5 (.fa 0 (.t 2)),
 p 6 (.ld (.t 5)),
 p 7 (.fa 0 (.t 3)),
 p 8 (.ld (.t 7)),
 p 9 (.eqb false (.t 6) (.t 8)),
 p 10 (.mv (.t 9)),
 ⟨(some 11), .fa 1 (.t 2), (some (10, true)), false⟩,
 ⟨(some 12), .ld (.t 11), (some (10, true)), false⟩,
 ⟨(some 13), .fa 1 (.t 3), (some (10, true)), false⟩,
 ⟨(some 14), .ld (.t 13), (some (10, true)), false⟩,
 ⟨(some 15), .bin .eql (.t 12) (.t 14), (some (10, true)), false⟩,
 p 16 (.pick (.t 10) (.t 15) (.k (.bool false))),
 p 17 (.mv (.t 16)),
 ⟨(some 18), .fa 2 (.t 2), (some (17, true)), false⟩,
 ⟨(some 19), .ld (.t 18), (some (17, true)), false⟩,
 ⟨(some 20), .fa 2 (.t 3), (some (17, true)), false⟩,
 ⟨(some 21), .ld (.t 20), (some (17, true)), false⟩,
 ⟨(some 22), .bin .eql (.t 19) (.t 21), (some (17, true)), false⟩,
 p 23 (.pick (.t 17) (.t 22) (.k (.bool false))),
 p 24 (.mv (.t 23)),
 ⟨(some 25), .fa 3 (.t 2), (some (24, true)), false⟩,
 ⟨(some 26), .ld (.t 25), (some (24, true)), false⟩,
 ⟨(some 27), .fa 3 (.t 3), (some (24, true)), false⟩,
 ⟨(some 28), .ld (.t 27), (some (24, true)), false⟩,
 ⟨(some 29), .bin .eql (.t 26) (.t 28), (some (24, true)), false⟩,
 p 30 (.pick (.t 24) (.t 29) (.k (.bool false))),
 p 31 (.mv (.t 30)),
 ⟨(some 32), .fa 4 (.t 2), (some (31, true)), false⟩,
 ⟨(some 33), .ld (.t 32), (some (31, true)), false⟩,
 ⟨(some 34), .fa 4 (.t 3), (some (31, true)), false⟩,
 ⟨(some 35), .ld (.t 34), (some (31, true)), false⟩,
 ⟨(some 36), .eqb false (.t 33) (.t 35), (some (31, true)), false⟩,
 p 37 (.pick (.t 31) (.t 36) (.k (.bool false))),
 p 38 (.mv (.t 37)),
 ⟨(some 39), .fa 5 (.t 2), (some (38, true)), false⟩,
 ⟨(some 40), .ld (.t 39), (some (38, true)), false⟩,
 ⟨(some 41), .fa 5 (.t 3), (some (38, true)), false⟩,
 ⟨(some 42), .ld (.t 41), (some (38, true)), false⟩,
 ⟨(some 43), .call 264 [(.t 40), (.t 42)], (some (38, true)), false⟩,
 p 44 (.pick (.t 38) (.t 43) (.k (.bool false))),
 p 4 (.mv (.t 44))])
 .ret)),
 [.tmp 4]⟩

def F124 : Fnc := ⟨(.seq (.rg [p 2 (.box (.t 0)),
 p 3 (.box (.t 1)),
 p 4 (.mv (.k (.bool false)))])
 (.seq (.seq (.rg [p 5 (.fa 0 (.t 2)),
 p 6 (.ld (.t 5)),
 p 7 (.fa 0 (.t 3)),
 p 8 (.ld (.t 7)),
 p 9 (.eqb true (.t 6) (.t 8))])
 (.cond (.t 9) (.seq (.rg [p 4 (.mv (.k (.bool false)))])
 .ret)
 .skip))
 (.seq (.seq (.rg [p 10 (.fa 1 (.t 2)),
 p 11 (.ld (.t 10)),
 p 12 (.fa 1 (.t 3)),
 p 13 (.ld (.t 12)),
 p 14 (.bin .neq (.t 11) (.t 13))])
 (.cond (.t 14) (.seq (.rg [p 4 (.mv (.k (.bool false)))])
 .ret)
 .skip))
 (.seq (.seq (.rg [p 15 (.fa 2 (.t 2)),
 p 16 (.ld (.t 15)),
 p 17 (.fa 2 (.t 3)),
 p 18 (.ld (.t 17)),
 p 19 (.bin .neq (.t 16) (.t 18))])
 (.cond (.t 19) (.seq (.rg [p 4 (.mv (.k (.bool false)))])
 .ret)
 .skip))
 (.seq (.seq (.rg [p 20 (.fa 3 (.t 2)),
 p 21 (.ld (.t 20)),
 p 22 (.fa 3 (.t 3)),
 p 23 (.ld (.t 22)),
 p 24 (.eqb true (.t 21) (.t 23))])
 (.cond (.t 24) (.seq (.rg [p 4 (.mv (.k (.bool false)))])
 .ret)
 .skip))
 (.seq (.seq (.rg [p 25 (.fa 4 (.t 2)),
 p 26 (.ld (.t 25)),
 p 27 (.fa 4 (.t 3)),
 p 28 (.ld (.t 27)),
 p 29 (.bin .neq (.t 26) (.t 28))])
 (.cond (.t 29) (.seq (.rg [p 4 (.mv (.k (.bool false)))])
 .ret)
 .skip))
 (.seq (.seq (.rg [p 30 (.fa 5 (.t 2)),
 p 31 (.ld (.t 30)),
 p 32 (.fa 5 (.t 3)),
 p 33 (.ld (.t 32)),
 p 34 (.bin .neq (.t 31) (.t 33))])
 (.cond (.t 34) (.seq (.rg [p 4 (.mv (.k (.bool false)))])
 .ret)
 .skip))
 (.seq (.seq (.rg [p 35 (.fa 6 (.t 2)),
 p 36 (.ld (.t 35)),
 p 37 (.fa 6 (.t 3)),
 p 38 (.ld (.t 37)),
 p 39 (.bin .neq (.t 36) (.t 38))])
 (.cond (.t 39) (.seq (.rg [p 4 (.mv (.k (.bool false)))])
 .ret)
 .skip))
 (.seq (.seq (.rg [p 40 (.fa 7 (.t 2)),
 p 41 (.ld (.t 40)),
 p 42 (.fa 7 (.t 3)),
 p 43 (.ld (.t 42)),
 p 44 (.eqb true (.t 41) (.t 43))])
 (.cond (.t 44) (.seq (.rg [p 4 (.mv (.k (.bool false)))])
 .ret)
 .skip))
 (.seq (.rg [p 4 (.mv (.k (.bool true)))])
 .ret)))))))))),
 [.tmp 4]⟩

def F125 : Fnc := ⟨(.seq (.rg [p 2 (.box (.t 0)),
 p 3 (.box (.t 1)),
 p 4 (.mv (.k (.bool false)))])
 (.seq (.seq (.rg [p 5 (.fa 0 (.t 2)),
 p 6 (.ld (.t 5)),
 p 7 (.fa 0 (.t 3)),
 p 8 (.ld (.t 7)),
 p 9 (.bin .neq (.t 6) (.t 8))])
 (.cond (.t 9) (.seq (.rg [p 4 (.mv (.k (.bool false)))])
 .ret)
 .skip))
 (.seq (.seq (.rg [p 10 (.fa 1 (.t 2)),
 p 11 (.ld (.t 10)),
 p 12 (.fa 1 (.t 3)),
 p 13 (.ld (.t 12)),
 p 14 (.bin .neq (.t 11) (.t 13))])
 (.cond (.t 14) (.seq (.rg [p 4 (.mv (.k (.bool false)))])
 .ret)
 .skip))
 (.seq (.rg [p 4 (.mv (.k (.bool true)))])
 .ret)))),
 [.tmp 4]⟩

def F126 : Fnc := ⟨(.seq (.rg [p 4 (.mv (.k (.bool false)))])
 (.seq (.seq (.rg [p 6 (.mv (.t 0)),
 p 7 (.len (.t 6)),
 p 8 (.mv (.t 1)),
 p 9 (.len (.t 8)),
 p 10 (.bin .neq (.t 7) (.t 9))])
 (.cond (.t 10) (.seq (.rg [p 4 (.mv (.k (.bool false)))])
 .ret)
 .skip))
 (.seq (.seq (.rg [p 5 (.mv (.k (.int .i64 0)))])
 (.block 0 (.loop (.seq (.seq (.rg [p 11 (.mv (.t 5)),
 p 12 (.mv (.t 0)),
 p 13 (.len (.t 12)),
 p 14 (.bin .lss (.t 11) (.t 13))])
 (.cond (.t 14) .skip
 (.exit 0)))
 (.seq (.block 1 (.seq (.rg [⟨(some 17), .mv (.t 0), none, true⟩,
 ⟨(some 18), .mv (.t 5), none, true⟩,
 ⟨(some 19), .ia 2 (.t 17) (.t 18), none, true⟩,
 ⟨(some 20), .ldn 2 (.t 19), none, true⟩,
 ⟨(some 21), .mv (.t 1), none, true⟩,
 ⟨(some 22), .mv (.t 5), none, true⟩,
 ⟨(some 23), .ia 2 (.t 21) (.t 22), none, true⟩,
 ⟨(some 24), .ldn 2 (.t 23), none, true⟩,
 p 25 (.call 125 [(.t 20), (.t 24)]),
 p 26 (.not (.t 25))])
 (.cond (.t 26) (.seq (.rg [p 4 (.mv (.k (.bool false)))])
 .ret)
 .skip)))
 (.rg [p 15 (.mv (.t 5)),
 p 16 (.bin .add (.t 15) (.k (.int .i64 1))),
 p 5 (.mv (.t 16))]))))))
 (.seq (.rg [p 4 (.mv (.k (.bool true)))])
 .ret)))),
 [.tmp 4]⟩

def F127 : Fnc := ⟨(.seq (.rg [p 2 (.box (.t 0)),
 p 3 (.box (.t 1)),
 p 4 (.mv (.k (.bool false)))])
 (.seq (.seq (.rg [p 5 (.fa 0 (.t 2)),
 p 6 (.ldn 6 (.t 5)),
 p 7 (.fa 0 (.t 3)),
 p 8 (.ldn 6 (.t 7)),
 p 9 (.call 128 [(.t 6), (.t 8)]),
 p 10 (.not (.t 9))])
 (.cond (.t 10) (.seq (.rg [p 4 (.mv (.k (.bool false)))])
 .ret)
 .skip))
 (.seq (.seq (.rg [p 11 (.fa 6 (.t 2)),
 p 12 (.ld (.t 11)),
 p 13 (.fa 6 (.t 3)),
 p 14 (.ld (.t 13)),
 p 15 (.bin .neq (.t 12) (.t 14))])
 (.cond (.t 15) (.seq (.rg [p 4 (.mv (.k (.bool false)))])
 .ret)
 .skip))
 (.seq (.seq (.rg [p 16 (.fa 7 (.t 2)),
 p 17 (.ld (.t 16)),
 p 18 (.fa 7 (.t 3)),
 p 19 (.ld (.t 18)),
 p 20 (.call 137 [(.t 17), (.t 19)]),
 p 21 (.not (.t 20))])
 (.cond (.t 21) (.seq (.rg [p 4 (.mv (.k (.bool false)))])
 .ret)
 .skip))
 (.seq (.seq (.rg [p 22 (.fa 8 (.t 2)),
 p 23 (.ldn 2 (.t 22)),
 p 24 (.fa 8 (.t 3)),
 p 25 (.ldn 2 (.t 24)),
 p 26 (.call 140 [(.t 23), (.t 25)]),
 p 27 (.not (.t 26))])
 (.cond (.t 27) (.seq (.rg [p 4 (.mv (.k (.bool false)))])
 .ret)
 .skip))
 (.seq (.seq (.rg [p 28 (.fa 10 (.t 2)),
 p 29 (.ld (.t 28)),
 p 30 (.fa 10 (.t 3)),
 p 31 (.ld (.t 30)),
 p 32 (.call 126 [(.t 29), (.t 31)]),
 p 33 (.not (.t 32))])
 (.cond (.t 33) (.seq (.rg [p 4 (.mv (.k (.bool false)))])
 .ret)
 .skip))
 (.seq (.seq (.rg [p 34 (.fa 11 (.t 2)),
 p 35 (.ld (.t 34)),
 p 36 (.fa 11 (.t 3)),
 p 37 (.ld (.t 36)),
 p 38 (.call 132 [(.t 35), (.t 37)]),
 p 39 (.not (.t 38))])
 (.cond (.t 39) (.seq (.rg [p 4 (.mv (.k (.bool false)))])
 .ret)
 .skip))
 (.seq (.seq (.rg [p 40 (.fa 12 (.t 2)),
 p 41 (.ld (.t 40)),
 p 42 (.fa 12 (.t 3)),
 p 43 (.ld (.t 42)),
 p 44 (.bin .neq (.t 41) (.t 43))])
 (.cond (.t 44) (.seq (.rg [p 4 (.mv (.k (.bool false)))])
 .ret)
 .skip))
 (.seq (.seq (.rg [p 45 (.fa 13 (.t 2)),
 p 46 (.ld (.t 45)),
 p 47 (.fa 13 (.t 3)),
 p 48 (.ld (.t 47)),
 p 49 (.bin .neq (.t 46) (.t 48))])
 (.cond (.t 49) (.seq (.rg [p 4 (.mv (.k (.bool false)))])
 .ret)
 .skip))
 (.seq (.seq (.rg [p 50 (.fa 14 (.t 2)),
 p 51 (.ld (.t 50)),
 p 52 (.fa 14 (.t 3)),
 p 53 (.ld (.t 52)),
 p 54 (.bin .neq (.t 51) (.t 53))])
 (.cond (.t 54) (.seq (.rg [p 4 (.mv (.k (.bool false)))])
 .ret)
 .skip))
 (.seq (.seq (.rg [p 55 (.fa 15 (.t 2)),
 p 56 (.ldn 8 (.t 55)),
 p 57 (.fa 15 (.t 3)),
 p 58 (.ldn 8 (.t 57)),
 p 59 (.call 124 [(.t 56), (.t 58)]),
 p 60 (.not (.t 59))])
 (.cond (.t 60) (.seq (.rg [p 4 (.mv (.k (.bool false)))])
 .ret)
 .skip))
 (.seq (.seq (.rg [p 61 (.fa 23 (.t 2)),
 p 62 (.ldn 8 (.t 61)),
 p 63 (.fa 23 (.t 3)),
 p 64 (.ldn 8 (.t 63)),
 p 65 (.call 124 [(.t 62), (.t 64)]),
 p 66 (.not (.t 65))])
 (.cond (.t 66) (.seq (.rg [p 4 (.mv (.k (.bool false)))])
 .ret)
 .skip))
 (.seq (.seq (.rg [p 67 (.fa 31 (.t 2)),
 p 68 (.ldn 4 (.t 67)),
 p 69 (.fa 31 (.t 3)),
 p 70 (.ldn 4 (.t 69)),
 p 71 (.call 135 [(.t 68), (.t 70)]),
 p 72 (.not (.t 71))])
 (.cond (.t 72) (.seq (.rg [p 4 (.mv (.k (.bool false)))])
 .ret)
 .skip))
 (.seq (.seq (.rg [p 73 (.fa 35 (.t 2)),
 p 74 (.ld (.t 73)),
 p 75 (.fa 35 (.t 3)),
 p 76 (.ld (.t 75)),
 p 77 (.bin .neq (.t 74) (.t 76))])
 (.cond (.t 77) (.seq (.rg [p 4 (.mv (.k (.bool false)))])
 .ret)
 .skip))
 (.seq (.seq (.rg [p 78 (.fa 36 (.t 2)),
 p 79 (.ld (.t 78)),
 p 80 (.fa 36 (.t 3)),
 p 81 (.ld (.t 80)),
 p 82 (.call 131 [(.t 79), (.t 81)]),
 p 83 (.not (.t 82))])
 (.cond (.t 83) (.seq (.rg [p 4 (.mv (.k (.bool false)))])
 .ret)
 .skip))
 (.seq (.rg [p 4 (.mv (.k (.bool true)))])
 .ret)))))))))))))))),
 [.tmp 4]⟩

def F128 : Fnc := ⟨(.seq (.rg [p 2 (.box (.t 0)),
 p 3 (.box (.t 1)),
 p 4 (.mv (.k (.bool false)))])
 (.seq (.seq (.rg [p 5 (.fa 0 (.t 2)),
 p 6 (.ld (.t 5)),
 p 7 (.fa 0 (.t 3)),
 p 8 (.ld (.t 7)),
 p 9 (.call 134 [(.t 6), (.t 8)]),
 p 10 (.not (.t 9))])
 (.cond (.t 10) (.seq (.rg [p 4 (.mv (.k (.bool false)))])
 .ret)
 .skip))
 (.seq (.seq (.rg [p 11 (.fa 1 (.t 2)),
 p 12 (.ld (.t 11)),
 p 13 (.fa 1 (.t 3)),
 p 14 (.ld (.t 13)),
 p 15 (.bin .neq (.t 12) (.t 14))])
 (.cond (.t 15) (.seq (.rg [p 4 (.mv (.k (.bool false)))])
 .ret)
 .skip))
 (.seq (.seq (.rg [p 16 (.fa 2 (.t 2)),
 p 17 (.ld (.t 16)),
 p 18 (.fa 2 (.t 3)),
 p 19 (.ld (.t 18)),
 p 20 (.bin .neq (.t 17) (.t 19))])
 (.cond (.t 20) (.seq (.rg [p 4 (.mv (.k (.bool false)))])
 .ret)
 .skip))
 (.seq (.seq (.rg [p 21 (.fa 3 (.t 2)),
 p 22 (.ld (.t 21)),
 p 23 (.fa 3 (.t 3)),
 p 24 (.ld (.t 23)),
 p 25 (.bin .neq (.t 22) (.t 24))])
 (.cond (.t 25) (.seq (.rg [p 4 (.mv (.k (.bool false)))])
 .ret)
 .skip))
 (.seq (.seq (.rg [p 26 (.fa 4 (.t 2)),
 p 27 (.ld (.t 26)),
 p 28 (.fa 4 (.t 3)),
 p 29 (.ld (.t 28)),
 p 30 (.bin .neq (.t 27) (.t 29))])
 (.cond (.t 30) (.seq (.rg [p 4 (.mv (.k (.bool false)))])
 .ret)
 .skip))
 (.seq (.seq (.rg [p 31 (.fa 5 (.t 2)),
 p 32 (.ld (.t 31)),
 p 33 (.fa 5 (.t 3)),
 p 34 (.ld (.t 33)),
 p 35 (.bin .neq (.t 32) (.t 34))])
 (.cond (.t 35) (.seq (.rg [p 4 (.mv (.k (.bool false)))])
 .ret)
 .skip))
 (.seq (.rg [p 4 (.mv (.k (.bool true)))])
 .ret)))))))),
 [.tmp 4]⟩

def F129 : Fnc := ⟨(.seq (.rg [p 2 (.box (.t 0)),
 p 3 (.box (.t 1)),
 p 4 (.mv (.k (.bool false)))])
 (.seq (.seq (.rg [p 5 (.fa 0 (.t 2)),
 p 6 (.ld (.t 5)),
 p 7 (.fa 0 (.t 3)),
 p 8 (.ld (.t 7)),
 p 9 (.call 132 [(.t 6), (.t 8)]),
 p 10 (.not (.t 9))])
 (.cond (.t 10) (.seq (.rg [p 4 (.mv (.k (.bool false)))])
 .ret)
 .skip))
 (.seq (.seq (.rg [p 11 (.fa 1 (.t 2)),
 p 12 (.ld (.t 11)),
 p 13 (.fa 1 (.t 3)),
 p 14 (.ld (.t 13)),
 p 15 (.bin .neq (.t 12) (.t 14))])
 (.cond (.t 15) (.seq (.rg [p 4 (.mv (.k (.bool false)))])
 .ret)
 .skip))
 (.seq (.seq (.rg [p 16 (.fa 2 (.t 2)),
 p 17 (.ld (.t 16)),
 p 18 (.fa 2 (.t 3)),
 p 19 (.ld (.t 18)),
 p 20 (.call 132 [(.t 17), (.t 19)]),
 p 21 (.not (.t 20))])
 (.cond (.t 21) (.seq (.rg [p 4 (.mv (.k (.bool false)))])
 .ret)
 .skip))
 (.seq (.rg [p 4 (.mv (.k (.bool true)))])
 .ret))))),
 [.tmp 4]⟩

def F130 : Fnc := ⟨(.seq (.rg [p 2 (.box (.t 0)),
 p 3 (.box (.t 1)),
 p 4 (.mv (.k (.bool false)))])
 (.seq (.seq (.rg [p 5 (.fa 0 (.t 2)),
 p 6 (.ld (.t 5)),
 p 7 (.fa 0 (.t 3)),
 p 8 (.ld (.t 7)),
 p 9 (.bin .neq (.t 6) (.t 8))])
 (.cond (.t 9) (.seq (.rg [p 4 (.mv (.k (.bool false)))])
 .ret)
 .skip))
 (.seq (.seq (.rg [p 10 (.fa 1 (.t 2)),
 p 11 (.ld (.t 10)),
 p 12 (.fa 1 (.t 3)),
 p 13 (.ld (.t 12)),
 p 14 (.bin .neq (.t 11) (.t 13))])
 (.cond (.t 14) (.seq (.rg [p 4 (.mv (.k (.bool false)))])
 .ret)
 .skip))
 (.seq (.seq (.rg [p 15 (.fa 2 (.t 2)),
 p 16 (.ld (.t 15)),
 p 17 (.fa 2 (.t 3)),
 p 18 (.ld (.t 17)),
 p 19 (.eqb true (.t 16) (.t 18))])
 (.cond (.t 19) (.seq (.rg [p 4 (.mv (.k (.bool false)))])
 .ret)
 .skip))
 (.seq (.seq (.rg [p 20 (.fa 3 (.t 2)),
 p 21 (.ld (.t 20)),
 p 22 (.fa 3 (.t 3)),
 p 23 (.ld (.t 22)),
 p 24 (.bin .neq (.t 21) (.t 23))])
 (.cond (.t 24) (.seq (.rg [p 4 (.mv (.k (.bool false)))])
 .ret)
 .skip))
 (.seq (.seq (.rg [p 25 (.fa 4 (.t 2)),
 p 26 (.ld (.t 25)),
 p 27 (.fa 4 (.t 3)),
 p 28 (.ld (.t 27)),
 p 29 (.bin .neq (.t 26) (.t 28))])
 (.cond (.t 29) (.seq (.rg [p 4 (.mv (.k (.bool false)))])
 .ret)
 .skip))
 (.seq (.seq (.rg [p 30 (.fa 5 (.t 2)),
 p 31 (.ld (.t 30)),
 p 32 (.fa 5 (.t 3)),
 p 33 (.ld (.t 32)),
 p 34 (.bin .neq (.t 31) (.t 33))])
 (.cond (.t 34) (.seq (.rg [p 4 (.mv (.k (.bool false)))])
 .ret)
 .skip))
 (.seq (.seq (.rg [p 35 (.fa 6 (.t 2)),
 p 36 (.ld (.t 35)),
 p 37 (.fa 6 (.t 3)),
 p 38 (.ld (.t 37)),
 p 39 (.bin .neq (.t 36) (.t 38))])
 (.cond (.t 39) (.seq (.rg [p 4 (.mv (.k (.bool false)))])
 .ret)
 .skip))
 (.seq (.rg [p 4 (.mv (.k (.bool true)))])
 .ret))))))))),
 [.tmp 4]⟩

def F131 : Fnc := ⟨(.seq (.rg [p 4 (.mv (.k (.bool false)))])
 (.seq (.seq (.rg [p 6 (.mv (.t 0)),
 p 7 (.len (.t 6)),
 p 8 (.mv (.t 1)),
 p 9 (.len (.t 8)),
 p 10 (.bin .neq (.t 7) (.t 9))])
 (.cond (.t 10) (.seq (.rg [p 4 (.mv (.k (.bool false)))])
 .ret)
 .skip))
 (.seq (.seq (.rg [p 5 (.mv (.k (.int .i64 0)))])
 (.block 0 (.loop (.seq (.seq (.rg [p 11 (.mv (.t 5)),
 p 12 (.mv (.t 0)),
 p 13 (.len (.t 12)),
 p 14 (.bin .lss (.t 11) (.t 13))])
 (.cond (.t 14) .skip
 (.exit 0)))
 (.seq (.block 1 (.seq (.rg [⟨(some 17), .mv (.t 0), none, true⟩,
 ⟨(some 18), .mv (.t 5), none, true⟩,
 ⟨(some 19), .ia 7 (.t 17) (.t 18), none, true⟩,
 ⟨(some 20), .ldn 7 (.t 19), none, true⟩,
 ⟨(some 21), .mv (.t 1), none, true⟩,
 ⟨(some 22), .mv (.t 5), none, true⟩,
 ⟨(some 23), .ia 7 (.t 21) (.t 22), none, true⟩,
 ⟨(some 24), .ldn 7 (.t 23), none, true⟩,
 p 25 (.call 130 [(.t 20), (.t 24)]),
 p 26 (.not (.t 25))])
 (.cond (.t 26) (.seq (.rg [p 4 (.mv (.k (.bool false)))])
 .ret)
 .skip)))
 (.rg [p 15 (.mv (.t 5)),
 p 16 (.bin .add (.t 15) (.k (.int .i64 1))),
 p 5 (.mv (.t 16))]))))))
 (.seq (.rg [p 4 (.mv (.k (.bool true)))])
 .ret)))),
 [.tmp 4]⟩

def F132 : Fnc := ⟨(.seq (.rg [p 4 (.mv (.k (.bool false)))])
 (.seq (.seq (.rg [p 6 (.mv (.t 0)),
 p 7 (.len (.t 6)),
 p 8 (.mv (.t 1)),
 p 9 (.len (.t 8)),
 p 10 (.bin .neq (.t 7) (.t 9))])
 (.cond (.t 10) (.seq (.rg [p 4 (.mv (.k (.bool false)))])
 .ret)
 .skip))
 (.seq (.seq (.rg [p 5 (.mv (.k (.int .i64 0)))])
 (.block 0 (.loop (.seq (.seq (.rg [p 11 (.mv (.t 5)),
 p 12 (.mv (.t 0)),
 p 13 (.len (.t 12)),
 p 14 (.bin .lss (.t 11) (.t 13))])
 (.cond (.t 14) .skip
 (.exit 0)))
 (.seq (.block 1 (.seq (.rg [⟨(some 17), .mv (.t 0), none, true⟩,
 ⟨(some 18), .mv (.t 5), none, true⟩,
 ⟨(some 19), .ia 1 (.t 17) (.t 18), none, true⟩,
 ⟨(some 20), .ld (.t 19), none, true⟩,
 ⟨(some 21), .mv (.t 1), none, true⟩,
 ⟨(some 22), .mv (.t 5), none, true⟩,
 ⟨(some 23), .ia 1 (.t 21) (.t 22), none, true⟩,
 ⟨(some 24), .ld (.t 23), none, true⟩,
 p 25 (.bin .neq (.t 20) (.t 24))])
 (.cond (.t 25) (.seq (.rg [p 4 (.mv (.k (.bool false)))])
 .ret)
 .skip)))
 (.rg [p 15 (.mv (.t 5)),
 p 16 (.bin .add (.t 15) (.k (.int .i64 1))),
 p 5 (.mv (.t 16))]))))))
 (.seq (.rg [p 4 (.mv (.k (.bool true)))])
 .ret)))),
 [.tmp 4]⟩

def F133 : Fnc := ⟨(.seq (.rg [p 2 (.box (.t 0)),
 p 3 (.box (.t 1)),
 p 4 (.mv (.k (.bool false)))])
 (.seq (.seq (.rg [p 5 (.fa 0 (.t 2)),
 p 6 (.ld (.t 5)),
 p 7 (.fa 0 (.t 3)),
 p 8 (.ld (.t 7)),
 p 9 (.bin .neq (.t 6) (.t 8))])
 (.cond (.t 9) (.seq (.rg [p 4 (.mv (.k (.bool false)))])
 .ret)
 .skip))
 (.seq (.seq (.rg [p 10 (.fa 1 (.t 2)),
 p 11 (.ld (.t 10)),
 p 12 (.fa 1 (.t 3)),
 p 13 (.ld (.t 12)),
 p 14 (.eqb true (.t 11) (.t 13))])
 (.cond (.t 14) (.seq (.rg [p 4 (.mv (.k (.bool false)))])
 .ret)
 .skip))
 (.seq (.seq (.rg [p 15 (.fa 2 (.t 2)),
 p 16 (.ld (.t 15)),
 p 17 (.fa 2 (.t 3)),
 p 18 (.ld (.t 17)),
 p 19 (.bin .neq (.t 16) (.t 18))])
 (.cond (.t 19) (.seq (.rg [p 4 (.mv (.k (.bool false)))])
 .ret)
 .skip))
 (.seq (.seq (.rg [p 20 (.fa 3 (.t 2)),
 p 21 (.ld (.t 20)),
 p 22 (.fa 3 (.t 3)),
 p 23 (.ld (.t 22)),
 p 24 (.bin .neq (.t 21) (.t 23))])
 (.cond (.t 24) (.seq (.rg [p 4 (.mv (.k (.bool false)))])
 .ret)
 .skip))
 (.seq (.rg [p 4 (.mv (.k (.bool true)))])
 .ret)))))),
 [.tmp 4]⟩

def F134 : Fnc := ⟨(.seq (.rg [p 4 (.mv (.k (.bool false)))])
 (.seq (.seq (.rg [p 6 (.mv (.t 0)),
 p 7 (.len (.t 6)),
 p 8 (.mv (.t 1)),
 p 9 (.len (.t 8)),
 p 10 (.bin .neq (.t 7) (.t 9))])
 (.cond (.t 10) (.seq (.rg [p 4 (.mv (.k (.bool false)))])
 .ret)
 .skip))
 (.seq (.seq (.rg [p 5 (.mv (.k (.int .i64 0)))])
 (.block 0 (.loop (.seq (.seq (.rg [p 11 (.mv (.t 5)),
 p 12 (.mv (.t 0)),
 p 13 (.len (.t 12)),
 p 14 (.bin .lss (.t 11) (.t 13))])
 (.cond (.t 14) .skip
 (.exit 0)))
 (.seq (.block 1 (.seq (.rg [⟨(some 17), .mv (.t 0), none, true⟩,
 ⟨(some 18), .mv (.t 5), none, true⟩,
 ⟨(some 19), .ia 4 (.t 17) (.t 18), none, true⟩,
 ⟨(some 20), .ldn 4 (.t 19), none, true⟩,
 ⟨(some 21), .mv (.t 1), none, true⟩,
 ⟨(some 22), .mv (.t 5), none, true⟩,
 ⟨(some 23), .ia 4 (.t 21) (.t 22), none, true⟩,
 ⟨(some 24), .ldn 4 (.t 23), none, true⟩,
 p 25 (.call 133 [(.t 20), (.t 24)]),
 p 26 (.not (.t 25))])
 (.cond (.t 26) (.seq (.rg [p 4 (.mv (.k (.bool false)))])
 .ret)
 .skip)))
 (.rg [p 15 (.mv (.t 5)),
 p 16 (.bin .add (.t 15) (.k (.int .i64 1))),
 p 5 (.mv (.t 16))]))))))
 (.seq (.rg [p 4 (.mv (.k (.bool true)))])
 .ret)))),
 [.tmp 4]⟩

def F135 : Fnc := ⟨(.seq (.rg [p 2 (.box (.t 0)),
 p 3 (.box (.t 1)),
 p 4 (.mv (.k (.bool false)))])
 (.seq (.seq (.rg [p 5 (.fa 0 (.t 2)),
 p 6 (.ld (.t 5)),
 p 7 (.fa 0 (.t 3)),
 p 8 (.ld (.t 7)),
 p 9 (.call 132 [(.t 6), (.t 8)]),
 p 10 (.not (.t 9))])
 (.cond (.t 10) (.seq (.rg [p 4 (.mv (.k (.bool false)))])
 .ret)
 .skip))
 (.seq (.seq (.rg [p 11 (.fa 1 (.t 2)),
 p 12 (.ldn 3 (.t 11)),
 p 13 (.fa 1 (.t 3)),
 p 14 (.ldn 3 (.t 13)),
 p 15 (.call 129 [(.t 12), (.t 14)]),
 p 16 (.not (.t 15))])
 (.cond (.t 16) (.seq (.rg [p 4 (.mv (.k (.bool false)))])
 .ret)
 .skip))
 (.seq (.rg [p 4 (.mv (.k (.bool true)))])
 .ret)))),
 [.tmp 4]⟩

def F136 : Fnc := ⟨(.seq (.rg [p 2 (.box (.t 0)),
 p 3 (.box (.t 1)),
 p 4 (.mv (.k (.bool false)))])
 (.seq (.seq (.rg [p 5 (.fa 0 (.t 2)),
 p 6 (.ld (.t 5)),
 p 7 (.fa 0 (.t 3)),
 p 8 (.ld (.t 7)),
 p 9 (.call 139 [(.t 6), (.t 8)]),
 p 10 (.not (.t 9))])
 (.cond (.t 10) (.seq (.rg [p 4 (.mv (.k (.bool false)))])
 .ret)
 .skip))
 (.seq (.seq (.rg [p 11 (.fa 1 (.t 2)),
 p 12 (.ld (.t 11)),
 p 13 (.fa 1 (.t 3)),
 p 14 (.ld (.t 13)),
 p 15 (.bin .neq (.t 12) (.t 14))])
 (.cond (.t 15) (.seq (.rg [p 4 (.mv (.k (.bool false)))])
 .ret)
 .skip))
 (.seq (.seq (.rg [p 16 (.fa 2 (.t 2)),
 p 17 (.ld (.t 16)),
 p 18 (.fa 2 (.t 3)),
 p 19 (.ld (.t 18)),
 p 20 (.bin .neq (.t 17) (.t 19))])
 (.cond (.t 20) (.seq (.rg [p 4 (.mv (.k (.bool false)))])
 .ret)
 .skip))
 (.seq (.seq (.rg [p 21 (.fa 3 (.t 2)),
 p 22 (.ld (.t 21)),
 p 23 (.fa 3 (.t 3)),
 p 24 (.ld (.t 23)),
 p 25 (.bin .neq (.t 22) (.t 24))])
 (.cond (.t 25) (.seq (.rg [p 4 (.mv (.k (.bool false)))])
 .ret)
 .skip))
 (.seq (.seq (.rg [p 26 (.fa 4 (.t 2)),
 p 27 (.ld (.t 26)),
 p 28 (.fa 4 (.t 3)),
 p 29 (.ld (.t 28)),
 p 30 (.eqb true (.t 27) (.t 29))])
 (.cond (.t 30) (.seq (.rg [p 4 (.mv (.k (.bool false)))])
 .ret)
 .skip))
 (.seq (.seq (.rg [p 31 (.fa 5 (.t 2)),
 p 32 (.ld (.t 31)),
 p 33 (.fa 5 (.t 3)),
 p 34 (.ld (.t 33)),
 p 35 (.eqb true (.t 32) (.t 34))])
 (.cond (.t 35) (.seq (.rg [p 4 (.mv (.k (.bool false)))])
 .ret)
 .skip))
 (.seq (.rg [p 4 (.mv (.k (.bool true)))])
 .ret)))))))),
 [.tmp 4]⟩

def F137 : Fnc := ⟨(.seq (.rg [p 4 (.mv (.k (.bool false)))])
 (.seq (.seq (.rg [p 6 (.mv (.t 0)),
 p 7 (.len (.t 6)),
 p 8 (.mv (.t 1)),
 p 9 (.len (.t 8)),
 p 10 (.bin .neq (.t 7) (.t 9))])
 (.cond (.t 10) (.seq (.rg [p 4 (.mv (.k (.bool false)))])
 .ret)
 .skip))
 (.seq (.seq (.rg [p 5 (.mv (.k (.int .i64 0)))])
 (.block 0 (.loop (.seq (.seq (.rg [p 11 (.mv (.t 5)),
 p 12 (.mv (.t 0)),
 p 13 (.len (.t 12)),
 p 14 (.bin .lss (.t 11) (.t 13))])
 (.cond (.t 14) .skip
 (.exit 0)))
 (.seq (.block 1 (.seq (.rg [⟨(some 17), .mv (.t 0), none, true⟩,
 ⟨(some 18), .mv (.t 5), none, true⟩,
 ⟨(some 19), .ia 6 (.t 17) (.t 18), none, true⟩,
 ⟨(some 20), .ldn 6 (.t 19), none, true⟩,
 ⟨(some 21), .mv (.t 1), none, true⟩,
 ⟨(some 22), .mv (.t 5), none, true⟩,
 ⟨(some 23), .ia 6 (.t 21) (.t 22), none, true⟩,
 ⟨(some 24), .ldn 6 (.t 23), none, true⟩,
 p 25 (.call 136 [(.t 20), (.t 24)]),
 p 26 (.not (.t 25))])
 (.cond (.t 26) (.seq (.rg [p 4 (.mv (.k (.bool false)))])
 .ret)
 .skip)))
 (.rg [p 15 (.mv (.t 5)),
 p 16 (.bin .add (.t 15) (.k (.int .i64 1))),
 p 5 (.mv (.t 16))]))))))
 (.seq (.rg [p 4 (.mv (.k (.bool true)))])
 .ret)))),
 [.tmp 4]⟩

def F138 : Fnc := ⟨(.seq (.rg [p 2 (.box (.t 0)),
 p 3 (.box (.t 1)),
 p 4 (.mv (.k (.bool false)))])
 (.seq (.seq (.rg [p 5 (.fa 0 (.t 2)),
 p 6 (.ld (.t 5)),
 p 7 (.fa 0 (.t 3)),
 p 8 (.ld (.t 7)),
 p 9 (.eqb true (.t 6) (.t 8))])
 (.cond (.t 9) (.seq (.rg [p 4 (.mv (.k (.bool false)))])
 .ret)
 .skip))
 (.seq (.seq (.rg [p 10 (.fa 1 (.t 2)),
 p 11 (.ld (.t 10)),
 p 12 (.fa 1 (.t 3)),
 p 13 (.ld (.t 12)),
 p 14 (.bin .neq (.t 11) (.t 13))])
 (.cond (.t 14) (.seq (.rg [p 4 (.mv (.k (.bool false)))])
 .ret)
 .skip))
 (.seq (.seq (.rg [p 15 (.fa 2 (.t 2)),
 p 16 (.ld (.t 15)),
 p 17 (.fa 2 (.t 3)),
 p 18 (.ld (.t 17)),
 p 19 (.bin .neq (.t 16) (.t 18))])
 (.cond (.t 19) (.seq (.rg [p 4 (.mv (.k (.bool false)))])
 .ret)
 .skip))
 (.seq (.seq (.rg [p 20 (.fa 3 (.t 2)),
 p 21 (.ld (.t 20)),
 p 22 (.fa 3 (.t 3)),
 p 23 (.ld (.t 22)),
 p 24 (.bin .neq (.t 21) (.t 23))])
 (.cond (.t 24) (.seq (.rg [p 4 (.mv (.k (.bool false)))])
 .ret)
 .skip))
 (.seq (.seq (.rg [p 25 (.fa 4 (.t 2)),
 p 26 (.ld (.t 25)),
 p 27 (.fa 4 (.t 3)),
 p 28 (.ld (.t 27)),
 p 29 (.eqb true (.t 26) (.t 28))])
 (.cond (.t 29) (.seq (.rg [p 4 (.mv (.k (.bool false)))])
 .ret)
 .skip))
 (.seq (.seq (.rg [p 30 (.fa 5 (.t 2)),
 p 31 (.ld (.t 30)),
 p 32 (.fa 5 (.t 3)),
 p 33 (.ld (.t 32)),
 p 34 (.call 132 [(.t 31), (.t 33)]),
 p 35 (.not (.t 34))])
 (.cond (.t 35) (.seq (.rg [p 4 (.mv (.k (.bool false)))])
 .ret)
 .skip))
 (.seq (.rg [p 4 (.mv (.k (.bool true)))])
 .ret)))))))),
 [.tmp 4]⟩

def F139 : Fnc := ⟨(.seq (.rg [p 4 (.mv (.k (.bool false)))])
 (.seq (.seq (.rg [p 6 (.mv (.t 0)),
 p 7 (.len (.t 6)),
 p 8 (.mv (.t 1)),
 p 9 (.len (.t 8)),
 p 10 (.bin .neq (.t 7) (.t 9))])
 (.cond (.t 10) (.seq (.rg [p 4 (.mv (.k (.bool false)))])
 .ret)
 .skip))
 (.seq (.seq (.rg [p 5 (.mv (.k (.int .i64 0)))])
 (.block 0 (.loop (.seq (.seq (.rg [p 11 (.mv (.t 5)),
 p 12 (.mv (.t 0)),
 p 13 (.len (.t 12)),
 p 14 (.bin .lss (.t 11) (.t 13))])
 (.cond (.t 14) .skip
 (.exit 0)))
 (.seq (.block 1 (.seq (.rg [⟨(some 17), .mv (.t 0), none, true⟩,
 ⟨(some 18), .mv (.t 5), none, true⟩,
 ⟨(some 19), .ia 6 (.t 17) (.t 18), none, true⟩,
 ⟨(some 20), .ldn 6 (.t 19), none, true⟩,
 ⟨(some 21), .mv (.t 1), none, true⟩,
 ⟨(some 22), .mv (.t 5), none, true⟩,
 ⟨(some 23), .ia 6 (.t 21) (.t 22), none, true⟩,
 ⟨(some 24), .ldn 6 (.t 23), none, true⟩,
 p 25 (.call 138 [(.t 20), (.t 24)]),
 p 26 (.not (.t 25))])
 (.cond (.t 26) (.seq (.rg [p 4 (.mv (.k (.bool false)))])
 .ret)
 .skip)))
 (.rg [p 15 (.mv (.t 5)),
 p 16 (.bin .add (.t 15) (.k (.int .i64 1))),
 p 5 (.mv (.t 16))]))))))
 (.seq (.rg [p 4 (.mv (.k (.bool true)))])
 .ret)))),
 [.tmp 4]⟩

def F140 : Fnc := ⟨(.seq (.rg [p 2 (.box (.t 0)),
 p 3 (.box (.t 1)),
 p 4 (.mv (.k (.bool false)))])
 (.seq (.seq (.rg [p 5 (.fa 0 (.t 2)),
 p 6 (.ld (.t 5)),
 p 7 (.fa 0 (.t 3)),
 p 8 (.ld (.t 7)),
 p 9 (.bin .neq (.t 6) (.t 8))])
 (.cond (.t 9) (.seq (.rg [p 4 (.mv (.k (.bool false)))])
 .ret)
 .skip))
 (.seq (.seq (.rg [p 10 (.fa 1 (.t 2)),
 p 11 (.ld (.t 10)),
 p 12 (.fa 1 (.t 3)),
 p 13 (.ld (.t 12)),
 p 14 (.bin .neq (.t 11) (.t 13))])
 (.cond (.t 14) (.seq (.rg [p 4 (.mv (.k (.bool false)))])
 .ret)
 .skip))
 (.seq (.rg [p 4 (.mv (.k (.bool true)))])
 .ret)))),
 [.tmp 4]⟩

def F143 : Fnc := ⟨(.seq (.rg [p 4 (.mv (.k (.int .i64 0)))])
 (.seq (.rg [p 5 (.mv (.t 1)),
 p 6 (.mv (.t 0)),
 p 7 (.len (.t 6)),
 p 8 (.bin .sub (.t 5) (.t 7)),
 p 1 (.mv (.t 8))])
 (.seq (.seq (.rg [p 9 (.mv (.t 1)),
 p 10 (.bin .lss (.t 9) (.k (.int .i64 0)))])
 (.cond (.t 10) (.seq (.rg [p 4 (.mv (.k (.int .i64 (-1))))])
 .ret)
 .skip))
 (.seq (.rg [p 11 (.mv (.t 1)),
 p 4 (.mv (.t 11))])
 .ret)))),
 [.tmp 4]⟩

def F144 : Fnc := ⟨(.seq (.rg [p 2 (.box (.t 0)),
 p 4 (.mv (.k (.int .i64 0)))])
 (.seq (.rg [p 5 (.fa 0 (.t 2)),
 p 6 (.ldn 6 (.t 5)),
 p 7 (.mv (.t 1)),
 p 8 (.call 145 [(.t 6), (.t 7)]),
 p 1 (.mv (.t 8))])
 (.seq (.seq (.rg [p 9 (.mv (.t 1)),
 p 10 (.bin .lss (.t 9) (.k (.int .i64 0)))])
 (.cond (.t 10) (.seq (.rg [p 4 (.mv (.k (.int .i64 (-1))))])
 .ret)
 .skip))
 (.seq (.rg [p 11 (.fa 7 (.t 2)),
 p 12 (.ld (.t 11)),
 p 13 (.mv (.t 1)),
 p 14 (.call 152 [(.t 12), (.t 13)]),
 p 1 (.mv (.t 14))])
 (.seq (.seq (.rg [p 15 (.mv (.t 1)),
 p 16 (.bin .lss (.t 15) (.k (.int .i64 0)))])
 (.cond (.t 16) (.seq (.rg [p 4 (.mv (.k (.int .i64 (-1))))])
 .ret)
 .skip))
 (.seq (.rg [p 17 (.fa 10 (.t 2)),
 p 18 (.ld (.t 17)),
 p 19 (.mv (.t 1)),
 p 20 (.call 143 [(.t 18), (.t 19)]),
 p 1 (.mv (.t 20))])
 (.seq (.seq (.rg [p 21 (.mv (.t 1)),
 p 22 (.bin .lss (.t 21) (.k (.int .i64 0)))])
 (.cond (.t 22) (.seq (.rg [p 4 (.mv (.k (.int .i64 (-1))))])
 .ret)
 .skip))
 (.seq (.rg [p 23 (.fa 11 (.t 2)),
 p 24 (.ld (.t 23)),
 p 25 (.mv (.t 1)),
 p 26 (.call 148 [(.t 24), (.t 25)]),
 p 1 (.mv (.t 26))])
 (.seq (.seq (.rg [p 27 (.mv (.t 1)),
 p 28 (.bin .lss (.t 27) (.k (.int .i64 0)))])
 (.cond (.t 28) (.seq (.rg [p 4 (.mv (.k (.int .i64 (-1))))])
 .ret)
 .skip))
 (.seq (.rg [p 29 (.fa 31 (.t 2)),
 p 30 (.ldn 4 (.t 29)),
 p 31 (.mv (.t 1)),
 p 32 (.call 150 [(.t 30), (.t 31)]),
 p 1 (.mv (.t 32))])
 (.seq (.seq (.rg [p 33 (.mv (.t 1)),
 p 34 (.bin .lss (.t 33) (.k (.int .i64 0)))])
 (.cond (.t 34) (.seq (.rg [p 4 (.mv (.k (.int .i64 (-1))))])
 .ret)
 .skip))
 (.seq (.rg [p 35 (.fa 36 (.t 2)),
 p 36 (.ld (.t 35)),
 p 37 (.mv (.t 1)),
 p 38 (.call 147 [(.t 36), (.t 37)]),
 p 1 (.mv (.t 38))])
 (.seq (.seq (.rg [p 39 (.mv (.t 1)),
 p 40 (.bin .lss (.t 39) (.k (.int .i64 0)))])
 (.cond (.t 40) (.seq (.rg [p 4 (.mv (.k (.int .i64 (-1))))])
 .ret)
 .skip))
 (.seq (.rg [p 41 (.mv (.t 1)),
 p 4 (.mv (.t 41))])
 .ret)))))))))))))),
 [.tmp 4]⟩

def F145 : Fnc := ⟨(.seq (.rg [p 2 (.box (.t 0)),
 p 4 (.mv (.k (.int .i64 0)))])
 (.seq (.rg [p 5 (.fa 0 (.t 2)),
 p 6 (.ld (.t 5)),
 p 7 (.mv (.t 1)),
 p 8 (.call 149 [(.t 6), (.t 7)]),
 p 1 (.mv (.t 8))])
 (.seq (.seq (.rg [p 9 (.mv (.t 1)),
 p 10 (.bin .lss (.t 9) (.k (.int .i64 0)))])
 (.cond (.t 10) (.seq (.rg [p 4 (.mv (.k (.int .i64 (-1))))])
 .ret)
 .skip))
 (.seq (.rg [p 11 (.mv (.t 1)),
 p 4 (.mv (.t 11))])
 .ret)))),
 [.tmp 4]⟩

def F146 : Fnc := ⟨(.seq (.rg [p 2 (.box (.t 0)),
 p 4 (.mv (.k (.int .i64 0)))])
 (.seq (.rg [p 5 (.fa 0 (.t 2)),
 p 6 (.ld (.t 5)),
 p 7 (.mv (.t 1)),
 p 8 (.call 148 [(.t 6), (.t 7)]),
 p 1 (.mv (.t 8))])
 (.seq (.seq (.rg [p 9 (.mv (.t 1)),
 p 10 (.bin .lss (.t 9) (.k (.int .i64 0)))])
 (.cond (.t 10) (.seq (.rg [p 4 (.mv (.k (.int .i64 (-1))))])
 .ret)
 .skip))
 (.seq (.rg [p 11 (.fa 2 (.t 2)),
 p 12 (.ld (.t 11)),
 p 13 (.mv (.t 1)),
 p 14 (.call 148 [(.t 12), (.t 13)]),
 p 1 (.mv (.t 14))])
 (.seq (.seq (.rg [p 15 (.mv (.t 1)),
 p 16 (.bin .lss (.t 15) (.k (.int .i64 0)))])
 (.cond (.t 16) (.seq (.rg [p 4 (.mv (.k (.int .i64 (-1))))])
 .ret)
 .skip))
 (.seq (.rg [p 17 (.mv (.t 1)),
 p 4 (.mv (.t 17))])
 .ret)))))),
 [.tmp 4]⟩

def F147 : Fnc := ⟨(.seq (.rg [p 4 (.mv (.k (.int .i64 0)))])
 (.seq (.rg [p 5 (.mv (.t 1)),
 p 6 (.mv (.t 0)),
 p 7 (.len (.t 6)),
 p 8 (.bin .sub (.t 5) (.t 7)),
 p 1 (.mv (.t 8))])
 (.seq (.seq (.rg [p 9 (.mv (.t 1)),
 p 10 (.bin .lss (.t 9) (.k (.int .i64 0)))])
 (.cond (.t 10) (.seq (.rg [p 4 (.mv (.k (.int .i64 (-1))))])
 .ret)
 .skip))
 (.seq (.rg [p 11 (.mv (.t 1)),
 p 4 (.mv (.t 11))])
 .ret)))),
 [.tmp 4]⟩

def F148 : Fnc := ⟨(.seq (.rg [p 4 (.mv (.k (.int .i64 0)))])
 (.seq (.rg [p 5 (.mv (.t 1)),
 p 6 (.mv (.t 0)),
 p 7 (.len (.t 6)),
 p 8 (.bin .sub (.t 5) (.t 7)),
 p 1 (.mv (.t 8))])
 (.seq (.seq (.rg [p 9 (.mv (.t 1)),
 p 10 (.bin .lss (.t 9) (.k (.int .i64 0)))])
 (.cond (.t 10) (.seq (.rg [p 4 (.mv (.k (.int .i64 (-1))))])
 .ret)
 .skip))
 (.seq (.rg [p 11 (.mv (.t 1)),
 p 4 (.mv (.t 11))])
 .ret)))),
 [.tmp 4]⟩

def F149 : Fnc := ⟨(.seq (.rg [p 4 (.mv (.k (.int .i64 0)))])
 (.seq (.rg [p 5 (.mv (.t 1)),
 p 6 (.mv (.t 0)),
 p 7 (.len (.t 6)),
 p 8 (.bin .sub (.t 5) (.t 7)),
 p 1 (.mv (.t 8))])
 (.seq (.seq (.rg [p 9 (.mv (.t 1)),
 p 10 (.bin .lss (.t 9) (.k (.int .i64 0)))])
 (.cond (.t 10) (.seq (.rg [p 4 (.mv (.k (.int .i64 (-1))))])
 .ret)
 .skip))
 (.seq (.rg [p 11 (.mv (.t 1)),
 p 4 (.mv (.t 11))])
 .ret)))),
 [.tmp 4]⟩

def F150 : Fnc := ⟨(.seq (.rg [p 2 (.box (.t 0)),
 p 4 (.mv (.k (.int .i64 0)))])
 (.seq (.rg [p 5 (.fa 0 (.t 2)),
 p 6 (.ld (.t 5)),
 p 7 (.mv (.t 1)),
 p 8 (.call 148 [(.t 6), (.t 7)]),
 p 1 (.mv (.t 8))])
 (.seq (.seq (.rg [p 9 (.mv (.t 1)),
 p 10 (.bin .lss (.t 9) (.k (.int .i64 0)))])
 (.cond (.t 10) (.seq (.rg [p 4 (.mv (.k (.int .i64 (-1))))])
 .ret)
 .skip))
 (.seq (.rg [p 11 (.fa 1 (.t 2)),
 p 12 (.ldn 3 (.t 11)),
 p 13 (.mv (.t 1)),
 p 14 (.call 146 [(.t 12), (.t 13)]),
 p 1 (.mv (.t 14))])
 (.seq (.seq (.rg [p 15 (.mv (.t 1)),
 p 16 (.bin .lss (.t 15) (.k (.int .i64 0)))])
 (.cond (.t 16) (.seq (.rg [p 4 (.mv (.k (.int .i64 (-1))))])
 .ret)
 .skip))
 (.seq (.rg [p 17 (.mv (.t 1)),
 p 4 (.mv (.t 17))])
 .ret)))))),
 [.tmp 4]⟩

def F151 : Fnc := ⟨(.seq (.rg [p 2 (.box (.t 0)),
 p 4 (.mv (.k (.int .i64 0)))])
 (.seq (.rg [p 5 (.fa 0 (.t 2)),
 p 6 (.ld (.t 5)),
 p 7 (.mv (.t 1)),
 p 8 (.call 154 [(.t 6), (.t 7)]),
 p 1 (.mv (.t 8))])
 (.seq (.seq (.rg [p 9 (.mv (.t 1)),
 p 10 (.bin .lss (.t 9) (.k (.int .i64 0)))])
 (.cond (.t 10) (.seq (.rg [p 4 (.mv (.k (.int .i64 (-1))))])
 .ret)
 .skip))
 (.seq (.rg [p 11 (.mv (.t 1)),
 p 4 (.mv (.t 11))])
 .ret)))),
 [.tmp 4]⟩

def F152 : Fnc := ⟨(.seq (.rg [p 4 (.mv (.k (.int .i64 0)))])
 (.seq (.rg [p 6 (.mv (.t 1)),
 p 7 (.mv (.t 0)),
 p 8 (.len (.t 7)),
 p 9 (.bin .sub (.t 6) (.t 8)),
 p 1 (.mv (.t 9))])
 (.seq (.seq (.rg [p 10 (.mv (.t 1)),
 p 11 (.bin .lss (.t 10) (.k (.int .i64 0)))])
 (.cond (.t 11) (.seq (.rg [p 4 (.mv (.k (.int .i64 (-1))))])
 .ret)
 .skip))
 (.seq (.seq (.rg [p 5 (.mv (.k (.int .i64 0)))])
 (.block 0 (.loop (.seq (.seq (.rg [p 12 (.mv (.t 5)),
 p 13 (.mv (.t 0)),
 p 14 (.len (.t 13)),
 p 15 (.bin .lss (.t 12) (.t 14))])
 (.cond (.t 15) .skip
 (.exit 0)))
 (.seq (.block 1 (.seq (.rg [p 18 (.mv (.t 0)),
 p 19 (.mv (.t 5)),
 p 20 (.ia 6 (.t 18) (.t 19)),
 p 21 (.ldn 6 (.t 20)),
 p 22 (.mv (.t 1)),
 p 23 (.call 151 [(.t 21), (.t 22)]),
 p 1 (.mv (.t 23))])
 (.seq (.rg [p 24 (.mv (.t 1)),
 p 25 (.bin .lss (.t 24) (.k (.int .i64 0)))])
 (.cond (.t 25) (.seq (.rg [p 4 (.mv (.k (.int .i64 (-1))))])
 .ret)
 .skip))))
 (.rg [p 16 (.mv (.t 5)),
 p 17 (.bin .add (.t 16) (.k (.int .i64 1))),
 p 5 (.mv (.t 17))]))))))
 (.seq (.rg [p 26 (.mv (.t 1)),
 p 4 (.mv (.t 26))])
 .ret))))),
 [.tmp 4]⟩

def F153 : Fnc := ⟨(.seq (.rg [p 2 (.box (.t 0)),
 p 4 (.mv (.k (.int .i64 0)))])
 (.seq (.rg [p 5 (.fa 5 (.t 2)),
 p 6 (.ld (.t 5)),
 p 7 (.mv (.t 1)),
 p 8 (.call 148 [(.t 6), (.t 7)]),
 p 1 (.mv (.t 8))])
 (.seq (.seq (.rg [p 9 (.mv (.t 1)),
 p 10 (.bin .lss (.t 9) (.k (.int .i64 0)))])
 (.cond (.t 10) (.seq (.rg [p 4 (.mv (.k (.int .i64 (-1))))])
 .ret)
 .skip))
 (.seq (.rg [p 11 (.mv (.t 1)),
 p 4 (.mv (.t 11))])
 .ret)))),
 [.tmp 4]⟩

def F154 : Fnc := ⟨(.seq (.rg [p 4 (.mv (.k (.int .i64 0)))])
 (.seq (.rg [p 6 (.mv (.t 1)),
 p 7 (.mv (.t 0)),
 p 8 (.len (.t 7)),
 p 9 (.bin .sub (.t 6) (.t 8)),
 p 1 (.mv (.t 9))])
 (.seq (.seq (.rg [p 10 (.mv (.t 1)),
 p 11 (.bin .lss (.t 10) (.k (.int .i64 0)))])
 (.cond (.t 11) (.seq (.rg [p 4 (.mv (.k (.int .i64 (-1))))])
 .ret)
 .skip))
 (.seq (.seq (.rg [p 5 (.mv (.k (.int .i64 0)))])
 (.block 0 (.loop (.seq (.seq (.rg [p 12 (.mv (.t 5)),
 p 13 (.mv (.t 0)),
 p 14 (.len (.t 13)),
 p 15 (.bin .lss (.t 12) (.t 14))])
 (.cond (.t 15) .skip
 (.exit 0)))
 (.seq (.block 1 (.seq (.rg [p 18 (.mv (.t 0)),
 p 19 (.mv (.t 5)),
 p 20 (.ia 6 (.t 18) (.t 19)),
 p 21 (.ldn 6 (.t 20)),
 p 22 (.mv (.t 1)),
 p 23 (.call 153 [(.t 21), (.t 22)]),
 p 1 (.mv (.t 23))])
 (.seq (.rg [p 24 (.mv (.t 1)),
 p 25 (.bin .lss (.t 24) (.k (.int .i64 0)))])
 (.cond (.t 25) (.seq (.rg [p 4 (.mv (.k (.int .i64 (-1))))])
 .ret)
 .skip))))
 (.rg [p 16 (.mv (.t 5)),
 p 17 (.bin .add (.t 16) (.k (.int .i64 1))),
 p 5 (.mv (.t 17))]))))))
 (.seq (.rg [p 26 (.mv (.t 1)),
 p 4 (.mv (.t 26))])
 .ret))))),
 [.tmp 4]⟩

def F155 : Fnc := ⟨(.seq (.rg [p 1 (.box (.t 0)),
 p 2 (.new [.bool false, .int .i64 0, .int .i64 0, .bool false, .int .i64 0, .int .i64 0, .int .i64 0, .bool false])])
 (.seq (.rg [p 3 (.new [.bool false, .int .i64 0, .int .i64 0, .bool false, .int .i64 0, .int .i64 0, .int .i64 0, .bool false])])
 (.seq (.rg [p 4 (.fa 0 (.t 1)),
 p 5 (.ld (.t 4)),
 p 6 (.fa 0 (.t 3)),
 ⟨none, .st (.t 6) (.t 5), none, false⟩])
 (.seq (.rg [p 7 (.fa 1 (.t 1)),
 p 8 (.ld (.t 7)),
 p 9 (.fa 1 (.t 3)),
 ⟨none, .st (.t 9) (.t 8), none, false⟩])
 (.seq (.rg [p 10 (.fa 2 (.t 1)),
 p 11 (.ld (.t 10)),
 p 12 (.fa 2 (.t 3)),
 ⟨none, .st (.t 12) (.t 11), none, false⟩])
 (.seq (.rg [p 13 (.fa 3 (.t 1)),
 p 14 (.ld (.t 13)),
 p 15 (.fa 3 (.t 3)),
 ⟨none, .st (.t 15) (.t 14), none, false⟩])
 (.seq (.rg [p 16 (.fa 4 (.t 1)),
 p 17 (.ld (.t 16)),
 p 18 (.fa 4 (.t 3)),
 ⟨none, .st (.t 18) (.t 17), none, false⟩])
 (.seq (.rg [p 19 (.fa 5 (.t 1)),
 p 20 (.ld (.t 19)),
 p 21 (.fa 5 (.t 3)),
 ⟨none, .st (.t 21) (.t 20), none, false⟩])
 (.seq (.rg [p 22 (.fa 6 (.t 1)),
 p 23 (.ld (.t 22)),
 p 24 (.fa 6 (.t 3)),
 ⟨none, .st (.t 24) (.t 23), none, false⟩])
 (.seq (.rg [p 25 (.fa 7 (.t 1)),
 p 26 (.ld (.t 25)),
 p 27 (.fa 7 (.t 3)),
 ⟨none, .st (.t 27) (.t 26), none, false⟩])
 (.seq (.rg [p 28 (.ldn 8 (.t 3)),
 ⟨none, .stn 8 (.t 2) (.t 28), none, false⟩])
 .ret))))))))))),
 [.celln 2 8]⟩

def F156 : Fnc := ⟨(.seq (.rg [p 1 (.box (.t 0)),
 p 2 (.new [.int .i64 0, .int .i64 0])])
 (.seq (.rg [p 3 (.new [.int .i64 0, .int .i64 0])])
 (.seq (.rg [p 4 (.fa 0 (.t 1)),
 p 5 (.ld (.t 4)),
 p 6 (.fa 0 (.t 3)),
 ⟨none, .st (.t 6) (.t 5), none, false⟩])
 (.seq (.rg [p 7 (.fa 1 (.t 1)),
 p 8 (.ld (.t 7)),
 p 9 (.fa 1 (.t 3)),
 ⟨none, .st (.t 9) (.t 8), none, false⟩])
 (.seq (.rg [p 10 (.ldn 2 (.t 3)),
 ⟨none, .stn 2 (.t 2) (.t 10), none, false⟩])
 .ret))))),
 [.celln 2 2]⟩

def F157 : Fnc := ⟨(.seq (.rg [p 2 (.mv (.k (.slice none 0 0)))])
 (.seq (.rg [p 5 (.mv (.t 0)),
 p 6 (.len (.t 5)),
 p 7 (.mk 2 16 [.int .i64 0, .int .i64 0] (.t 6) (.t 6)),
 p 3 (.mv (.t 7))])
 (.seq (.seq (.rg [p 4 (.mv (.k (.int .i64 0)))])
 (.block 0 (.loop (.seq (.seq (.rg [p 8 (.mv (.t 4)),
 p 9 (.mv (.t 0)),
 p 10 (.len (.t 9)),
 p 11 (.bin .lss (.t 8) (.t 10))])
 (.cond (.t 11) .skip
 (.exit 0)))
 (.seq (.block 1 (.rg [p 14 (.mv (.t 3)),
 p 15 (.mv (.t 4)),
 p 16 (.mv (.t 0)),
 p 17 (.mv (.t 4)),
 p 18 (.ia 2 (.t 16) (.t 17)),
 p 19 (.ldn 2 (.t 18)),
 p 20 (.call 156 [(.t 19)]),
 p 21 (.ia 2 (.t 14) (.t 15)),
 ⟨none, .stn 2 (.t 21) (.t 20), none, false⟩]))
 (.rg [p 12 (.mv (.t 4)),
 p 13 (.bin .add (.t 12) (.k (.int .i64 1))),
 p 4 (.mv (.t 13))]))))))
 (.seq (.rg [p 22 (.mv (.t 3)),
 p 2 (.mv (.t 22))])
 .ret)))),
 [.tmp 2]⟩

def F158 : Fnc := ⟨(.seq (.rg [p 1 (.box (.t 0)),
 p 2 (.new [.slice none 0 0, .int .i64 0, .int .i64 0, .int .i64 0, .int .i64 0, .int .i64 0, .int .i64 0, .slice none 0 0, .int .i64 0, .int .i64 0, .slice none 0 0, .slice none 0 0, .int .i64 0, .int .i64 0, .int .i64 0, .bool false, .int .i64 0, .int .i64 0, .bool false, .int .i64 0, .int .i64 0, .int .i64 0, .bool false, .bool false, .int .i64 0, .int .i64 0, .bool false, .int .i64 0, .int .i64 0, .int .i64 0, .bool false, .slice none 0 0, .slice none 0 0, .int .i64 0, .slice none 0 0, .int .i64 0, .slice none 0 0])])
 (.seq (.rg [p 3 (.new [.slice none 0 0, .int .i64 0, .int .i64 0, .int .i64 0, .int .i64 0, .int .i64 0, .int .i64 0, .slice none 0 0, .int .i64 0, .int .i64 0, .slice none 0 0, .slice none 0 0, .int .i64 0, .int .i64 0, .int .i64 0, .bool false, .int .i64 0, .int .i64 0, .bool false, .int .i64 0, .int .i64 0, .int .i64 0, .bool false, .bool false, .int .i64 0, .int .i64 0, .bool false, .int .i64 0, .int .i64 0, .int .i64 0, .bool false, .slice none 0 0, .slice none 0 0, .int .i64 0, .slice none 0 0, .int .i64 0, .slice none 0 0])])
 (.seq (.rg [p 4 (.fa 0 (.t 1)),
 p 5 (.ldn 6 (.t 4)),
 p 6 (.call 159 [(.t 5)]),
 p 7 (.fa 0 (.t 3)),
 ⟨none, .stn 6 (.t 7) (.t 6), none, false⟩])
 (.seq (.rg [p 8 (.fa 6 (.t 1)),
 p 9 (.ld (.t 8)),
 p 10 (.fa 6 (.t 3)),
 ⟨none, .st (.t 10) (.t 9), none, false⟩])
 (.seq (.rg [p 11 (.fa 7 (.t 1)),
 p 12 (.ld (.t 11)),
 p 13 (.call 168 [(.t 12)]),
 p 14 (.fa 7 (.t 3)),
 ⟨none, .st (.t 14) (.t 13), none, false⟩])
 (.seq (.rg [p 15 (.fa 8 (.t 1)),
 p 16 (.ldn 2 (.t 15)),
 p 17 (.call 171 [(.t 16)]),
 p 18 (.fa 8 (.t 3)),
 ⟨none, .stn 2 (.t 18) (.t 17), none, false⟩])
 (.seq (.rg [p 19 (.fa 10 (.t 1)),
 p 20 (.ld (.t 19)),
 p 21 (.call 157 [(.t 20)]),
 p 22 (.fa 10 (.t 3)),
 ⟨none, .st (.t 22) (.t 21), none, false⟩])
 (.seq (.rg [p 23 (.fa 11 (.t 1)),
 p 24 (.ld (.t 23)),
 p 25 (.call 163 [(.t 24)]),
 p 26 (.fa 11 (.t 3)),
 ⟨none, .st (.t 26) (.t 25), none, false⟩])
 (.seq (.rg [p 27 (.fa 12 (.t 1)),
 p 28 (.ld (.t 27)),
 p 29 (.fa 12 (.t 3)),
 ⟨none, .st (.t 29) (.t 28), none, false⟩])
 (.seq (.rg [p 30 (.fa 13 (.t 1)),
 p 31 (.ld (.t 30)),
 p 32 (.fa 13 (.t 3)),
 ⟨none, .st (.t 32) (.t 31), none, false⟩])
 (.seq (.rg [p 33 (.fa 14 (.t 1)),
 p 34 (.ld (.t 33)),
 p 35 (.fa 14 (.t 3)),
 ⟨none, .st (.t 35) (.t 34), none, false⟩])
 (.seq (.rg [p 36 (.fa 15 (.t 1)),
 p 37 (.ldn 8 (.t 36)),
 p 38 (.call 155 [(.t 37)]),
 p 39 (.fa 15 (.t 3)),
 ⟨none, .stn 8 (.t 39) (.t 38), none, false⟩])
 (.seq (.rg [p 40 (.fa 23 (.t 1)),
 p 41 (.ldn 8 (.t 40)),
 p 42 (.call 155 [(.t 41)]),
 p 43 (.fa 23 (.t 3)),
 ⟨none, .stn 8 (.t 43) (.t 42), none, false⟩])
 (.seq (.rg [p 44 (.fa 31 (.t 1)),
 p 45 (.ldn 4 (.t 44)),
 p 46 (.call 166 [(.t 45)]),
 p 47 (.fa 31 (.t 3)),
 ⟨none, .stn 4 (.t 47) (.t 46), none, false⟩])
 (.seq (.rg [p 48 (.fa 35 (.t 1)),
 p 49 (.ld (.t 48)),
 p 50 (.fa 35 (.t 3)),
 ⟨none, .st (.t 50) (.t 49), none, false⟩])
 (.seq (.rg [p 51 (.fa 36 (.t 1)),
 p 52 (.ld (.t 51)),
 p 53 (.call 162 [(.t 52)]),
 p 54 (.fa 36 (.t 3)),
 ⟨none, .st (.t 54) (.t 53), none, false⟩])
 (.seq (.rg [p 55 (.ldn 37 (.t 3)),
 ⟨none, .stn 37 (.t 2) (.t 55), none, false⟩])
 .ret))))))))))))))))),
 [.celln 2 37]⟩

def F159 : Fnc := ⟨(.seq (.rg [p 1 (.box (.t 0)),
 p 2 (.new [.slice none 0 0, .int .i64 0, .int .i64 0, .int .i64 0, .int .i64 0, .int .i64 0])])
 (.seq (.rg [p 3 (.new [.slice none 0 0, .int .i64 0, .int .i64 0, .int .i64 0, .int .i64 0, .int .i64 0])])
 (.seq (.rg [p 4 (.fa 0 (.t 1)),
 p 5 (.ld (.t 4)),
 p 6 (.call 165 [(.t 5)]),
 p 7 (.fa 0 (.t 3)),
 ⟨none, .st (.t 7) (.t 6), none, false⟩])
 (.seq (.rg [p 8 (.fa 1 (.t 1)),
 p 9 (.ld (.t 8)),
 p 10 (.fa 1 (.t 3)),
 ⟨none, .st (.t 10) (.t 9), none, false⟩])
 (.seq (.rg [p 11 (.fa 2 (.t 1)),
 p 12 (.ld (.t 11)),
 p 13 (.fa 2 (.t 3)),
 ⟨none, .st (.t 13) (.t 12), none, false⟩])
 (.seq (.rg [p 14 (.fa 3 (.t 1)),
 p 15 (.ld (.t 14)),
 p 16 (.fa 3 (.t 3)),
 ⟨none, .st (.t 16) (.t 15), none, false⟩])
 (.seq (.rg [p 17 (.fa 4 (.t 1)),
 p 18 (.ld (.t 17)),
 p 19 (.fa 4 (.t 3)),
 ⟨none, .st (.t 19) (.t 18), none, false⟩])
 (.seq (.rg [p 20 (.fa 5 (.t 1)),
 p 21 (.ld (.t 20)),
 p 22 (.fa 5 (.t 3)),
 ⟨none, .st (.t 22) (.t 21), none, false⟩])
 (.seq (.rg [p 23 (.ldn 6 (.t 3)),
 ⟨none, .stn 6 (.t 2) (.t 23), none, false⟩])
 .ret))))))))),
 [.celln 2 6]⟩

def F160 : Fnc := ⟨(.seq (.rg [p 1 (.box (.t 0)),
 p 2 (.new [.slice none 0 0, .int .i64 0, .slice none 0 0])])
 (.seq (.rg [p 3 (.new [.slice none 0 0, .int .i64 0, .slice none 0 0])])
 (.seq (.rg [p 4 (.fa 0 (.t 1)),
 p 5 (.ld (.t 4)),
 p 6 (.call 163 [(.t 5)]),
 p 7 (.fa 0 (.t 3)),
 ⟨none, .st (.t 7) (.t 6), none, false⟩])
 (.seq (.rg [p 8 (.fa 1 (.t 1)),
 p 9 (.ld (.t 8)),
 p 10 (.fa 1 (.t 3)),
 ⟨none, .st (.t 10) (.t 9), none, false⟩])
 (.seq (.rg [p 11 (.fa 2 (.t 1)),
 p 12 (.ld (.t 11)),
 p 13 (.call 163 [(.t 12)]),
 p 14 (.fa 2 (.t 3)),
 ⟨none, .st (.t 14) (.t 13), none, false⟩])
 (.seq (.rg [p 15 (.ldn 3 (.t 3)),
 ⟨none, .stn 3 (.t 2) (.t 15), none, false⟩])
 .ret)))))),
 [.celln 2 3]⟩

def F161 : Fnc := ⟨(.seq (.rg [p 1 (.box (.t 0)),
 p 2 (.new [.int .i64 0, .int .i64 0, .bool false, .int .i64 0, .int .i64 0, .int .i64 0, .int .i64 0])])
 (.seq (.rg [p 3 (.new [.int .i64 0, .int .i64 0, .bool false, .int .i64 0, .int .i64 0, .int .i64 0, .int .i64 0])])
 (.seq (.rg [p 4 (.fa 0 (.t 1)),
 p 5 (.ld (.t 4)),
 p 6 (.fa 0 (.t 3)),
 ⟨none, .st (.t 6) (.t 5), none, false⟩])
 (.seq (.rg [p 7 (.fa 1 (.t 1)),
 p 8 (.ld (.t 7)),
 p 9 (.fa 1 (.t 3)),
 ⟨none, .st (.t 9) (.t 8), none, false⟩])
 (.seq (.rg [p 10 (.fa 2 (.t 1)),
 p 11 (.ld (.t 10)),
 p 12 (.fa 2 (.t 3)),
 ⟨none, .st (.t 12) (.t 11), none, false⟩])
 (.seq (.rg [p 13 (.fa 3 (.t 1)),
 p 14 (.ld (.t 13)),
 p 15 (.fa 3 (.t 3)),
 ⟨none, .st (.t 15) (.t 14), none, false⟩])
 (.seq (.rg [p 16 (.fa 4 (.t 1)),
 p 17 (.ld (.t 16)),
 p 18 (.fa 4 (.t 3)),
 ⟨none, .st (.t 18) (.t 17), none, false⟩])
 (.seq (.rg [p 19 (.fa 5 (.t 1)),
 p 20 (.ld (.t 19)),
 p 21 (.fa 5 (.t 3)),
 ⟨none, .st (.t 21) (.t 20), none, false⟩])
 (.seq (.rg [p 22 (.fa 6 (.t 1)),
 p 23 (.ld (.t 22)),
 p 24 (.fa 6 (.t 3)),
 ⟨none, .st (.t 24) (.t 23), none, false⟩])
 (.seq (.rg [p 25 (.ldn 7 (.t 3)),
 ⟨none, .stn 7 (.t 2) (.t 25), none, false⟩])
 .ret)))))))))),
 [.celln 2 7]⟩

def F162 : Fnc := ⟨(.seq (.rg [p 2 (.mv (.k (.slice none 0 0)))])
 (.seq (.rg [p 5 (.mv (.t 0)),
 p 6 (.len (.t 5)),
 p 7 (.mk 7 56 [.int .i64 0, .int .i64 0, .bool false, .int .i64 0, .int .i64 0, .int .i64 0, .int .i64 0] (.t 6) (.t 6)),
 p 3 (.mv (.t 7))])
 (.seq (.seq (.rg [p 4 (.mv (.k (.int .i64 0)))])
 (.block 0 (.loop (.seq (.seq (.rg [p 8 (.mv (.t 4)),
 p 9 (.mv (.t 0)),
 p 10 (.len (.t 9)),
 p 11 (.bin .lss (.t 8) (.t 10))])
 (.cond (.t 11) .skip
 (.exit 0)))
 (.seq (.block 1 (.rg [p 14 (.mv (.t 3)),
 p 15 (.mv (.t 4)),
 p 16 (.mv (.t 0)),
 p 17 (.mv (.t 4)),
 p 18 (.ia 7 (.t 16) (.t 17)),
 p 19 (.ldn 7 (.t 18)),
 p 20 (.call 161 [(.t 19)]),
 p 21 (.ia 7 (.t 14) (.t 15)),
 ⟨none, .stn 7 (.t 21) (.t 20), none, false⟩]))
 (.rg [p 12 (.mv (.t 4)),
 p 13 (.bin .add (.t 12) (.k (.int .i64 1))),
 p 4 (.mv (.t 13))]))))))
 (.seq (.rg [p 22 (.mv (.t 3)),
 p 2 (.mv (.t 22))])
 .ret)))),
 [.tmp 2]⟩

def F163 : Fnc := ⟨(.seq (.rg [p 2 (.mv (.k (.slice none 0 0)))])
 (.seq (.rg [p 5 (.mv (.t 0)),
 p 6 (.len (.t 5)),
 p 7 (.mk 1 8 [.int .i64 0] (.t 6) (.t 6)),
 p 3 (.mv (.t 7))])
 (.seq (.seq (.rg [p 4 (.mv (.k (.int .i64 0)))])
 (.block 0 (.loop (.seq (.seq (.rg [p 8 (.mv (.t 4)),
 p 9 (.mv (.t 0)),
 p 10 (.len (.t 9)),
 p 11 (.bin .lss (.t 8) (.t 10))])
 (.cond (.t 11) .skip
 (.exit 0)))
 (.seq (.block 1 (.rg [p 14 (.mv (.t 3)),
 p 15 (.mv (.t 4)),
 p 16 (.mv (.t 0)),
 p 17 (.mv (.t 4)),
 p 18 (.ia 1 (.t 16) (.t 17)),
 p 19 (.ld (.t 18)),
 p 20 (.ia 1 (.t 14) (.t 15)),
 ⟨none, .st (.t 20) (.t 19), none, false⟩]))
 (.rg [p 12 (.mv (.t 4)),
 p 13 (.bin .add (.t 12) (.k (.int .i64 1))),
 p 4 (.mv (.t 13))]))))))
 (.seq (.rg [p 21 (.mv (.t 3)),
 p 2 (.mv (.t 21))])
 .ret)))),
 [.tmp 2]⟩

def F164 : Fnc := ⟨(.seq (.rg [p 1 (.box (.t 0)),
 p 2 (.new [.int .i64 0, .bool false, .int .i64 0, .int .i64 0])])
 (.seq (.rg [p 3 (.new [.int .i64 0, .bool false, .int .i64 0, .int .i64 0])])
 (.seq (.rg [p 4 (.fa 0 (.t 1)),
 p 5 (.ld (.t 4)),
 p 6 (.fa 0 (.t 3)),
 ⟨none, .st (.t 6) (.t 5), none, false⟩])
 (.seq (.rg [p 7 (.fa 1 (.t 1)),
 p 8 (.ld (.t 7)),
 p 9 (.fa 1 (.t 3)),
 ⟨none, .st (.t 9) (.t 8), none, false⟩])
 (.seq (.rg [p 10 (.fa 2 (.t 1)),
 p 11 (.ld (.t 10)),
 p 12 (.fa 2 (.t 3)),
 ⟨none, .st (.t 12) (.t 11), none, false⟩])
 (.seq (.rg [p 13 (.fa 3 (.t 1)),
 p 14 (.ld (.t 13)),
 p 15 (.fa 3 (.t 3)),
 ⟨none, .st (.t 15) (.t 14), none, false⟩])
 (.seq (.rg [p 16 (.ldn 4 (.t 3)),
 ⟨none, .stn 4 (.t 2) (.t 16), none, false⟩])
 .ret))))))),
 [.celln 2 4]⟩

def F165 : Fnc := ⟨(.seq (.rg [p 2 (.mv (.k (.slice none 0 0)))])
 (.seq (.rg [p 5 (.mv (.t 0)),
 p 6 (.len (.t 5)),
 p 7 (.mk 4 32 [.int .i64 0, .bool false, .int .i64 0, .int .i64 0] (.t 6) (.t 6)),
 p 3 (.mv (.t 7))])
 (.seq (.seq (.rg [p 4 (.mv (.k (.int .i64 0)))])
 (.block 0 (.loop (.seq (.seq (.rg [p 8 (.mv (.t 4)),
 p 9 (.mv (.t 0)),
 p 10 (.len (.t 9)),
 p 11 (.bin .lss (.t 8) (.t 10))])
 (.cond (.t 11) .skip
 (.exit 0)))
 (.seq (.block 1 (.rg [p 14 (.mv (.t 3)),
 p 15 (.mv (.t 4)),
 p 16 (.mv (.t 0)),
 p 17 (.mv (.t 4)),
 p 18 (.ia 4 (.t 16) (.t 17)),
 p 19 (.ldn 4 (.t 18)),
 p 20 (.call 164 [(.t 19)]),
 p 21 (.ia 4 (.t 14) (.t 15)),
 ⟨none, .stn 4 (.t 21) (.t 20), none, false⟩]))
 (.rg [p 12 (.mv (.t 4)),
 p 13 (.bin .add (.t 12) (.k (.int .i64 1))),
 p 4 (.mv (.t 13))]))))))
 (.seq (.rg [p 22 (.mv (.t 3)),
 p 2 (.mv (.t 22))])
 .ret)))),
 [.tmp 2]⟩

def F166 : Fnc := ⟨(.seq (.rg [p 1 (.box (.t 0)),
 p 2 (.new [.slice none 0 0, .slice none 0 0, .int .i64 0, .slice none 0 0])])
 (.seq (.rg [p 3 (.new [.slice none 0 0, .slice none 0 0, .int .i64 0, .slice none 0 0])])
 (.seq (.rg [p 4 (.fa 0 (.t 1)),
 p 5 (.ld (.t 4)),
 p 6 (.call 163 [(.t 5)]),
 p 7 (.fa 0 (.t 3)),
 ⟨none, .st (.t 7) (.t 6), none, false⟩])
 (.seq (.rg [p 8 (.fa 1 (.t 1)),
 p 9 (.ldn 3 (.t 8)),
 p 10 (.call 160 [(.t 9)]),
 p 11 (.fa 1 (.t 3)),
 ⟨none, .stn 3 (.t 11) (.t 10), none, false⟩])
 (.seq (.rg [p 12 (.ldn 4 (.t 3)),
 ⟨none, .stn 4 (.t 2) (.t 12), none, false⟩])
 .ret))))),
 [.celln 2 4]⟩

def F167 : Fnc := ⟨(.seq (.rg [p 1 (.box (.t 0)),
 p 2 (.new [.slice none 0 0, .int .i64 0, .int .i64 0, .int .i64 0, .bool false, .bool false])])
 (.seq (.rg [p 3 (.new [.slice none 0 0, .int .i64 0, .int .i64 0, .int .i64 0, .bool false, .bool false])])
 (.seq (.rg [p 4 (.fa 0 (.t 1)),
 p 5 (.ld (.t 4)),
 p 6 (.call 170 [(.t 5)]),
 p 7 (.fa 0 (.t 3)),
 ⟨none, .st (.t 7) (.t 6), none, false⟩])
 (.seq (.rg [p 8 (.fa 1 (.t 1)),
 p 9 (.ld (.t 8)),
 p 10 (.fa 1 (.t 3)),
 ⟨none, .st (.t 10) (.t 9), none, false⟩])
 (.seq (.rg [p 11 (.fa 2 (.t 1)),
 p 12 (.ld (.t 11)),
 p 13 (.fa 2 (.t 3)),
 ⟨none, .st (.t 13) (.t 12), none, false⟩])
 (.seq (.rg [p 14 (.fa 3 (.t 1)),
 p 15 (.ld (.t 14)),
 p 16 (.fa 3 (.t 3)),
 ⟨none, .st (.t 16) (.t 15), none, false⟩])
 (.seq (.rg [p 17 (.fa 4 (.t 1)),
 p 18 (.ld (.t 17)),
 p 19 (.fa 4 (.t 3)),
 ⟨none, .st (.t 19) (.t 18), none, false⟩])
 (.seq (.rg [p 20 (.fa 5 (.t 1)),
 p 21 (.ld (.t 20)),
 p 22 (.fa 5 (.t 3)),
 ⟨none, .st (.t 22) (.t 21), none, false⟩])
 (.seq (.rg [p 23 (.ldn 6 (.t 3)),
 ⟨none, .stn 6 (.t 2) (.t 23), none, false⟩])
 .ret))))))))),
 [.celln 2 6]⟩

def F168 : Fnc := ⟨(.seq (.rg [p 2 (.mv (.k (.slice none 0 0)))])
 (.seq (.rg [p 5 (.mv (.t 0)),
 p 6 (.len (.t 5)),
 p 7 (.mk 6 56 [.slice none 0 0, .int .i64 0, .int .i64 0, .int .i64 0, .bool false, .bool false] (.t 6) (.t 6)),
 p 3 (.mv (.t 7))])
 (.seq (.seq (.rg [p 4 (.mv (.k (.int .i64 0)))])
 (.block 0 (.loop (.seq (.seq (.rg [p 8 (.mv (.t 4)),
 p 9 (.mv (.t 0)),
 p 10 (.len (.t 9)),
 p 11 (.bin .lss (.t 8) (.t 10))])
 (.cond (.t 11) .skip
 (.exit 0)))
 (.seq (.block 1 (.rg [p 14 (.mv (.t 3)),
 p 15 (.mv (.t 4)),
 p 16 (.mv (.t 0)),
 p 17 (.mv (.t 4)),
 p 18 (.ia 6 (.t 16) (.t 17)),
 p 19 (.ldn 6 (.t 18)),
 p 20 (.call 167 [(.t 19)]),
 p 21 (.ia 6 (.t 14) (.t 15)),
 ⟨none, .stn 6 (.t 21) (.t 20), none, false⟩]))
 (.rg [p 12 (.mv (.t 4)),
 p 13 (.bin .add (.t 12) (.k (.int .i64 1))),
 p 4 (.mv (.t 13))]))))))
 (.seq (.rg [p 22 (.mv (.t 3)),
 p 2 (.mv (.t 22))])
 .ret)))),
 [.tmp 2]⟩

def F169 : Fnc := ⟨(.seq (.rg [p 1 (.box (.t 0)),
 p 2 (.new [.bool false, .int .i64 0, .int .i64 0, .int .i64 0, .bool false, .slice none 0 0])])
 (.seq (.rg [p 3 (.new [.bool false, .int .i64 0, .int .i64 0, .int .i64 0, .bool false, .slice none 0 0])])
 (.seq (.rg [p 4 (.fa 0 (.t 1)),
 p 5 (.ld (.t 4)),
 p 6 (.fa 0 (.t 3)),
 ⟨none, .st (.t 6) (.t 5), none, false⟩])
 (.seq (.rg [p 7 (.fa 1 (.t 1)),
 p 8 (.ld (.t 7)),
 p 9 (.fa 1 (.t 3)),
 ⟨none, .st (.t 9) (.t 8), none, false⟩])
 (.seq (.rg [p 10 (.fa 2 (.t 1)),
 p 11 (.ld (.t 10)),
 p 12 (.fa 2 (.t 3)),
 ⟨none, .st (.t 12) (.t 11), none, false⟩])
 (.seq (.rg [p 13 (.fa 3 (.t 1)),
 p 14 (.ld (.t 13)),
 p 15 (.fa 3 (.t 3)),
 ⟨none, .st (.t 15) (.t 14), none, false⟩])
 (.seq (.rg [p 16 (.fa 4 (.t 1)),
 p 17 (.ld (.t 16)),
 p 18 (.fa 4 (.t 3)),
 ⟨none, .st (.t 18) (.t 17), none, false⟩])
 (.seq (.rg [p 19 (.fa 5 (.t 1)),
 p 20 (.ld (.t 19)),
 p 21 (.call 163 [(.t 20)]),
 p 22 (.fa 5 (.t 3)),
 ⟨none, .st (.t 22) (.t 21), none, false⟩])
 (.seq (.rg [p 23 (.ldn 6 (.t 3)),
 ⟨none, .stn 6 (.t 2) (.t 23), none, false⟩])
 .ret))))))))),
 [.celln 2 6]⟩

def F170 : Fnc := ⟨(.seq (.rg [p 2 (.mv (.k (.slice none 0 0)))])
 (.seq (.rg [p 5 (.mv (.t 0)),
 p 6 (.len (.t 5)),
 p 7 (.mk 6 64 [.bool false, .int .i64 0, .int .i64 0, .int .i64 0, .bool false, .slice none 0 0] (.t 6) (.t 6)),
 p 3 (.mv (.t 7))])
 (.seq (.seq (.rg [p 4 (.mv (.k (.int .i64 0)))])
 (.block 0 (.loop (.seq (.seq (.rg [p 8 (.mv (.t 4)),
 p 9 (.mv (.t 0)),
 p 10 (.len (.t 9)),
 p 11 (.bin .lss (.t 8) (.t 10))])
 (.cond (.t 11) .skip
 (.exit 0)))
 (.seq (.block 1 (.rg [p 14 (.mv (.t 3)),
 p 15 (.mv (.t 4)),
 p 16 (.mv (.t 0)),
 p 17 (.mv (.t 4)),
 p 18 (.ia 6 (.t 16) (.t 17)),
 p 19 (.ldn 6 (.t 18)),
 p 20 (.call 169 [(.t 19)]),
 p 21 (.ia 6 (.t 14) (.t 15)),
 ⟨none, .stn 6 (.t 21) (.t 20), none, false⟩]))
 (.rg [p 12 (.mv (.t 4)),
 p 13 (.bin .add (.t 12) (.k (.int .i64 1))),
 p 4 (.mv (.t 13))]))))))
 (.seq (.rg [p 22 (.mv (.t 3)),
 p 2 (.mv (.t 22))])
 .ret)))),
 [.tmp 2]⟩

def F171 : Fnc := ⟨(.seq (.rg [p 1 (.box (.t 0)),
 p 2 (.new [.int .i64 0, .int .i64 0])])
 (.seq (.rg [p 3 (.new [.int .i64 0, .int .i64 0])])
 (.seq (.rg [p 4 (.fa 0 (.t 1)),
 p 5 (.ld (.t 4)),
 p 6 (.fa 0 (.t 3)),
 ⟨none, .st (.t 6) (.t 5), none, false⟩])
 (.seq (.rg [p 7 (.fa 1 (.t 1)),
 p 8 (.ld (.t 7)),
 p 9 (.fa 1 (.t 3)),
 ⟨none, .st (.t 9) (.t 8), none, false⟩])
 (.seq (.rg [p 10 (.ldn 2 (.t 3)),
 ⟨none, .stn 2 (.t 2) (.t 10), none, false⟩])
 .ret))))),
 [.celln 2 2]⟩

def F210 : Fnc := ⟨(.seq (.rg [p 2 (.box (.t 0)),
 p 3 (.box (.t 1)),
 p 4 (.mv (.k (.bool false)))])
 (.seq (.seq (.rg [p 6 (.fa 0 (.t 2)),
 p 7 (.ld (.t 6)),
 p 8 (.len (.t 7)),
 p 9 (.fa 0 (.t 3)),
 p 10 (.ld (.t 9)),
 p 11 (.len (.t 10)),
 p 12 (.bin .neq (.t 8) (.t 11))])
 (.cond (.t 12) (.seq (.rg [p 4 (.mv (.k (.bool false)))])
 .ret)
 .skip))
 (.seq (.seq (.rg [p 5 (.mv (.k (.int .i64 0)))])
 (.block 0 (.loop (.seq (.seq (.rg [p 13 (.mv (.t 5)),
 p 14 (.fa 0 (.t 2)),
 p 15 (.ld (.t 14)),
 p 16 (.len (.t 15)),
 p 17 (.bin .lss (.t 13) (.t 16))])
 (.cond (.t 17) .skip
 (.exit 0)))
 (.seq (.block 1 (.seq (.rg [⟨(some 20), .fa 0 (.t 2), none, true⟩,
 ⟨(some 21), .ld (.t 20), none, true⟩,
 ⟨(some 22), .mv (.t 5), none, true⟩,
 ⟨(some 23), .ia 6 (.t 21) (.t 22), none, true⟩,
 ⟨(some 24), .ldn 6 (.t 23), none, true⟩,
 ⟨(some 25), .fa 0 (.t 3), none, true⟩,
 ⟨(some 26), .ld (.t 25), none, true⟩,
 ⟨(some 27), .mv (.t 5), none, true⟩,
 ⟨(some 28), .ia 6 (.t 26) (.t 27), none, true⟩,
 ⟨(some 29), .ldn 6 (.t 28), none, true⟩,
 p 30 (.call 211 [(.t 24), (.t 29)]),
 p 31 (.not (.t 30))])
 (.cond (.t 31) (.seq (.rg [p 4 (.mv (.k (.bool false)))])
 .ret)
 .skip)))
 (.rg [p 18 (.mv (.t 5)),
 p 19 (.bin .add (.t 18) (.k (.int .i64 1))),
 p 5 (.mv (.t 19))]))))))
 (.seq (.rg [p 32 (.fa 1 (.t 2)),
 p 33 (.ld (.t 32)),
 p 34 (.fa 1 (.t 3)),
 p 35 (.ld (.t 34)),
 p 36 (.bin .eql (.t 33) (.t 35)),
 p 37 (.mv (.t 36)),
 ⟨(some 38), .fa 2 (.t 2), (some (37, true)), false⟩,
 ⟨(some 39), .ld (.t 38), (some (37, true)), false⟩,
 ⟨(some 40), .fa 2 (.t 3), (some (37, true)), false⟩,
 ⟨(some 41), .ld (.t 40), (some (37, true)), false⟩,
 ⟨(some 42), .bin .eql (.t 39) (.t 41), (some (37, true)), false⟩,
 p 43 (.pick (.t 37) (.t 42) (.k (.bool false))),
 p 44 (.mv (.t 43)),
 ⟨(some 45), .fa 3 (.t 2), (some (44, true)), false⟩,
 ⟨(some 46), .ld (.t 45), (some (44, true)), false⟩,
 ⟨(some 47), .fa 3 (.t 3), (some (44, true)), false⟩,
 ⟨(some 48), .ld (.t 47), (some (44, true)), false⟩,
 ⟨(some 49), .bin .eql (.t 46) (.t 48), (some (44, true)), false⟩,
 p 50 (.pick (.t 44) (.t 49) (.k (.bool false))),
 p 51 (.mv (.t 50)),
 ⟨(some 52), .fa 4 (.t 2), (some (51, true)), false⟩,
 ⟨(some 53), .ld (.t 52), (some (51, true)), false⟩,
 ⟨(some 54), .fa 4 (.t 3), (some (51, true)), false⟩,
 ⟨(some 55), .ld (.t 54), (some (51, true)), false⟩,
 ⟨(some 56), .eqb false (.t 53) (.t 55), (some (51, true)), false⟩,
 p 57 (.pick (.t 51) (.t 56) (.k (.bool false))),
 p 58 (.mv (.t 57)),
 ⟨(some 59), .fa 5 (.t 2), (some (58, true)), false⟩,
 ⟨(some 60), .ld (.t 59), (some (58, true)), false⟩,
 ⟨(some 61), .fa 5 (.t 3), (some (58, true)), false⟩,
 ⟨(some 62), .ld (.t 61), (some (58, true)), false⟩,
 ⟨(some 63), .eqb false (.t 60) (.t 62), (some (58, true)), false⟩,
 p 64 (.pick (.t 58) (.t 63) (.k (.bool false))),
 p 4 (.mv (.t 64))])
 .ret)))),
 [.tmp 4]⟩

def F211 : Fnc := ⟨(.seq (.rg [p 2 (.box (.t 0)),
 p 3 (.box (.t 1)),
 p 4 (.mv (.k (.bool false)))])
 (.seq (.rg [p 5 (.fa 0 (.t 2)),
 p 6 (.ld (.t 5)),
 p 7 (.fa 0 (.t 3)),
 p 8 (.ld (.t 7)),
 p 9 (.eqb false (.t 6) (.t 8)),
 p 10 (.mv (.t 9)),
 ⟨(some 11), .fa 1 (.t 2), (some (10, true)), false⟩,
 ⟨(some 12), .ld (.t 11), (some (10, true)), false⟩,
 ⟨(some 13), .fa 1 (.t 3), (some (10, true)), false⟩,
 ⟨(some 14), .ld (.t 13), (some (10, true)), false⟩,
 ⟨(some 15), .bin .eql (.t 12) (.t 14), (some (10, true)), false⟩,
 p 16 (.pick (.t 10) (.t 15) (.k (.bool false))),
 p 17 (.mv (.t 16)),
 ⟨(some 18), .fa 2 (.t 2), (some (17, true)), false⟩,
 ⟨(some 19), .ld (.t 18), (some (17, true)), false⟩,
 ⟨(some 20), .fa 2 (.t 3), (some (17, true)), false⟩,
 ⟨(some 21), .ld (.t 20), (some (17, true)), false⟩,
 ⟨(some 22), .bin .eql (.t 19) (.t 21), (some (17, true)), false⟩,
 p 23 (.pick (.t 17) (.t 22) (.k (.bool false))),
 p 24 (.mv (.t 23)),
 ⟨(some 25), .fa 3 (.t 2), (some (24, true)), false⟩,
 ⟨(some 26), .ld (.t 25), (some (24, true)), false⟩,
 ⟨(some 27), .fa 3 (.t 3), (some (24, true)), false⟩,
 ⟨(some 28), .ld (.t 27), (some (24, true)), false⟩,
 ⟨(some 29), .bin .eql (.t 26) (.t 28), (some (24, true)), false⟩,
 p 30 (.pick (.t 24) (.t 29) (.k (.bool false))),
 p 31 (.mv (.t 30)),
 ⟨(some 32), .fa 4 (.t 2), (some (31, true)), false⟩,
 ⟨(some 33), .ld (.t 32), (some (31, true)), false⟩,
 ⟨(some 34), .fa 4 (.t 3), (some (31, true)), false⟩,
 ⟨(some 35), .ld (.t 34), (some (31, true)), false⟩,
 ⟨(some 36), .eqb false (.t 33) (.t 35), (some (31, true)), false⟩,
 p 37 (.pick (.t 31) (.t 36) (.k (.bool false))),
 p 38 (.mv (.t 37)),
 ⟨(some 39), .fa 5 (.t 2), (some (38, true)), false⟩,
 ⟨(some 40), .ld (.t 39), (some (38, true)), false⟩,
 ⟨(some 41), .fa 5 (.t 3), (some (38, true)), false⟩,
 ⟨(some 42), .ld (.t 41), (some (38, true)), false⟩,
 ⟨(some 43), .call 240 [(.t 40), (.t 42)], (some (38, true)), false⟩,
 p 44 (.pick (.t 38) (.t 43) (.k (.bool false))),
 p 4 (.mv (.t 44))])
 .ret)),
 [.tmp 4]⟩

def F225 : Fnc := ⟨(.seq (.rg [p 4 (.mv (.k (.bool false)))])
 (.seq (.seq (.rg [p 6 (.mv (.t 0)),
 p 7 (.len (.t 6)),
 p 8 (.mv (.t 1)),
 p 9 (.len (.t 8)),
 p 10 (.bin .neq (.t 7) (.t 9))])
 (.cond (.t 10) (.seq (.rg [p 4 (.mv (.k (.bool false)))])
 .ret)
 .skip))
 (.seq (.seq (.rg [p 5 (.mv (.k (.int .i64 0)))])
 (.block 0 (.loop (.seq (.seq (.rg [p 11 (.mv (.t 5)),
 p 12 (.mv (.t 0)),
 p 13 (.len (.t 12)),
 p 14 (.bin .lss (.t 11) (.t 13))])
 (.cond (.t 14) .skip
 (.exit 0)))
 (.seq (.block 1 (.seq (.rg [⟨(some 17), .mv (.t 0), none, true⟩,
 ⟨(some 18), .mv (.t 5), none, true⟩,
 ⟨(some 19), .ia 7 (.t 17) (.t 18), none, true⟩,
 ⟨(some 20), .ldn 7 (.t 19), none, true⟩,
 ⟨(some 21), .mv (.t 1), none, true⟩,
 ⟨(some 22), .mv (.t 5), none, true⟩,
 ⟨(some 23), .ia 7 (.t 21) (.t 22), none, true⟩,
 ⟨(some 24), .ldn 7 (.t 23), none, true⟩,
 p 25 (.eqs true [.i, .i, .b, .i, .i, .i, .i] (.t 20) (.t 24))])
 (.cond (.t 25) (.seq (.rg [p 4 (.mv (.k (.bool false)))])
 .ret)
 .skip)))
 (.rg [p 15 (.mv (.t 5)),
 p 16 (.bin .add (.t 15) (.k (.int .i64 1))),
 p 5 (.mv (.t 16))]))))))
 (.seq (.rg [p 4 (.mv (.k (.bool true)))])
 .ret)))),
 [.tmp 4]⟩

def F240 : Fnc := ⟨(.seq (.rg [p 4 (.mv (.k (.bool false)))])
 (.seq (.seq (.rg [p 6 (.mv (.t 0)),
 p 7 (.len (.t 6)),
 p 8 (.mv (.t 1)),
 p 9 (.len (.t 8)),
 p 10 (.bin .neq (.t 7) (.t 9))])
 (.cond (.t 10) (.seq (.rg [p 4 (.mv (.k (.bool false)))])
 .ret)
 .skip))
 (.seq (.seq (.rg [p 5 (.mv (.k (.int .i64 0)))])
 (.block 0 (.loop (.seq (.seq (.rg [p 11 (.mv (.t 5)),
 p 12 (.mv (.t 0)),
 p 13 (.len (.t 12)),
 p 14 (.bin .lss (.t 11) (.t 13))])
 (.cond (.t 14) .skip
 (.exit 0)))
 (.seq (.block 1 (.seq (.rg [⟨(some 17), .mv (.t 0), none, true⟩,
 ⟨(some 18), .mv (.t 5), none, true⟩,
 ⟨(some 19), .ia 1 (.t 17) (.t 18), none, true⟩,
 ⟨(some 20), .ld (.t 19), none, true⟩,
 ⟨(some 21), .mv (.t 1), none, true⟩,
 ⟨(some 22), .mv (.t 5), none, true⟩,
 ⟨(some 23), .ia 1 (.t 21) (.t 22), none, true⟩,
 ⟨(some 24), .ld (.t 23), none, true⟩,
 p 25 (.bin .neq (.t 20) (.t 24))])
 (.cond (.t 25) (.seq (.rg [p 4 (.mv (.k (.bool false)))])
 .ret)
 .skip)))
 (.rg [p 15 (.mv (.t 5)),
 p 16 (.bin .add (.t 15) (.k (.int .i64 1))),
 p 5 (.mv (.t 16))]))))))
 (.seq (.rg [p 4 (.mv (.k (.bool true)))])
 .ret)))),
 [.tmp 4]⟩

def F263 : Fnc := ⟨(.seq (.rg [p 6 (.mv (.k (.bool false)))])
 (.seq (.seq (.rg [p 10 (.mv (.t 0)),
 p 11 (.len (.t 10)),
 p 12 (.mv (.t 1)),
 p 13 (.len (.t 12)),
 p 14 (.bin .neq (.t 11) (.t 13))])
 (.cond (.t 14) (.seq (.rg [p 6 (.mv (.k (.bool false)))])
 .ret)
 .skip))
 (.seq (.seq (.rg [p 15 (.mv (.t 0)),
 p 16 (.len (.t 15)),
 p 17 (.mv (.k (.int .i64 0)))])
 (.block 0 (.loop (.seq (.rg [p 18 (.bin .lss (.t 17) (.t 16))])
 (.seq (.cond (.t 18) .skip
 (.exit 0))
 (.seq (.block 1 (.seq (.rg [p 19 (.mv (.t 17)),
 p 20 (.ia 6 (.t 15) (.t 17)),
 p 21 (.ldn 6 (.t 20)),
 p 8 (.new [.bool false, .int .i64 0, .int .i64 0, .int .i64 0, .bool false, .slice none 0 0]),
 p 7 (.mv (.t 19)),
 ⟨none, .stn 6 (.t 8) (.t 21), none, false⟩])
 (.seq (.rg [p 22 (.mv (.t 1)),
 p 23 (.mv (.t 7)),
 p 24 (.ia 6 (.t 22) (.t 23)),
 p 25 (.ldn 6 (.t 24)),
 p 9 (.new [.bool false, .int .i64 0, .int .i64 0, .int .i64 0, .bool false, .slice none 0 0]),
 ⟨none, .stn 6 (.t 9) (.t 25), none, false⟩])
 (.seq (.rg [p 26 (.mv (.t 2)),
 p 27 (.ldn 6 (.t 8)),
 p 28 (.ldn 6 (.t 9)),
 p 29 (.calli (.t 26) [(.t 27), (.t 28)]),
 p 30 (.not (.t 29))])
 (.cond (.t 30) (.seq (.rg [p 6 (.mv (.k (.bool false)))])
 .ret)
 .skip)))))
 (.rg [p 31 (.bin .add (.t 17) (.k (.int .i64 1))),
 p 17 (.mv (.t 31))])))))))
 (.seq (.rg [p 6 (.mv (.k (.bool true)))])
 .ret)))),
 [.tmp 6]⟩

def F264 : Fnc := ⟨(.seq (.rg [p 4 (.mv (.k (.bool false)))])
 (.seq (.seq (.rg [p 6 (.mv (.t 0)),
 p 7 (.len (.t 6)),
 p 8 (.mv (.t 1)),
 p 9 (.len (.t 8)),
 p 10 (.bin .neq (.t 7) (.t 9))])
 (.cond (.t 10) (.seq (.rg [p 4 (.mv (.k (.bool false)))])
 .ret)
 .skip))
 (.seq (.seq (.rg [p 11 (.mv (.t 0)),
 p 12 (.len (.t 11)),
 p 13 (.mv (.k (.int .i64 0)))])
 (.block 0 (.loop (.seq (.rg [p 14 (.bin .lss (.t 13) (.t 12))])
 (.seq (.cond (.t 14) .skip
 (.exit 0))
 (.seq (.block 1 (.seq (.rg [p 15 (.mv (.t 13)),
 p 5 (.mv (.t 15))])
 (.seq (.rg [⟨(some 16), .mv (.t 0), none, true⟩,
 ⟨(some 17), .mv (.t 5), none, true⟩,
 ⟨(some 18), .ia 1 (.t 16) (.t 17), none, true⟩,
 ⟨(some 19), .ld (.t 18), none, true⟩,
 ⟨(some 20), .mv (.t 1), none, true⟩,
 ⟨(some 21), .mv (.t 5), none, true⟩,
 ⟨(some 22), .ia 1 (.t 20) (.t 21), none, true⟩,
 ⟨(some 23), .ld (.t 22), none, true⟩,
 p 24 (.bin .neq (.t 19) (.t 23))])
 (.cond (.t 24) (.seq (.rg [p 4 (.mv (.k (.bool false)))])
 .ret)
 .skip))))
 (.rg [p 25 (.bin .add (.t 13) (.k (.int .i64 1))),
 p 13 (.mv (.t 25))])))))))
 (.seq (.rg [p 4 (.mv (.k (.bool true)))])
 .ret)))),
 [.tmp 4]⟩

def F265 : Fnc := ⟨(.seq (.rg [p 4 (.mv (.k (.bool false)))])
 (.seq (.seq (.rg [p 6 (.mv (.t 0)),
 p 7 (.len (.t 6)),
 p 8 (.mv (.t 1)),
 p 9 (.len (.t 8)),
 p 10 (.bin .neq (.t 7) (.t 9))])
 (.cond (.t 10) (.seq (.rg [p 4 (.mv (.k (.bool false)))])
 .ret)
 .skip))
 (.seq (.seq (.rg [p 11 (.mv (.t 0)),
 p 12 (.len (.t 11)),
 p 13 (.mv (.k (.int .i64 0)))])
 (.block 0 (.loop (.seq (.rg [p 14 (.bin .lss (.t 13) (.t 12))])
 (.seq (.cond (.t 14) .skip
 (.exit 0))
 (.seq (.block 1 (.seq (.rg [p 15 (.mv (.t 13)),
 p 5 (.mv (.t 15))])
 (.seq (.rg [⟨(some 16), .mv (.t 0), none, true⟩,
 ⟨(some 17), .mv (.t 5), none, true⟩,
 ⟨(some 18), .ia 7 (.t 16) (.t 17), none, true⟩,
 ⟨(some 19), .ldn 7 (.t 18), none, true⟩,
 ⟨(some 20), .mv (.t 1), none, true⟩,
 ⟨(some 21), .mv (.t 5), none, true⟩,
 ⟨(some 22), .ia 7 (.t 20) (.t 21), none, true⟩,
 ⟨(some 23), .ldn 7 (.t 22), none, true⟩,
 p 24 (.eqs true [.i, .i, .b, .i, .i, .i, .i] (.t 19) (.t 23))])
 (.cond (.t 24) (.seq (.rg [p 4 (.mv (.k (.bool false)))])
 .ret)
 .skip))))
 (.rg [p 25 (.bin .add (.t 13) (.k (.int .i64 1))),
 p 13 (.mv (.t 25))])))))))
 (.seq (.rg [p 4 (.mv (.k (.bool true)))])
 .ret)))),
 [.tmp 4]⟩

def F350 : Fnc := ⟨(.seq (.rg [p 2 (.box (.t 0)),
 p 3 (.box (.t 1)),
 p 4 (.mv (.k (.bool false)))])
 (.seq (.rg [p 5 (.mv (.k (.int .i64 1048576)))])
 (.seq (.rg [p 10 (.ldn 37 (.t 2)),
 p 11 (.mv (.t 5)),
 p 12 (.call 144 [(.t 10), (.t 11)]),
 p 5 (.mv (.t 12))])
 (.seq (.seq (.rg [p 13 (.mv (.t 5)),
 p 14 (.bin .lss (.t 13) (.k (.int .i64 0)))])
 (.cond (.t 14) (.seq (.rg [p 4 (.mv (.k (.bool true)))])
 .ret)
 .skip))
 (.seq (.rg [p 15 (.ldn 37 (.t 3)),
 p 16 (.mv (.t 5)),
 p 17 (.call 144 [(.t 15), (.t 16)]),
 p 5 (.mv (.t 17))])
 (.seq (.seq (.rg [p 18 (.mv (.t 5)),
 p 19 (.bin .lss (.t 18) (.k (.int .i64 0)))])
 (.cond (.t 19) (.seq (.rg [p 4 (.mv (.k (.bool true)))])
 .ret)
 .skip))
 (.seq (.rg [⟨(some 20), .ldn 37 (.t 2), none, true⟩,
 ⟨(some 21), .call 158 [(.t 20)], none, true⟩,
 ⟨(some 22), .ldn 37 (.t 3), none, true⟩,
 p 23 (.call 158 [(.t 22)]),
 p 24 (.call 366 [(.t 21), (.t 23)]),
 p 6 (.mv (.t 24))])
 (.seq (.rg [p 25 (.ldn 37 (.t 2)),
 p 26 (.call 158 [(.t 25)]),
 p 7 (.new [.slice none 0 0, .int .i64 0, .int .i64 0, .int .i64 0, .int .i64 0, .int .i64 0, .int .i64 0, .slice none 0 0, .int .i64 0, .int .i64 0, .slice none 0 0, .slice none 0 0, .int .i64 0, .int .i64 0, .int .i64 0, .bool false, .int .i64 0, .int .i64 0, .bool false, .int .i64 0, .int .i64 0, .int .i64 0, .bool false, .bool false, .int .i64 0, .int .i64 0, .bool false, .int .i64 0, .int .i64 0, .int .i64 0, .bool false, .slice none 0 0, .slice none 0 0, .int .i64 0, .slice none 0 0, .int .i64 0, .slice none 0 0]),
 ⟨none, .stn 37 (.t 7) (.t 26), none, false⟩])
 (.seq (.rg [p 27 (.ldn 37 (.t 3)),
 p 28 (.call 158 [(.t 27)]),
 p 8 (.new [.slice none 0 0, .int .i64 0, .int .i64 0, .int .i64 0, .int .i64 0, .int .i64 0, .int .i64 0, .slice none 0 0, .int .i64 0, .int .i64 0, .slice none 0 0, .slice none 0 0, .int .i64 0, .int .i64 0, .int .i64 0, .bool false, .int .i64 0, .int .i64 0, .bool false, .int .i64 0, .int .i64 0, .int .i64 0, .bool false, .bool false, .int .i64 0, .int .i64 0, .bool false, .int .i64 0, .int .i64 0, .int .i64 0, .bool false, .slice none 0 0, .slice none 0 0, .int .i64 0, .slice none 0 0, .int .i64 0, .slice none 0 0]),
 ⟨none, .stn 37 (.t 8) (.t 28), none, false⟩])
 (.seq (.rg [p 29 (.ldn 37 (.t 7)),
 p 30 (.ldn 37 (.t 8)),
 p 31 (.call 367 [(.t 29), (.t 30)]),
 p 9 (.mv (.t 31))])
 (.seq (.seq (.rg [p 32 (.mv (.t 9)),
 p 33 (.mv (.t 6)),
 p 34 (.eqb true (.t 32) (.t 33))])
 (.cond (.t 34) (.seq (.rg [p 4 (.mv (.k (.bool false)))])
 .ret)
 .skip))
 (.seq (.seq (.rg [⟨(some 35), .ldn 37 (.t 7), none, true⟩,
 ⟨(some 36), .ldn 37 (.t 2), none, true⟩,
 ⟨(some 37), .call 158 [(.t 36)], none, true⟩,
 p 38 (.call 127 [(.t 35), (.t 37)]),
 p 39 (.not (.t 38))])
 (.cond (.t 39) (.seq (.rg [p 4 (.mv (.k (.bool false)))])
 .ret)
 .skip))
 (.seq (.seq (.rg [⟨(some 40), .ldn 37 (.t 8), none, true⟩,
 ⟨(some 41), .ldn 37 (.t 3), none, true⟩,
 ⟨(some 42), .call 158 [(.t 41)], none, true⟩,
 p 43 (.call 127 [(.t 40), (.t 42)]),
 p 44 (.not (.t 43))])
 (.cond (.t 44) (.seq (.rg [p 4 (.mv (.k (.bool false)))])
 .ret)
 .skip))
 (.seq (.rg [p 4 (.mv (.k (.bool true)))])
 .ret)))))))))))))),
 [.tmp 4]⟩

def F366 : Fnc := ⟨(.seq (.rg [p 2 (.box (.t 0)),
 p 3 (.box (.t 1)),
 p 4 (.mv (.k (.bool false)))])
 (.seq (.seq (.rg [p 7 (.fa 0 (.t 2)),
 p 8 (.ldn 6 (.t 7)),
 p 9 (.fa 0 (.t 3)),
 p 10 (.ldn 6 (.t 9)),
 p 11 (.call 382 [(.t 8), (.t 10)]),
 p 12 (.not (.t 11)),
 p 13 (.mv (.t 12)),
 ⟨(some 14), .fa 6 (.t 2), (some (13, false)), false⟩,
 ⟨(some 15), .ld (.t 14), (some (13, false)), false⟩,
 ⟨(some 16), .fa 6 (.t 3), (some (13, false)), false⟩,
 ⟨(some 17), .ld (.t 16), (some (13, false)), false⟩,
 ⟨(some 18), .bin .neq (.t 15) (.t 17), (some (13, false)), false⟩,
 p 19 (.pick (.t 13) (.k (.bool true)) (.t 18)),
 p 20 (.mv (.t 19)),
 ⟨(some 21), .fa 7 (.t 2), (some (20, false)), false⟩,
 ⟨(some 22), .ld (.t 21), (some (20, false)), false⟩,
 ⟨(some 23), .len (.t 22), (some (20, false)), false⟩,
 ⟨(some 24), .fa 7 (.t 3), (some (20, false)), false⟩,
 ⟨(some 25), .ld (.t 24), (some (20, false)), false⟩,
 ⟨(some 26), .len (.t 25), (some (20, false)), false⟩,
 ⟨(some 27), .bin .neq (.t 23) (.t 26), (some (20, false)), false⟩,
 p 28 (.pick (.t 20) (.k (.bool true)) (.t 27)),
 p 29 (.mv (.t 28)),
 ⟨(some 30), .fa 10 (.t 2), (some (29, false)), false⟩,
 ⟨(some 31), .ld (.t 30), (some (29, false)), false⟩,
 ⟨(some 32), .len (.t 31), (some (29, false)), false⟩,
 ⟨(some 33), .fa 10 (.t 3), (some (29, false)), false⟩,
 ⟨(some 34), .ld (.t 33), (some (29, false)), false⟩,
 ⟨(some 35), .len (.t 34), (some (29, false)), false⟩,
 ⟨(some 36), .bin .neq (.t 32) (.t 35), (some (29, false)), false⟩,
 p 37 (.pick (.t 29) (.k (.bool true)) (.t 36)),
 p 38 (.mv (.t 37)),
 ⟨(some 39), .fa 11 (.t 2), (some (38, false)), false⟩,
 ⟨(some 40), .ld (.t 39), (some (38, false)), false⟩,
 ⟨(some 41), .fa 11 (.t 3), (some (38, false)), false⟩,
 ⟨(some 42), .ld (.t 41), (some (38, false)), false⟩,
 ⟨(some 43), .call 240 [(.t 40), (.t 42)], (some (38, false)), false⟩,
 ⟨(some 44), .not (.t 43), (some (38, false)), false⟩,
 p 45 (.pick (.t 38) (.k (.bool true)) (.t 44)),
 p 46 (.mv (.t 45)),
 ⟨(some 47), .fa 8 (.t 2), (some (46, false)), false⟩,
 ⟨(some 48), .ldn 2 (.t 47), (some (46, false)), false⟩,
 ⟨(some 49), .fa 8 (.t 3), (some (46, false)), false⟩,
 ⟨(some 50), .ldn 2 (.t 49), (some (46, false)), false⟩,
 ⟨(some 51), .eqs true [.i, .i] (.t 48) (.t 50), (some (46, false)), false⟩,
 p 52 (.pick (.t 46) (.k (.bool true)) (.t 51)),
 p 53 (.mv (.t 52)),
 ⟨(some 54), .fa 12 (.t 2), (some (53, false)), false⟩,
 ⟨(some 55), .ld (.t 54), (some (53, false)), false⟩,
 ⟨(some 56), .fa 12 (.t 3), (some (53, false)), false⟩,
 ⟨(some 57), .ld (.t 56), (some (53, false)), false⟩,
 ⟨(some 58), .bin .neq (.t 55) (.t 57), (some (53, false)), false⟩,
 p 59 (.pick (.t 53) (.k (.bool true)) (.t 58)),
 p 60 (.mv (.t 59)),
 ⟨(some 61), .fa 13 (.t 2), (some (60, false)), false⟩,
 ⟨(some 62), .ld (.t 61), (some (60, false)), false⟩,
 ⟨(some 63), .fa 13 (.t 3), (some (60, false)), false⟩,
 ⟨(some 64), .ld (.t 63), (some (60, false)), false⟩,
 ⟨(some 65), .bin .neq (.t 62) (.t 64), (some (60, false)), false⟩,
 p 66 (.pick (.t 60) (.k (.bool true)) (.t 65)),
 p 67 (.mv (.t 66)),
 ⟨(some 68), .fa 14 (.t 2), (some (67, false)), false⟩,
 ⟨(some 69), .ld (.t 68), (some (67, false)), false⟩,
 ⟨(some 70), .fa 14 (.t 3), (some (67, false)), false⟩,
 ⟨(some 71), .ld (.t 70), (some (67, false)), false⟩,
 ⟨(some 72), .bin .neq (.t 69) (.t 71), (some (67, false)), false⟩,
 p 73 (.pick (.t 67) (.k (.bool true)) (.t 72)),
 p 74 (.mv (.t 73)),
 ⟨(some 75), .fa 15 (.t 2), (some (74, false)), false⟩,
 ⟨(some 76), .ldn 8 (.t 75), (some (74, false)), false⟩,
 ⟨(some 77), .fa 15 (.t 3), (some (74, false)), false⟩,
 ⟨(some 78), .ldn 8 (.t 77), (some (74, false)), false⟩,
 ⟨(some 79), .eqs true [.b, .i, .i, .b, .i, .i, .i, .b] (.t 76) (.t 78), (some (74, false)), false⟩,
 p 80 (.pick (.t 74) (.k (.bool true)) (.t 79)),
 p 81 (.mv (.t 80)),
 ⟨(some 82), .fa 23 (.t 2), (some (81, false)), false⟩,
 ⟨(some 83), .ldn 8 (.t 82), (some (81, false)), false⟩,
 ⟨(some 84), .fa 23 (.t 3), (some (81, false)), false⟩,
 ⟨(some 85), .ldn 8 (.t 84), (some (81, false)), false⟩,
 ⟨(some 86), .eqs true [.b, .i, .i, .b, .i, .i, .i, .b] (.t 83) (.t 85), (some (81, false)), false⟩,
 p 87 (.pick (.t 81) (.k (.bool true)) (.t 86)),
 p 88 (.mv (.t 87)),
 ⟨(some 89), .fa 31 (.t 2), (some (88, false)), false⟩,
 ⟨(some 90), .ldn 4 (.t 89), (some (88, false)), false⟩,
 ⟨(some 91), .fa 31 (.t 3), (some (88, false)), false⟩,
 ⟨(some 92), .ldn 4 (.t 91), (some (88, false)), false⟩,
 ⟨(some 93), .call 383 [(.t 90), (.t 92)], (some (88, false)), false⟩,
 ⟨(some 94), .not (.t 93), (some (88, false)), false⟩,
 p 95 (.pick (.t 88) (.k (.bool true)) (.t 94)),
 p 96 (.mv (.t 95)),
 ⟨(some 97), .fa 35 (.t 2), (some (96, false)), false⟩,
 ⟨(some 98), .ld (.t 97), (some (96, false)), false⟩,
 ⟨(some 99), .fa 35 (.t 3), (some (96, false)), false⟩,
 ⟨(some 100), .ld (.t 99), (some (96, false)), false⟩,
 ⟨(some 101), .bin .neq (.t 98) (.t 100), (some (96, false)), false⟩,
 p 102 (.pick (.t 96) (.k (.bool true)) (.t 101)),
 p 103 (.mv (.t 102)),
 ⟨(some 104), .fa 36 (.t 2), (some (103, false)), false⟩,
 ⟨(some 105), .ld (.t 104), (some (103, false)), false⟩,
 ⟨(some 106), .fa 36 (.t 3), (some (103, false)), false⟩,
 ⟨(some 107), .ld (.t 106), (some (103, false)), false⟩,
 ⟨(some 108), .call 225 [(.t 105), (.t 107)], (some (103, false)), false⟩,
 ⟨(some 109), .not (.t 108), (some (103, false)), false⟩,
 p 110 (.pick (.t 103) (.k (.bool true)) (.t 109))])
 (.cond (.t 110) (.seq (.rg [p 4 (.mv (.k (.bool false)))])
 .ret)
 .skip))
 (.seq (.seq (.rg [p 5 (.mv (.k (.int .i64 0)))])
 (.block 0 (.loop (.seq (.seq (.rg [p 111 (.mv (.t 5)),
 p 112 (.fa 7 (.t 2)),
 p 113 (.ld (.t 112)),
 p 114 (.len (.t 113)),
 p 115 (.bin .lss (.t 111) (.t 114))])
 (.cond (.t 115) .skip
 (.exit 0)))
 (.seq (.block 1 (.seq (.rg [⟨(some 118), .fa 7 (.t 2), none, true⟩,
 ⟨(some 119), .ld (.t 118), none, true⟩,
 ⟨(some 120), .mv (.t 5), none, true⟩,
 ⟨(some 121), .ia 6 (.t 119) (.t 120), none, true⟩,
 ⟨(some 122), .ldn 6 (.t 121), none, true⟩,
 ⟨(some 123), .fa 7 (.t 3), none, true⟩,
 ⟨(some 124), .ld (.t 123), none, true⟩,
 ⟨(some 125), .mv (.t 5), none, true⟩,
 ⟨(some 126), .ia 6 (.t 124) (.t 125), none, true⟩,
 ⟨(some 127), .ldn 6 (.t 126), none, true⟩,
 p 128 (.call 210 [(.t 122), (.t 127)]),
 p 129 (.not (.t 128))])
 (.cond (.t 129) (.seq (.rg [p 4 (.mv (.k (.bool false)))])
 .ret)
 .skip)))
 (.rg [p 116 (.mv (.t 5)),
 p 117 (.bin .add (.t 116) (.k (.int .i64 1))),
 p 5 (.mv (.t 117))]))))))
 (.seq (.seq (.rg [p 6 (.mv (.k (.int .i64 0)))])
 (.block 2 (.loop (.seq (.seq (.rg [p 130 (.mv (.t 6)),
 p 131 (.fa 10 (.t 2)),
 p 132 (.ld (.t 131)),
 p 133 (.len (.t 132)),
 p 134 (.bin .lss (.t 130) (.t 133))])
 (.cond (.t 134) .skip
 (.exit 2)))
 (.seq (.block 3 (.seq (.rg [⟨(some 137), .fa 10 (.t 2), none, true⟩,
 ⟨(some 138), .ld (.t 137), none, true⟩,
 ⟨(some 139), .mv (.t 6), none, true⟩,
 ⟨(some 140), .ia 2 (.t 138) (.t 139), none, true⟩,
 ⟨(some 141), .ldn 2 (.t 140), none, true⟩,
 ⟨(some 142), .fa 10 (.t 3), none, true⟩,
 ⟨(some 143), .ld (.t 142), none, true⟩,
 ⟨(some 144), .mv (.t 6), none, true⟩,
 ⟨(some 145), .ia 2 (.t 143) (.t 144), none, true⟩,
 ⟨(some 146), .ldn 2 (.t 145), none, true⟩,
 p 147 (.eqs true [.i, .i] (.t 141) (.t 146))])
 (.cond (.t 147) (.seq (.rg [p 4 (.mv (.k (.bool false)))])
 .ret)
 .skip)))
 (.rg [p 135 (.mv (.t 6)),
 p 136 (.bin .add (.t 135) (.k (.int .i64 1))),
 p 6 (.mv (.t 136))]))))))
 (.seq (.rg [p 4 (.mv (.k (.bool true)))])
 .ret))))),
 [.tmp 4]⟩

def F367 : Fnc := ⟨(.seq (.rg [p 2 (.box (.t 0)),
 p 3 (.box (.t 1)),
 p 4 (.mv (.k (.bool false)))])
 (.seq (.rg [p 5 (.fa 0 (.t 2)),
 p 6 (.ldn 6 (.t 5)),
 p 7 (.fa 0 (.t 3)),
 p 8 (.ldn 6 (.t 7)),
 p 9 (.call 384 [(.t 6), (.t 8)]),
 p 10 (.mv (.t 9)),
 ⟨(some 11), .fa 6 (.t 2), (some (10, true)), false⟩,
 ⟨(some 12), .ld (.t 11), (some (10, true)), false⟩,
 ⟨(some 13), .fa 6 (.t 3), (some (10, true)), false⟩,
 ⟨(some 14), .ld (.t 13), (some (10, true)), false⟩,
 ⟨(some 15), .bin .eql (.t 12) (.t 14), (some (10, true)), false⟩,
 p 16 (.pick (.t 10) (.t 15) (.k (.bool false))),
 p 17 (.mv (.t 16)),
 ⟨(some 18), .fa 7 (.t 2), (some (17, true)), false⟩,
 ⟨(some 19), .ld (.t 18), (some (17, true)), false⟩,
 ⟨(some 20), .fa 7 (.t 3), (some (17, true)), false⟩,
 ⟨(some 21), .ld (.t 20), (some (17, true)), false⟩,
 ⟨(some 22), .call 385 [(.t 19), (.t 21), (.k (.func (.func 70) #[] #[]))], (some (17, true)), false⟩,
 p 23 (.pick (.t 17) (.t 22) (.k (.bool false))),
 p 24 (.mv (.t 23)),
 ⟨(some 25), .fa 8 (.t 2), (some (24, true)), false⟩,
 ⟨(some 26), .ldn 2 (.t 25), (some (24, true)), false⟩,
 ⟨(some 27), .fa 8 (.t 3), (some (24, true)), false⟩,
 ⟨(some 28), .ldn 2 (.t 27), (some (24, true)), false⟩,
 ⟨(some 29), .eqs false [.i, .i] (.t 26) (.t 28), (some (24, true)), false⟩,
 p 30 (.pick (.t 24) (.t 29) (.k (.bool false))),
 p 31 (.mv (.t 30)),
 ⟨(some 32), .fa 10 (.t 2), (some (31, true)), false⟩,
 ⟨(some 33), .ld (.t 32), (some (31, true)), false⟩,
 ⟨(some 34), .fa 10 (.t 3), (some (31, true)), false⟩,
 ⟨(some 35), .ld (.t 34), (some (31, true)), false⟩,
 ⟨(some 36), .call 386 [(.t 33), (.t 35)], (some (31, true)), false⟩,
 p 37 (.pick (.t 31) (.t 36) (.k (.bool false))),
 p 38 (.mv (.t 37)),
 ⟨(some 39), .fa 11 (.t 2), (some (38, true)), false⟩,
 ⟨(some 40), .ld (.t 39), (some (38, true)), false⟩,
 ⟨(some 41), .fa 11 (.t 3), (some (38, true)), false⟩,
 ⟨(some 42), .ld (.t 41), (some (38, true)), false⟩,
 ⟨(some 43), .call 264 [(.t 40), (.t 42)], (some (38, true)), false⟩,
 p 44 (.pick (.t 38) (.t 43) (.k (.bool false))),
 p 45 (.mv (.t 44)),
 ⟨(some 46), .fa 12 (.t 2), (some (45, true)), false⟩,
 ⟨(some 47), .ld (.t 46), (some (45, true)), false⟩,
 ⟨(some 48), .fa 12 (.t 3), (some (45, true)), false⟩,
 ⟨(some 49), .ld (.t 48), (some (45, true)), false⟩,
 ⟨(some 50), .bin .eql (.t 47) (.t 49), (some (45, true)), false⟩,
 p 51 (.pick (.t 45) (.t 50) (.k (.bool false))),
 p 52 (.mv (.t 51)),
 ⟨(some 53), .fa 13 (.t 2), (some (52, true)), false⟩,
 ⟨(some 54), .ld (.t 53), (some (52, true)), false⟩,
 ⟨(some 55), .fa 13 (.t 3), (some (52, true)), false⟩,
 ⟨(some 56), .ld (.t 55), (some (52, true)), false⟩,
 ⟨(some 57), .bin .eql (.t 54) (.t 56), (some (52, true)), false⟩,
 p 58 (.pick (.t 52) (.t 57) (.k (.bool false))),
 p 59 (.mv (.t 58)),
 ⟨(some 60), .fa 14 (.t 2), (some (59, true)), false⟩,
 ⟨(some 61), .ld (.t 60), (some (59, true)), false⟩,
 ⟨(some 62), .fa 14 (.t 3), (some (59, true)), false⟩,
 ⟨(some 63), .ld (.t 62), (some (59, true)), false⟩,
 ⟨(some 64), .bin .eql (.t 61) (.t 63), (some (59, true)), false⟩,
 p 65 (.pick (.t 59) (.t 64) (.k (.bool false))),
 p 66 (.mv (.t 65)),
 ⟨(some 67), .fa 15 (.t 2), (some (66, true)), false⟩,
 ⟨(some 68), .ldn 8 (.t 67), (some (66, true)), false⟩,
 ⟨(some 69), .fa 15 (.t 3), (some (66, true)), false⟩,
 ⟨(some 70), .ldn 8 (.t 69), (some (66, true)), false⟩,
 ⟨(some 71), .eqs false [.b, .i, .i, .b, .i, .i, .i, .b] (.t 68) (.t 70), (some (66, true)), false⟩,
 p 72 (.pick (.t 66) (.t 71) (.k (.bool false))),
 p 73 (.mv (.t 72)),
 ⟨(some 74), .fa 23 (.t 2), (some (73, true)), false⟩,
 ⟨(some 75), .ldn 8 (.t 74), (some (73, true)), false⟩,
 ⟨(some 76), .fa 23 (.t 3), (some (73, true)), false⟩,
 ⟨(some 77), .ldn 8 (.t 76), (some (73, true)), false⟩,
 ⟨(some 78), .eqs false [.b, .i, .i, .b, .i, .i, .i, .b] (.t 75) (.t 77), (some (73, true)), false⟩,
 p 79 (.pick (.t 73) (.t 78) (.k (.bool false))),
 p 80 (.mv (.t 79)),
 ⟨(some 81), .fa 31 (.t 2), (some (80, true)), false⟩,
 ⟨(some 82), .ldn 4 (.t 81), (some (80, true)), false⟩,
 ⟨(some 83), .fa 31 (.t 3), (some (80, true)), false⟩,
 ⟨(some 84), .ldn 4 (.t 83), (some (80, true)), false⟩,
 ⟨(some 85), .call 387 [(.t 82), (.t 84)], (some (80, true)), false⟩,
 p 86 (.pick (.t 80) (.t 85) (.k (.bool false))),
 p 87 (.mv (.t 86)),
 ⟨(some 88), .fa 35 (.t 2), (some (87, true)), false⟩,
 ⟨(some 89), .ld (.t 88), (some (87, true)), false⟩,
 ⟨(some 90), .fa 35 (.t 3), (some (87, true)), false⟩,
 ⟨(some 91), .ld (.t 90), (some (87, true)), false⟩,
 ⟨(some 92), .bin .eql (.t 89) (.t 91), (some (87, true)), false⟩,
 p 93 (.pick (.t 87) (.t 92) (.k (.bool false))),
 p 94 (.mv (.t 93)),
 ⟨(some 95), .fa 36 (.t 2), (some (94, true)), false⟩,
 ⟨(some 96), .ld (.t 95), (some (94, true)), false⟩,
 ⟨(some 97), .fa 36 (.t 3), (some (94, true)), false⟩,
 ⟨(some 98), .ld (.t 97), (some (94, true)), false⟩,
 ⟨(some 99), .call 265 [(.t 96), (.t 98)], (some (94, true)), false⟩,
 p 100 (.pick (.t 94) (.t 99) (.k (.bool false))),
 p 4 (.mv (.t 100))])
 .ret)),
 [.tmp 4]⟩

def F382 : Fnc := ⟨(.seq (.rg [p 2 (.box (.t 0)),
 p 3 (.box (.t 1)),
 p 4 (.mv (.k (.bool false)))])
 (.seq (.seq (.rg [p 6 (.fa 0 (.t 2)),
 p 7 (.ld (.t 6)),
 p 8 (.len (.t 7)),
 p 9 (.fa 0 (.t 3)),
 p 10 (.ld (.t 9)),
 p 11 (.len (.t 10)),
 p 12 (.bin .neq (.t 8) (.t 11))])
 (.cond (.t 12) (.seq (.rg [p 4 (.mv (.k (.bool false)))])
 .ret)
 .skip))
 (.seq (.seq (.rg [p 5 (.mv (.k (.int .i64 0)))])
 (.block 0 (.loop (.seq (.seq (.rg [p 13 (.mv (.t 5)),
 p 14 (.fa 0 (.t 2)),
 p 15 (.ld (.t 14)),
 p 16 (.len (.t 15)),
 p 17 (.bin .lss (.t 13) (.t 16))])
 (.cond (.t 17) .skip
 (.exit 0)))
 (.seq (.block 1 (.seq (.rg [⟨(some 20), .fa 0 (.t 2), none, true⟩,
 ⟨(some 21), .ld (.t 20), none, true⟩,
 ⟨(some 22), .mv (.t 5), none, true⟩,
 ⟨(some 23), .ia 4 (.t 21) (.t 22), none, true⟩,
 ⟨(some 24), .ldn 4 (.t 23), none, true⟩,
 ⟨(some 25), .fa 0 (.t 3), none, true⟩,
 ⟨(some 26), .ld (.t 25), none, true⟩,
 ⟨(some 27), .mv (.t 5), none, true⟩,
 ⟨(some 28), .ia 4 (.t 26) (.t 27), none, true⟩,
 ⟨(some 29), .ldn 4 (.t 28), none, true⟩,
 p 30 (.eqs true [.i, .b, .i, .i] (.t 24) (.t 29))])
 (.cond (.t 30) (.seq (.rg [p 4 (.mv (.k (.bool false)))])
 .ret)
 .skip)))
 (.rg [p 18 (.mv (.t 5)),
 p 19 (.bin .add (.t 18) (.k (.int .i64 1))),
 p 5 (.mv (.t 19))]))))))
 (.seq (.rg [p 31 (.fa 1 (.t 2)),
 p 32 (.ld (.t 31)),
 p 33 (.fa 1 (.t 3)),
 p 34 (.ld (.t 33)),
 p 35 (.bin .eql (.t 32) (.t 34)),
 p 36 (.mv (.t 35)),
 ⟨(some 37), .fa 2 (.t 2), (some (36, true)), false⟩,
 ⟨(some 38), .ld (.t 37), (some (36, true)), false⟩,
 ⟨(some 39), .fa 2 (.t 3), (some (36, true)), false⟩,
 ⟨(some 40), .ld (.t 39), (some (36, true)), false⟩,
 ⟨(some 41), .bin .eql (.t 38) (.t 40), (some (36, true)), false⟩,
 p 42 (.pick (.t 36) (.t 41) (.k (.bool false))),
 p 43 (.mv (.t 42)),
 ⟨(some 44), .fa 3 (.t 2), (some (43, true)), false⟩,
 ⟨(some 45), .ld (.t 44), (some (43, true)), false⟩,
 ⟨(some 46), .fa 3 (.t 3), (some (43, true)), false⟩,
 ⟨(some 47), .ld (.t 46), (some (43, true)), false⟩,
 ⟨(some 48), .bin .eql (.t 45) (.t 47), (some (43, true)), false⟩,
 p 49 (.pick (.t 43) (.t 48) (.k (.bool false))),
 p 50 (.mv (.t 49)),
 ⟨(some 51), .fa 4 (.t 2), (some (50, true)), false⟩,
 ⟨(some 52), .ld (.t 51), (some (50, true)), false⟩,
 ⟨(some 53), .fa 4 (.t 3), (some (50, true)), false⟩,
 ⟨(some 54), .ld (.t 53), (some (50, true)), false⟩,
 ⟨(some 55), .bin .eql (.t 52) (.t 54), (some (50, true)), false⟩,
 p 56 (.pick (.t 50) (.t 55) (.k (.bool false))),
 p 57 (.mv (.t 56)),
 ⟨(some 58), .fa 5 (.t 2), (some (57, true)), false⟩,
 ⟨(some 59), .ld (.t 58), (some (57, true)), false⟩,
 ⟨(some 60), .fa 5 (.t 3), (some (57, true)), false⟩,
 ⟨(some 61), .ld (.t 60), (some (57, true)), false⟩,
 ⟨(some 62), .bin .eql (.t 59) (.t 61), (some (57, true)), false⟩,
 p 63 (.pick (.t 57) (.t 62) (.k (.bool false))),
 p 4 (.mv (.t 63))])
 .ret)))),
 [.tmp 4]⟩

def F383 : Fnc := ⟨(.seq (.rg [p 2 (.box (.t 0)),
 p 3 (.box (.t 1)),
 p 4 (.mv (.k (.bool false)))])
 (.seq (.rg [p 5 (.fa 0 (.t 2)),
 p 6 (.ld (.t 5)),
 p 7 (.fa 0 (.t 3)),
 p 8 (.ld (.t 7)),
 p 9 (.call 240 [(.t 6), (.t 8)]),
 p 10 (.mv (.t 9)),
 ⟨(some 11), .fa 1 (.t 2), (some (10, true)), false⟩,
 ⟨(some 12), .ldn 3 (.t 11), (some (10, true)), false⟩,
 ⟨(some 13), .fa 1 (.t 3), (some (10, true)), false⟩,
 ⟨(some 14), .ldn 3 (.t 13), (some (10, true)), false⟩,
 ⟨(some 15), .call 401 [(.t 12), (.t 14)], (some (10, true)), false⟩,
 p 16 (.pick (.t 10) (.t 15) (.k (.bool false))),
 p 4 (.mv (.t 16))])
 .ret)),
 [.tmp 4]⟩

def F384 : Fnc := ⟨(.seq (.rg [p 2 (.box (.t 0)),
 p 3 (.box (.t 1)),
 p 4 (.mv (.k (.bool false)))])
 (.seq (.rg [p 5 (.fa 0 (.t 2)),
 p 6 (.ld (.t 5)),
 p 7 (.fa 0 (.t 3)),
 p 8 (.ld (.t 7)),
 p 9 (.call 402 [(.t 6), (.t 8)]),
 p 10 (.mv (.t 9)),
 ⟨(some 11), .fa 1 (.t 2), (some (10, true)), false⟩,
 ⟨(some 12), .ld (.t 11), (some (10, true)), false⟩,
 ⟨(some 13), .fa 1 (.t 3), (some (10, true)), false⟩,
 ⟨(some 14), .ld (.t 13), (some (10, true)), false⟩,
 ⟨(some 15), .bin .eql (.t 12) (.t 14), (some (10, true)), false⟩,
 p 16 (.pick (.t 10) (.t 15) (.k (.bool false))),
 p 17 (.mv (.t 16)),
 ⟨(some 18), .fa 2 (.t 2), (some (17, true)), false⟩,
 ⟨(some 19), .ld (.t 18), (some (17, true)), false⟩,
 ⟨(some 20), .fa 2 (.t 3), (some (17, true)), false⟩,
 ⟨(some 21), .ld (.t 20), (some (17, true)), false⟩,
 ⟨(some 22), .bin .eql (.t 19) (.t 21), (some (17, true)), false⟩,
 p 23 (.pick (.t 17) (.t 22) (.k (.bool false))),
 p 24 (.mv (.t 23)),
 ⟨(some 25), .fa 3 (.t 2), (some (24, true)), false⟩,
 ⟨(some 26), .ld (.t 25), (some (24, true)), false⟩,
 ⟨(some 27), .fa 3 (.t 3), (some (24, true)), false⟩,
 ⟨(some 28), .ld (.t 27), (some (24, true)), false⟩,
 ⟨(some 29), .bin .eql (.t 26) (.t 28), (some (24, true)), false⟩,
 p 30 (.pick (.t 24) (.t 29) (.k (.bool false))),
 p 31 (.mv (.t 30)),
 ⟨(some 32), .fa 4 (.t 2), (some (31, true)), false⟩,
 ⟨(some 33), .ld (.t 32), (some (31, true)), false⟩,
 ⟨(some 34), .fa 4 (.t 3), (some (31, true)), false⟩,
 ⟨(some 35), .ld (.t 34), (some (31, true)), false⟩,
 ⟨(some 36), .bin .eql (.t 33) (.t 35), (some (31, true)), false⟩,
 p 37 (.pick (.t 31) (.t 36) (.k (.bool false))),
 p 38 (.mv (.t 37)),
 ⟨(some 39), .fa 5 (.t 2), (some (38, true)), false⟩,
 ⟨(some 40), .ld (.t 39), (some (38, true)), false⟩,
 ⟨(some 41), .fa 5 (.t 3), (some (38, true)), false⟩,
 ⟨(some 42), .ld (.t 41), (some (38, true)), false⟩,
 ⟨(some 43), .bin .eql (.t 40) (.t 42), (some (38, true)), false⟩,
 p 44 (.pick (.t 38) (.t 43) (.k (.bool false))),
 p 4 (.mv (.t 44))])
 .ret)),
 [.tmp 4]⟩

def F385 : Fnc := ⟨(.seq (.rg [p 6 (.mv (.k (.bool false)))])
 (.seq (.seq (.rg [p 10 (.mv (.t 0)),
 p 11 (.len (.t 10)),
 p 12 (.mv (.t 1)),
 p 13 (.len (.t 12)),
 p 14 (.bin .neq (.t 11) (.t 13))])
 (.cond (.t 14) (.seq (.rg [p 6 (.mv (.k (.bool false)))])
 .ret)
 .skip))
 (.seq (.seq (.rg [p 15 (.mv (.t 0)),
 p 16 (.len (.t 15)),
 p 17 (.mv (.k (.int .i64 0)))])
 (.block 0 (.loop (.seq (.rg [p 18 (.bin .lss (.t 17) (.t 16))])
 (.seq (.cond (.t 18) .skip
 (.exit 0))
 (.seq (.block 1 (.seq (.rg [p 19 (.mv (.t 17)),
 p 20 (.ia 6 (.t 15) (.t 17)),
 p 21 (.ldn 6 (.t 20)),
 p 8 (.new [.slice none 0 0, .int .i64 0, .int .i64 0, .int .i64 0, .bool false, .bool false]),
 p 7 (.mv (.t 19)),
 ⟨none, .stn 6 (.t 8) (.t 21), none, false⟩])
 (.seq (.rg [p 22 (.mv (.t 1)),
 p 23 (.mv (.t 7)),
 p 24 (.ia 6 (.t 22) (.t 23)),
 p 25 (.ldn 6 (.t 24)),
 p 9 (.new [.slice none 0 0, .int .i64 0, .int .i64 0, .int .i64 0, .bool false, .bool false]),
 ⟨none, .stn 6 (.t 9) (.t 25), none, false⟩])
 (.seq (.rg [p 26 (.mv (.t 2)),
 p 27 (.ldn 6 (.t 8)),
 p 28 (.ldn 6 (.t 9)),
 p 29 (.calli (.t 26) [(.t 27), (.t 28)]),
 p 30 (.not (.t 29))])
 (.cond (.t 30) (.seq (.rg [p 6 (.mv (.k (.bool false)))])
 .ret)
 .skip)))))
 (.rg [p 31 (.bin .add (.t 17) (.k (.int .i64 1))),
 p 17 (.mv (.t 31))])))))))
 (.seq (.rg [p 6 (.mv (.k (.bool true)))])
 .ret)))),
 [.tmp 6]⟩

def F386 : Fnc := ⟨(.seq (.rg [p 4 (.mv (.k (.bool false)))])
 (.seq (.seq (.rg [p 6 (.mv (.t 0)),
 p 7 (.len (.t 6)),
 p 8 (.mv (.t 1)),
 p 9 (.len (.t 8)),
 p 10 (.bin .neq (.t 7) (.t 9))])
 (.cond (.t 10) (.seq (.rg [p 4 (.mv (.k (.bool false)))])
 .ret)
 .skip))
 (.seq (.seq (.rg [p 11 (.mv (.t 0)),
 p 12 (.len (.t 11)),
 p 13 (.mv (.k (.int .i64 0)))])
 (.block 0 (.loop (.seq (.rg [p 14 (.bin .lss (.t 13) (.t 12))])
 (.seq (.cond (.t 14) .skip
 (.exit 0))
 (.seq (.block 1 (.seq (.rg [p 15 (.mv (.t 13)),
 p 5 (.mv (.t 15))])
 (.seq (.rg [⟨(some 16), .mv (.t 0), none, true⟩,
 ⟨(some 17), .mv (.t 5), none, true⟩,
 ⟨(some 18), .ia 2 (.t 16) (.t 17), none, true⟩,
 ⟨(some 19), .ldn 2 (.t 18), none, true⟩,
 ⟨(some 20), .mv (.t 1), none, true⟩,
 ⟨(some 21), .mv (.t 5), none, true⟩,
 ⟨(some 22), .ia 2 (.t 20) (.t 21), none, true⟩,
 ⟨(some 23), .ldn 2 (.t 22), none, true⟩,
 p 24 (.eqs true [.i, .i] (.t 19) (.t 23))])
 (.cond (.t 24) (.seq (.rg [p 4 (.mv (.k (.bool false)))])
 .ret)
 .skip))))
 (.rg [p 25 (.bin .add (.t 13) (.k (.int .i64 1))),
 p 13 (.mv (.t 25))])))))))
 (.seq (.rg [p 4 (.mv (.k (.bool true)))])
 .ret)))),
 [.tmp 4]⟩

def F387 : Fnc := ⟨(.seq (.rg [p 2 (.box (.t 0)),
 p 3 (.box (.t 1)),
 p 4 (.mv (.k (.bool false)))])
 (.seq (.rg [p 5 (.fa 0 (.t 2)),
 p 6 (.ld (.t 5)),
 p 7 (.fa 0 (.t 3)),
 p 8 (.ld (.t 7)),
 p 9 (.call 264 [(.t 6), (.t 8)]),
 p 10 (.mv (.t 9)),
 ⟨(some 11), .fa 1 (.t 2), (some (10, true)), false⟩,
 ⟨(some 12), .ldn 3 (.t 11), (some (10, true)), false⟩,
 ⟨(some 13), .fa 1 (.t 3), (some (10, true)), false⟩,
 ⟨(some 14), .ldn 3 (.t 13), (some (10, true)), false⟩,
 ⟨(some 15), .call 403 [(.t 12), (.t 14)], (some (10, true)), false⟩,
 p 16 (.pick (.t 10) (.t 15) (.k (.bool false))),
 p 4 (.mv (.t 16))])
 .ret)),
 [.tmp 4]⟩

def F401 : Fnc := ⟨(.seq (.rg [p 2 (.box (.t 0)),
 p 3 (.box (.t 1)),
 p 4 (.mv (.k (.bool false)))])
 (.seq (.rg [p 5 (.fa 0 (.t 2)),
 p 6 (.ld (.t 5)),
 p 7 (.fa 0 (.t 3)),
 p 8 (.ld (.t 7)),
 p 9 (.call 240 [(.t 6), (.t 8)]),
 p 10 (.mv (.t 9)),
 ⟨(some 11), .fa 1 (.t 2), (some (10, true)), false⟩,
 ⟨(some 12), .ld (.t 11), (some (10, true)), false⟩,
 ⟨(some 13), .fa 1 (.t 3), (some (10, true)), false⟩,
 ⟨(some 14), .ld (.t 13), (some (10, true)), false⟩,
 ⟨(some 15), .bin .eql (.t 12) (.t 14), (some (10, true)), false⟩,
 p 16 (.pick (.t 10) (.t 15) (.k (.bool false))),
 p 17 (.mv (.t 16)),
 ⟨(some 18), .fa 2 (.t 2), (some (17, true)), false⟩,
 ⟨(some 19), .ld (.t 18), (some (17, true)), false⟩,
 ⟨(some 20), .fa 2 (.t 3), (some (17, true)), false⟩,
 ⟨(some 21), .ld (.t 20), (some (17, true)), false⟩,
 ⟨(some 22), .call 240 [(.t 19), (.t 21)], (some (17, true)), false⟩,
 p 23 (.pick (.t 17) (.t 22) (.k (.bool false))),
 p 4 (.mv (.t 23))])
 .ret)),
 [.tmp 4]⟩

def F402 : Fnc := ⟨(.seq (.rg [p 4 (.mv (.k (.bool false)))])
 (.seq (.seq (.rg [p 6 (.mv (.t 0)),
 p 7 (.len (.t 6)),
 p 8 (.mv (.t 1)),
 p 9 (.len (.t 8)),
 p 10 (.bin .neq (.t 7) (.t 9))])
 (.cond (.t 10) (.seq (.rg [p 4 (.mv (.k (.bool false)))])
 .ret)
 .skip))
 (.seq (.seq (.rg [p 11 (.mv (.t 0)),
 p 12 (.len (.t 11)),
 p 13 (.mv (.k (.int .i64 0)))])
 (.block 0 (.loop (.seq (.rg [p 14 (.bin .lss (.t 13) (.t 12))])
 (.seq (.cond (.t 14) .skip
 (.exit 0))
 (.seq (.block 1 (.seq (.rg [p 15 (.mv (.t 13)),
 p 5 (.mv (.t 15))])
 (.seq (.rg [⟨(some 16), .mv (.t 0), none, true⟩,
 ⟨(some 17), .mv (.t 5), none, true⟩,
 ⟨(some 18), .ia 4 (.t 16) (.t 17), none, true⟩,
 ⟨(some 19), .ldn 4 (.t 18), none, true⟩,
 ⟨(some 20), .mv (.t 1), none, true⟩,
 ⟨(some 21), .mv (.t 5), none, true⟩,
 ⟨(some 22), .ia 4 (.t 20) (.t 21), none, true⟩,
 ⟨(some 23), .ldn 4 (.t 22), none, true⟩,
 p 24 (.eqs true [.i, .b, .i, .i] (.t 19) (.t 23))])
 (.cond (.t 24) (.seq (.rg [p 4 (.mv (.k (.bool false)))])
 .ret)
 .skip))))
 (.rg [p 25 (.bin .add (.t 13) (.k (.int .i64 1))),
 p 13 (.mv (.t 25))])))))))
 (.seq (.rg [p 4 (.mv (.k (.bool true)))])
 .ret)))),
 [.tmp 4]⟩

def F403 : Fnc := ⟨(.seq (.rg [p 2 (.box (.t 0)),
 p 3 (.box (.t 1)),
 p 4 (.mv (.k (.bool false)))])
 (.seq (.rg [p 5 (.fa 0 (.t 2)),
 p 6 (.ld (.t 5)),
 p 7 (.fa 0 (.t 3)),
 p 8 (.ld (.t 7)),
 p 9 (.call 264 [(.t 6), (.t 8)]),
 p 10 (.mv (.t 9)),
 ⟨(some 11), .fa 1 (.t 2), (some (10, true)), false⟩,
 ⟨(some 12), .ld (.t 11), (some (10, true)), false⟩,
 ⟨(some 13), .fa 1 (.t 3), (some (10, true)), false⟩,
 ⟨(some 14), .ld (.t 13), (some (10, true)), false⟩,
 ⟨(some 15), .bin .eql (.t 12) (.t 14), (some (10, true)), false⟩,
 p 16 (.pick (.t 10) (.t 15) (.k (.bool false))),
 p 17 (.mv (.t 16)),
 ⟨(some 18), .fa 2 (.t 2), (some (17, true)), false⟩,
 ⟨(some 19), .ld (.t 18), (some (17, true)), false⟩,
 ⟨(some 20), .fa 2 (.t 3), (some (17, true)), false⟩,
 ⟨(some 21), .ld (.t 20), (some (17, true)), false⟩,
 ⟨(some 22), .call 264 [(.t 19), (.t 21)], (some (17, true)), false⟩,
 p 23 (.pick (.t 17) (.t 22) (.k (.bool false))),
 p 4 (.mv (.t 23))])
 .ret)),
 [.tmp 4]⟩

end Go.Proofs.Ytdialnejieoelaa.AL
