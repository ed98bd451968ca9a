/- Functions in the small language, printed by program. -/
import Derived.Test.YtdlkgdlefbabcaaAl0
namespace Go.Proofs.Ytdlkgdlefbabcaa.AL
open Go

def F34 : Fnc := ⟨(.seq (.rg [p 1 (.box (.t 0)),
 p 2 (.mv (.k (.bool false)))])
 (.seq (.seq (.rg [p 3 (.fa 0 (.t 1)),
 p 4 (.ld (.t 3)),
 p 5 (.len (.t 4)),
 p 6 (.call 103 [(.t 5), (.k (.int .i64 1)), (.k (.int .i64 4))]),
 p 7 (.not (.t 6)),
 p 8 (.mv (.t 7)),
 ⟨(some 9), .fa 1 (.t 1), (some (8, false)), false⟩,
 ⟨(some 10), .ld (.t 9), (some (8, false)), false⟩,
 ⟨(some 11), .call 103 [(.t 10), (.k (.int .i64 1)), (.k (.int .i64 4))], (some (8, false)), false⟩,
 ⟨(some 12), .not (.t 11), (some (8, false)), false⟩,
 p 13 (.pick (.t 8) (.k (.bool true)) (.t 12)),
 p 14 (.mv (.t 13)),
 ⟨(some 15), .fa 4 (.t 1), (some (14, false)), false⟩,
 ⟨(some 16), .ld (.t 15), (some (14, false)), false⟩,
 ⟨(some 17), .call 103 [(.t 16), (.k (.int .i64 1)), (.k (.int .i64 12))], (some (14, false)), false⟩,
 ⟨(some 18), .not (.t 17), (some (14, false)), false⟩,
 p 19 (.pick (.t 14) (.k (.bool true)) (.t 18)),
 p 20 (.mv (.t 19)),
 ⟨(some 21), .ldn 6 (.t 1), (some (20, false)), false⟩,
 ⟨(some 22), .call 74 [(.t 21)], (some (20, false)), false⟩,
 ⟨(some 23), .bin .eql (.t 22) (.k (.int .i64 0)), (some (20, false)), false⟩,
 p 24 (.pick (.t 20) (.k (.bool true)) (.t 23))])
 (.cond (.t 24) (.seq (.rg [p 2 (.mv (.k (.bool false)))])
 .ret)
 .skip))
 (.seq (.rg [p 25 (.fa 0 (.t 1)),
 p 26 (.ld (.t 25)),
 p 27 (.fn 35 [(.t 1)]),
 p 28 (.call 258 [(.t 26), (.t 27)]),
 p 29 (.not (.t 28)),
 p 2 (.mv (.t 29))])
 .ret))),
 [.tmp 2]⟩

def F35 : Fnc := ⟨(.seq (.rg [p 2 (.box (.t 0)),
 p 3 (.mv (.k (.bool false)))])
 (.seq (.block 0 (.seq (.rg [p 5 (.fa 0 (.t 2)),
 p 6 (.ld (.t 5)),
 p 7 (.call 103 [(.t 6), (.k (.int .i64 1)), (.k (.int .i64 4))]),
 p 8 (.not (.t 7)),
 p 4 (.mv (.t 8))])
 (.cond (.t 4) (.seq (.rg [p 3 (.mv (.k (.bool true)))])
 .ret)
 (.seq (.rg [p 10 (.fa 1 (.t 2)),
 p 11 (.ld (.t 10)),
 p 9 (.mv (.t 11))])
 (.cond (.t 9) (.seq (.rg [⟨(some 12), .fa 2 (.t 2), none, true⟩,
 ⟨(some 13), .ld (.t 12), none, true⟩,
 ⟨(some 14), .ldn 6 (.t 1), none, true⟩,
 ⟨(some 15), .call 50 [(.t 14)], none, true⟩,
 p 16 (.call 103 [(.t 13), (.t 15), (.k (.int .i64 1000))]),
 p 17 (.not (.t 16)),
 p 18 (.mv (.t 17)),
 ⟨(some 19), .fa 3 (.t 2), (some (18, false)), false⟩,
 ⟨(some 20), .ld (.t 19), (some (18, false)), false⟩,
 ⟨(some 21), .call 103 [(.t 20), (.k (.int .i64 1)), (.k (.int .i64 8))], (some (18, false)), false⟩,
 ⟨(some 22), .not (.t 21), (some (18, false)), false⟩,
 p 23 (.pick (.t 18) (.k (.bool true)) (.t 22)),
 p 3 (.mv (.t 23))])
 .ret)
 .skip)))))
 (.seq (.rg [p 24 (.fa 2 (.t 2)),
 p 25 (.ld (.t 24)),
 p 26 (.bin .neq (.t 25) (.k (.int .i64 0))),
 p 27 (.mv (.t 26)),
 ⟨(some 28), .fa 3 (.t 2), (some (27, false)), false⟩,
 ⟨(some 29), .ld (.t 28), (some (27, false)), false⟩,
 ⟨(some 30), .bin .neq (.t 29) (.k (.int .i64 0)), (some (27, false)), false⟩,
 p 31 (.pick (.t 27) (.k (.bool true)) (.t 30)),
 p 3 (.mv (.t 31))])
 .ret))),
 [.tmp 3]⟩

def F37 : Fnc := ⟨(.seq (.rg [p 1 (.box (.t 0)),
 p 2 (.mv (.k (.int .i64 0)))])
 (.seq (.seq (.rg [p 3 (.fa 3 (.t 1)),
 p 4 (.ld (.t 3)),
 p 5 (.call 103 [(.t 4), (.k (.int .i64 0)), (.k (.int .i64 3))]),
 p 6 (.not (.t 5)),
 p 7 (.mv (.t 6)),
 ⟨(some 8), .fa 2 (.t 1), (some (7, false)), false⟩,
 ⟨(some 9), .ld (.t 8), (some (7, false)), false⟩,
 ⟨(some 10), .call 103 [(.t 9), (.k (.int .i64 0)), (.k (.int .i64 3))], (some (7, false)), false⟩,
 ⟨(some 11), .not (.t 10), (some (7, false)), false⟩,
 p 12 (.pick (.t 7) (.k (.bool true)) (.t 11))])
 (.cond (.t 12) (.seq (.rg [p 2 (.mv (.k (.int .i64 0)))])
 .ret)
 .skip))
 (.seq (.rg [p 13 (.fa 3 (.t 1)),
 p 14 (.ld (.t 13)),
 p 15 (.bin .add (.t 14) (.k (.int .i64 2))),
 p 16 (.fa 2 (.t 1)),
 p 17 (.ld (.t 16)),
 p 18 (.bin .add (.t 17) (.k (.int .i64 6))),
 p 19 (.bin .mul (.t 15) (.t 18)),
 p 2 (.mv (.t 19))])
 .ret))),
 [.tmp 2]⟩

def F50 : Fnc := ⟨(.seq (.rg [p 1 (.box (.t 0)),
 p 2 (.mv (.k (.int .i64 0)))])
 (.seq (.rg [⟨(some 3), .ldn 6 (.t 1), none, true⟩,
 ⟨(some 4), .call 74 [(.t 3)], none, true⟩,
 ⟨(some 5), .bin .mul (.k (.int .i64 2)) (.t 4), none, true⟩,
 ⟨(some 6), .ldn 6 (.t 1), none, true⟩,
 ⟨(some 7), .call 101 [(.t 6)], none, true⟩,
 p 8 (.bin .mul (.t 5) (.t 7)),
 p 2 (.mv (.t 8))])
 .ret)),
 [.tmp 2]⟩

def F74 : Fnc := ⟨(.seq (.rg [p 1 (.box (.t 0)),
 p 2 (.mv (.k (.int .i64 0)))])
 (.seq (.seq (.rg [p 3 (.ldn 6 (.t 1)),
 p 4 (.call 37 [(.t 3)]),
 p 5 (.bin .eql (.t 4) (.k (.int .i64 0))),
 p 6 (.mv (.t 5)),
 ⟨(some 7), .fa 5 (.t 1), (some (6, false)), false⟩,
 ⟨(some 8), .ld (.t 7), (some (6, false)), false⟩,
 ⟨(some 9), .call 103 [(.t 8), (.k (.int .i64 1)), (.k (.int .i64 40))], (some (6, false)), false⟩,
 ⟨(some 10), .not (.t 9), (some (6, false)), false⟩,
 p 11 (.pick (.t 6) (.k (.bool true)) (.t 10))])
 (.cond (.t 11) (.seq (.rg [p 2 (.mv (.k (.int .i64 0)))])
 .ret)
 .skip))
 (.seq (.rg [⟨(some 12), .ldn 6 (.t 1), none, true⟩,
 ⟨(some 13), .call 37 [(.t 12)], none, true⟩,
 ⟨(some 14), .bin .mul (.k (.int .i64 2)) (.t 13), none, true⟩,
 ⟨(some 15), .fa 5 (.t 1), none, true⟩,
 ⟨(some 16), .ld (.t 15), none, true⟩,
 p 17 (.bin .add (.t 14) (.t 16)),
 p 2 (.mv (.t 17))])
 .ret))),
 [.tmp 2]⟩

def F77 : Fnc := ⟨(.seq (.rg [p 2 (.box (.t 0)),
 p 4 (.mv (.k (.int .i64 0)))])
 (.seq (.seq (.rg [p 5 (.ldn 6 (.t 2)),
 p 6 (.call 34 [(.t 5)]),
 p 7 (.not (.t 6)),
 p 8 (.mv (.t 7)),
 ⟨(some 9), .ldn 6 (.t 2), (some (8, false)), false⟩,
 ⟨(some 10), .mv (.t 1), (some (8, false)), false⟩,
 ⟨(some 11), .call 91 [(.t 9), (.t 10)], (some (8, false)), false⟩,
 ⟨(some 12), .not (.t 11), (some (8, false)), false⟩,
 p 13 (.pick (.t 8) (.k (.bool true)) (.t 12))])
 (.cond (.t 13) (.seq (.rg [p 4 (.mv (.k (.int .i64 0)))])
 .ret)
 .skip))
 (.seq (.rg [⟨(some 14), .fa 0 (.t 2), none, true⟩,
 ⟨(some 15), .ld (.t 14), none, true⟩,
 ⟨(some 16), .mv (.t 1), none, true⟩,
 ⟨(some 17), .ia 4 (.t 15) (.t 16), none, true⟩,
 ⟨(some 18), .fa 0 (.t 17), none, true⟩,
 ⟨(some 19), .ld (.t 18), none, true⟩,
 ⟨(some 20), .fa 1 (.t 2), none, true⟩,
 ⟨(some 21), .ld (.t 20), none, true⟩,
 p 22 (.bin .mul (.t 19) (.t 21)),
 p 4 (.mv (.t 22))])
 .ret))),
 [.tmp 4]⟩

def F82 : Fnc := ⟨(.seq (.rg [p 2 (.box (.t 0)),
 p 3 (.box (.t 1)),
 p 4 (.mv (.k (.bool false)))])
 (.seq (.rg [p 5 (.ldn 6 (.t 3)),
 p 6 (.call 34 [(.t 5)]),
 p 7 (.mv (.t 6)),
 ⟨(some 8), .ldn 6 (.t 3), (some (7, true)), true⟩,
 ⟨(some 9), .fa 0 (.t 2), (some (7, true)), true⟩,
 ⟨(some 10), .ld (.t 9), (some (7, true)), true⟩,
 ⟨(some 11), .call 91 [(.t 8), (.t 10)], (some (7, true)), false⟩,
 p 12 (.pick (.t 7) (.t 11) (.k (.bool false))),
 p 13 (.mv (.t 12)),
 ⟨(some 14), .fa 1 (.t 2), (some (13, true)), true⟩,
 ⟨(some 15), .ld (.t 14), (some (13, true)), true⟩,
 ⟨(some 16), .ldn 6 (.t 3), (some (13, true)), true⟩,
 ⟨(some 17), .fa 0 (.t 2), (some (13, true)), true⟩,
 ⟨(some 18), .ld (.t 17), (some (13, true)), true⟩,
 ⟨(some 19), .call 77 [(.t 16), (.t 18)], (some (13, true)), true⟩,
 ⟨(some 20), .call 103 [(.t 15), (.k (.int .i64 0)), (.t 19)], (some (13, true)), false⟩,
 p 21 (.pick (.t 13) (.t 20) (.k (.bool false))),
 p 4 (.mv (.t 21))])
 .ret)),
 [.tmp 4]⟩

def F83 : Fnc := ⟨(.seq (.rg [p 3 (.box (.t 0)),
 p 4 (.box (.t 1)),
 p 6 (.new [.int .i64 0, .int .i64 0]),
 p 7 (.mv (.k (.int .i64 0)))])
 (.seq (.rg [p 11 (.fa 0 (.t 4)),
 p 12 (.ld (.t 11)),
 p 13 (.len (.t 12)),
 p 8 (.mv (.t 13))])
 (.seq (.seq (.rg [p 14 (.ldn 2 (.t 3)),
 p 15 (.ldn 6 (.t 4)),
 p 16 (.call 82 [(.t 14), (.t 15)]),
 p 17 (.not (.t 16)),
 p 18 (.mv (.t 17)),
 ⟨(some 19), .mv (.t 2), (some (18, false)), false⟩,
 ⟨(some 20), .len (.t 19), (some (18, false)), false⟩,
 ⟨(some 21), .mv (.t 8), (some (18, false)), false⟩,
 ⟨(some 22), .bin .neq (.t 20) (.t 21), (some (18, false)), false⟩,
 p 23 (.pick (.t 18) (.k (.bool true)) (.t 22))])
 (.cond (.t 23) (.seq (.rg [p 24 (.ldn 2 (.t 3)),
 ⟨none, .stn 2 (.t 6) (.t 24), none, false⟩,
 p 7 (.mv (.k (.int .i64 (-1))))])
 .ret)
 .skip))
 (.seq (.seq (.rg [p 25 (.fa 1 (.t 3)),
 p 26 (.ld (.t 25)),
 p 27 (.bin .gtr (.t 26) (.k (.int .i64 0))),
 p 28 (.mv (.t 27)),
 ⟨(some 29), .mv (.t 2), (some (28, true)), false⟩,
 ⟨(some 30), .fa 0 (.t 3), (some (28, true)), false⟩,
 ⟨(some 31), .ld (.t 30), (some (28, true)), false⟩,
 ⟨(some 32), .ia 1 (.t 29) (.t 31), (some (28, true)), false⟩,
 ⟨(some 33), .ld (.t 32), (some (28, true)), false⟩,
 p 34 (.pick (.t 28) (.t 33) (.k (.bool false)))])
 (.cond (.t 34) (.seq (.rg [p 35 (.fa 1 (.t 3)),
 p 36 (.ld (.t 35)),
 p 37 (.bin .sub (.t 36) (.k (.int .i64 1))),
 p 38 (.fa 1 (.t 3)),
 ⟨none, .st (.t 38) (.t 37), none, false⟩])
 (.seq (.rg [⟨(some 39), .ldn 2 (.t 3), none, true⟩,
 ⟨(some 40), .fa 0 (.t 3), none, true⟩,
 ⟨(some 41), .ld (.t 40), none, true⟩,
 ⟨none, .stn 2 (.t 6) (.t 39), none, true⟩,
 p 7 (.mv (.t 41))])
 .ret))
 .skip))
 (.seq (.seq (.rg [p 9 (.mv (.k (.int .i64 1)))])
 (.block 0 (.loop (.seq (.seq (.rg [p 42 (.mv (.t 9)),
 p 43 (.mv (.t 8)),
 p 44 (.bin .leq (.t 42) (.t 43))])
 (.cond (.t 44) .skip
 (.exit 0)))
 (.seq (.block 1 (.seq (.rg [p 47 (.fa 0 (.t 3)),
 p 48 (.ld (.t 47)),
 p 49 (.mv (.t 9)),
 p 50 (.bin .add (.t 48) (.t 49)),
 p 51 (.mv (.t 8)),
 p 52 (.bin .rem (.t 50) (.t 51)),
 p 10 (.mv (.t 52))])
 (.seq (.rg [p 53 (.mv (.t 2)),
 p 54 (.mv (.t 10)),
 p 55 (.ia 1 (.t 53) (.t 54)),
 p 56 (.ld (.t 55))])
 (.cond (.t 56) (.seq (.rg [p 57 (.mv (.t 10)),
 p 58 (.ldn 6 (.t 4)),
 p 59 (.mv (.t 10)),
 p 60 (.call 77 [(.t 58), (.t 59)]),
 p 61 (.bin .sub (.t 60) (.k (.int .i64 1))),
 p 62 (.bd [.int .i64 0, .int .i64 0] [(0, 1, (.t 57)), (1, 1, (.t 61))]),
 p 63 (.mv (.t 10)),
 ⟨none, .stn 2 (.t 6) (.t 62), none, false⟩,
 p 7 (.mv (.t 63))])
 .ret)
 .skip))))
 (.rg [p 45 (.mv (.t 9)),
 p 46 (.bin .add (.t 45) (.k (.int .i64 1))),
 p 9 (.mv (.t 46))]))))))
 (.seq (.rg [p 64 (.fa 1 (.t 3)),
 ⟨none, .st (.t 64) (.k (.int .i64 0)), none, false⟩])
 (.seq (.rg [p 65 (.ldn 2 (.t 3)),
 ⟨none, .stn 2 (.t 6) (.t 65), none, false⟩,
 p 7 (.mv (.k (.int .i64 (-1))))])
 .ret))))))),
 [.celln 6 2, .tmp 7]⟩

def F91 : Fnc := ⟨(.seq (.rg [p 2 (.box (.t 0)),
 p 4 (.mv (.k (.bool false)))])
 (.seq (.rg [p 5 (.mv (.t 1)),
 p 6 (.fa 0 (.t 2)),
 p 7 (.ld (.t 6)),
 p 8 (.len (.t 7)),
 p 9 (.bin .sub (.t 8) (.k (.int .i64 1))),
 p 10 (.call 103 [(.t 5), (.k (.int .i64 0)), (.t 9)]),
 p 4 (.mv (.t 10))])
 .ret)),
 [.tmp 4]⟩

def F101 : Fnc := ⟨(.seq (.rg [p 1 (.box (.t 0)),
 p 2 (.mv (.k (.int .i64 0)))])
 (.seq (.rg [p 3 (.mv (.k (.int .i64 0)))])
 (.seq (.seq (.rg [p 6 (.fa 0 (.t 1)),
 p 7 (.ld (.t 6)),
 p 8 (.len (.t 7)),
 p 9 (.mv (.k (.int .i64 0)))])
 (.block 0 (.loop (.seq (.rg [p 10 (.bin .lss (.t 9) (.t 8))])
 (.seq (.cond (.t 10) .skip
 (.exit 0))
 (.seq (.block 1 (.seq (.rg [p 11 (.ia 4 (.t 7) (.t 9)),
 p 12 (.ldn 4 (.t 11)),
 p 5 (.new [.int .i64 0, .bool false, .int .i64 0, .int .i64 0]),
 ⟨none, .stn 4 (.t 5) (.t 12), none, false⟩])
 (.seq (.rg [p 13 (.fa 1 (.t 5)),
 p 14 (.ld (.t 13))])
 (.cond (.t 14) (.rg [p 15 (.mv (.t 3)),
 p 16 (.bin .add (.t 15) (.k (.int .i64 1))),
 p 3 (.mv (.t 16))])
 .skip))))
 (.rg [p 17 (.bin .add (.t 9) (.k (.int .i64 1))),
 p 9 (.mv (.t 17))])))))))
 (.seq (.rg [p 18 (.mv (.t 3)),
 p 2 (.mv (.t 18))])
 .ret)))),
 [.tmp 2]⟩

def F103 : Fnc := ⟨(.seq (.rg [p 6 (.mv (.k (.bool false)))])
 (.seq (.rg [p 7 (.mv (.t 1)),
 p 8 (.mv (.t 0)),
 p 9 (.bin .leq (.t 7) (.t 8)),
 p 10 (.mv (.t 9)),
 ⟨(some 11), .mv (.t 0), (some (10, true)), false⟩,
 ⟨(some 12), .mv (.t 2), (some (10, true)), false⟩,
 ⟨(some 13), .bin .leq (.t 11) (.t 12), (some (10, true)), false⟩,
 p 14 (.pick (.t 10) (.t 13) (.k (.bool false))),
 p 6 (.mv (.t 14))])
 .ret)),
 [.tmp 6]⟩

def F128 : Fnc := ⟨(.seq (.rg [p 2 (.box (.t 0)),
 p 3 (.box (.t 1)),
 p 4 (.mv (.k (.bool false)))])
 (.seq (.seq (.rg [p 5 (.fa 0 (.t 2)),
 p 6 (.ld (.t 5)),
 p 7 (.fa 0 (.t 3)),
 p 8 (.ld (.t 7)),
 p 9 (.call 134 [(.t 6), (.t 8)]),
 p 10 (.not (.t 9))])
 (.cond (.t 10) (.seq (.rg [p 4 (.mv (.k (.bool false)))])
 .ret)
 .skip))
 (.seq (.seq (.rg [p 11 (.fa 1 (.t 2)),
 p 12 (.ld (.t 11)),
 p 13 (.fa 1 (.t 3)),
 p 14 (.ld (.t 13)),
 p 15 (.bin .neq (.t 12) (.t 14))])
 (.cond (.t 15) (.seq (.rg [p 4 (.mv (.k (.bool false)))])
 .ret)
 .skip))
 (.seq (.seq (.rg [p 16 (.fa 2 (.t 2)),
 p 17 (.ld (.t 16)),
 p 18 (.fa 2 (.t 3)),
 p 19 (.ld (.t 18)),
 p 20 (.bin .neq (.t 17) (.t 19))])
 (.cond (.t 20) (.seq (.rg [p 4 (.mv (.k (.bool false)))])
 .ret)
 .skip))
 (.seq (.seq (.rg [p 21 (.fa 3 (.t 2)),
 p 22 (.ld (.t 21)),
 p 23 (.fa 3 (.t 3)),
 p 24 (.ld (.t 23)),
 p 25 (.bin .neq (.t 22) (.t 24))])
 (.cond (.t 25) (.seq (.rg [p 4 (.mv (.k (.bool false)))])
 .ret)
 .skip))
 (.seq (.seq (.rg [p 26 (.fa 4 (.t 2)),
 p 27 (.ld (.t 26)),
 p 28 (.fa 4 (.t 3)),
 p 29 (.ld (.t 28)),
 p 30 (.bin .neq (.t 27) (.t 29))])
 (.cond (.t 30) (.seq (.rg [p 4 (.mv (.k (.bool false)))])
 .ret)
 .skip))
 (.seq (.seq (.rg [p 31 (.fa 5 (.t 2)),
 p 32 (.ld (.t 31)),
 p 33 (.fa 5 (.t 3)),
 p 34 (.ld (.t 33)),
 p 35 (.bin .neq (.t 32) (.t 34))])
 (.cond (.t 35) (.seq (.rg [p 4 (.mv (.k (.bool false)))])
 .ret)
 .skip))
 (.seq (.rg [p 4 (.mv (.k (.bool true)))])
 .ret)))))))),
 [.tmp 4]⟩

def F133 : Fnc := ⟨(.seq (.rg [p 2 (.box (.t 0)),
 p 3 (.box (.t 1)),
 p 4 (.mv (.k (.bool false)))])
 (.seq (.seq (.rg [p 5 (.fa 0 (.t 2)),
 p 6 (.ld (.t 5)),
 p 7 (.fa 0 (.t 3)),
 p 8 (.ld (.t 7)),
 p 9 (.bin .neq (.t 6) (.t 8))])
 (.cond (.t 9) (.seq (.rg [p 4 (.mv (.k (.bool false)))])
 .ret)
 .skip))
 (.seq (.seq (.rg [p 10 (.fa 1 (.t 2)),
 p 11 (.ld (.t 10)),
 p 12 (.fa 1 (.t 3)),
 p 13 (.ld (.t 12)),
 p 14 (.eqb true (.t 11) (.t 13))])
 (.cond (.t 14) (.seq (.rg [p 4 (.mv (.k (.bool false)))])
 .ret)
 .skip))
 (.seq (.seq (.rg [p 15 (.fa 2 (.t 2)),
 p 16 (.ld (.t 15)),
 p 17 (.fa 2 (.t 3)),
 p 18 (.ld (.t 17)),
 p 19 (.bin .neq (.t 16) (.t 18))])
 (.cond (.t 19) (.seq (.rg [p 4 (.mv (.k (.bool false)))])
 .ret)
 .skip))
 (.seq (.seq (.rg [p 20 (.fa 3 (.t 2)),
 p 21 (.ld (.t 20)),
 p 22 (.fa 3 (.t 3)),
 p 23 (.ld (.t 22)),
 p 24 (.bin .neq (.t 21) (.t 23))])
 (.cond (.t 24) (.seq (.rg [p 4 (.mv (.k (.bool false)))])
 .ret)
 .skip))
 (.seq (.rg [p 4 (.mv (.k (.bool true)))])
 .ret)))))),
 [.tmp 4]⟩

def F134 : Fnc := ⟨(.seq (.rg [p 4 (.mv (.k (.bool false)))])
 (.seq (.seq (.rg [p 6 (.mv (.t 0)),
 p 7 (.len (.t 6)),
 p 8 (.mv (.t 1)),
 p 9 (.len (.t 8)),
 p 10 (.bin .neq (.t 7) (.t 9))])
 (.cond (.t 10) (.seq (.rg [p 4 (.mv (.k (.bool false)))])
 .ret)
 .skip))
 (.seq (.seq (.rg [p 5 (.mv (.k (.int .i64 0)))])
 (.block 0 (.loop (.seq (.seq (.rg [p 11 (.mv (.t 5)),
 p 12 (.mv (.t 0)),
 p 13 (.len (.t 12)),
 p 14 (.bin .lss (.t 11) (.t 13))])
 (.cond (.t 14) .skip
 (.exit 0)))
 (.seq (.block 1 (.seq (.rg [⟨(some 17), .mv (.t 0), none, true⟩,
 ⟨(some 18), .mv (.t 5), none, true⟩,
 ⟨(some 19), .ia 4 (.t 17) (.t 18), none, true⟩,
 ⟨(some 20), .ldn 4 (.t 19), none, true⟩,
 ⟨(some 21), .mv (.t 1), none, true⟩,
 ⟨(some 22), .mv (.t 5), none, true⟩,
 ⟨(some 23), .ia 4 (.t 21) (.t 22), none, true⟩,
 ⟨(some 24), .ldn 4 (.t 23), none, true⟩,
 p 25 (.call 133 [(.t 20), (.t 24)]),
 p 26 (.not (.t 25))])
 (.cond (.t 26) (.seq (.rg [p 4 (.mv (.k (.bool false)))])
 .ret)
 .skip)))
 (.rg [p 15 (.mv (.t 5)),
 p 16 (.bin .add (.t 15) (.k (.int .i64 1))),
 p 5 (.mv (.t 16))]))))))
 (.seq (.rg [p 4 (.mv (.k (.bool true)))])
 .ret)))),
 [.tmp 4]⟩

def F140 : Fnc := ⟨(.seq (.rg [p 2 (.box (.t 0)),
 p 3 (.box (.t 1)),
 p 4 (.mv (.k (.bool false)))])
 (.seq (.seq (.rg [p 5 (.fa 0 (.t 2)),
 p 6 (.ld (.t 5)),
 p 7 (.fa 0 (.t 3)),
 p 8 (.ld (.t 7)),
 p 9 (.bin .neq (.t 6) (.t 8))])
 (.cond (.t 9) (.seq (.rg [p 4 (.mv (.k (.bool false)))])
 .ret)
 .skip))
 (.seq (.seq (.rg [p 10 (.fa 1 (.t 2)),
 p 11 (.ld (.t 10)),
 p 12 (.fa 1 (.t 3)),
 p 13 (.ld (.t 12)),
 p 14 (.bin .neq (.t 11) (.t 13))])
 (.cond (.t 14) (.seq (.rg [p 4 (.mv (.k (.bool false)))])
 .ret)
 .skip))
 (.seq (.rg [p 4 (.mv (.k (.bool true)))])
 .ret)))),
 [.tmp 4]⟩

def F145 : Fnc := ⟨(.seq (.rg [p 2 (.box (.t 0)),
 p 4 (.mv (.k (.int .i64 0)))])
 (.seq (.rg [p 5 (.fa 0 (.t 2)),
 p 6 (.ld (.t 5)),
 p 7 (.mv (.t 1)),
 p 8 (.call 149 [(.t 6), (.t 7)]),
 p 1 (.mv (.t 8))])
 (.seq (.seq (.rg [p 9 (.mv (.t 1)),
 p 10 (.bin .lss (.t 9) (.k (.int .i64 0)))])
 (.cond (.t 10) (.seq (.rg [p 4 (.mv (.k (.int .i64 (-1))))])
 .ret)
 .skip))
 (.seq (.rg [p 11 (.mv (.t 1)),
 p 4 (.mv (.t 11))])
 .ret)))),
 [.tmp 4]⟩

def F149 : Fnc := ⟨(.seq (.rg [p 4 (.mv (.k (.int .i64 0)))])
 (.seq (.rg [p 5 (.mv (.t 1)),
 p 6 (.mv (.t 0)),
 p 7 (.len (.t 6)),
 p 8 (.bin .sub (.t 5) (.t 7)),
 p 1 (.mv (.t 8))])
 (.seq (.seq (.rg [p 9 (.mv (.t 1)),
 p 10 (.bin .lss (.t 9) (.k (.int .i64 0)))])
 (.cond (.t 10) (.seq (.rg [p 4 (.mv (.k (.int .i64 (-1))))])
 .ret)
 .skip))
 (.seq (.rg [p 11 (.mv (.t 1)),
 p 4 (.mv (.t 11))])
 .ret)))),
 [.tmp 4]⟩

def F159 : Fnc := ⟨(.seq (.rg [p 1 (.box (.t 0)),
 p 2 (.new [.slice none 0 0, .int .i64 0, .int .i64 0, .int .i64 0, .int .i64 0, .int .i64 0])])
 (.seq (.rg [p 3 (.new [.slice none 0 0, .int .i64 0, .int .i64 0, .int .i64 0, .int .i64 0, .int .i64 0])])
 (.seq (.rg [p 4 (.fa 0 (.t 1)),
 p 5 (.ld (.t 4)),
 p 6 (.call 165 [(.t 5)]),
 p 7 (.fa 0 (.t 3)),
 ⟨none, .st (.t 7) (.t 6), none, false⟩])
 (.seq (.rg [p 8 (.fa 1 (.t 1)),
 p 9 (.ld (.t 8)),
 p 10 (.fa 1 (.t 3)),
 ⟨none, .st (.t 10) (.t 9), none, false⟩])
 (.seq (.rg [p 11 (.fa 2 (.t 1)),
 p 12 (.ld (.t 11)),
 p 13 (.fa 2 (.t 3)),
 ⟨none, .st (.t 13) (.t 12), none, false⟩])
 (.seq (.rg [p 14 (.fa 3 (.t 1)),
 p 15 (.ld (.t 14)),
 p 16 (.fa 3 (.t 3)),
 ⟨none, .st (.t 16) (.t 15), none, false⟩])
 (.seq (.rg [p 17 (.fa 4 (.t 1)),
 p 18 (.ld (.t 17)),
 p 19 (.fa 4 (.t 3)),
 ⟨none, .st (.t 19) (.t 18), none, false⟩])
 (.seq (.rg [p 20 (.fa 5 (.t 1)),
 p 21 (.ld (.t 20)),
 p 22 (.fa 5 (.t 3)),
 ⟨none, .st (.t 22) (.t 21), none, false⟩])
 (.seq (.rg [p 23 (.ldn 6 (.t 3)),
 ⟨none, .stn 6 (.t 2) (.t 23), none, false⟩])
 .ret))))))))),
 [.celln 2 6]⟩

def F164 : Fnc := ⟨(.seq (.rg [p 1 (.box (.t 0)),
 p 2 (.new [.int .i64 0, .bool false, .int .i64 0, .int .i64 0])])
 (.seq (.rg [p 3 (.new [.int .i64 0, .bool false, .int .i64 0, .int .i64 0])])
 (.seq (.rg [p 4 (.fa 0 (.t 1)),
 p 5 (.ld (.t 4)),
 p 6 (.fa 0 (.t 3)),
 ⟨none, .st (.t 6) (.t 5), none, false⟩])
 (.seq (.rg [p 7 (.fa 1 (.t 1)),
 p 8 (.ld (.t 7)),
 p 9 (.fa 1 (.t 3)),
 ⟨none, .st (.t 9) (.t 8), none, false⟩])
 (.seq (.rg [p 10 (.fa 2 (.t 1)),
 p 11 (.ld (.t 10)),
 p 12 (.fa 2 (.t 3)),
 ⟨none, .st (.t 12) (.t 11), none, false⟩])
 (.seq (.rg [p 13 (.fa 3 (.t 1)),
 p 14 (.ld (.t 13)),
 p 15 (.fa 3 (.t 3)),
 ⟨none, .st (.t 15) (.t 14), none, false⟩])
 (.seq (.rg [p 16 (.ldn 4 (.t 3)),
 ⟨none, .stn 4 (.t 2) (.t 16), none, false⟩])
 .ret))))))),
 [.celln 2 4]⟩

def F165 : Fnc := ⟨(.seq (.rg [p 2 (.mv (.k (.slice none 0 0)))])
 (.seq (.rg [p 5 (.mv (.t 0)),
 p 6 (.len (.t 5)),
 p 7 (.mk 4 32 [.int .i64 0, .bool false, .int .i64 0, .int .i64 0] (.t 6) (.t 6)),
 p 3 (.mv (.t 7))])
 (.seq (.seq (.rg [p 4 (.mv (.k (.int .i64 0)))])
 (.block 0 (.loop (.seq (.seq (.rg [p 8 (.mv (.t 4)),
 p 9 (.mv (.t 0)),
 p 10 (.len (.t 9)),
 p 11 (.bin .lss (.t 8) (.t 10))])
 (.cond (.t 11) .skip
 (.exit 0)))
 (.seq (.block 1 (.rg [p 14 (.mv (.t 3)),
 p 15 (.mv (.t 4)),
 p 16 (.mv (.t 0)),
 p 17 (.mv (.t 4)),
 p 18 (.ia 4 (.t 16) (.t 17)),
 p 19 (.ldn 4 (.t 18)),
 p 20 (.call 164 [(.t 19)]),
 p 21 (.ia 4 (.t 14) (.t 15)),
 ⟨none, .stn 4 (.t 21) (.t 20), none, false⟩]))
 (.rg [p 12 (.mv (.t 4)),
 p 13 (.bin .add (.t 12) (.k (.int .i64 1))),
 p 4 (.mv (.t 13))]))))))
 (.seq (.rg [p 22 (.mv (.t 3)),
 p 2 (.mv (.t 22))])
 .ret)))),
 [.tmp 2]⟩

def F171 : Fnc := ⟨(.seq (.rg [p 1 (.box (.t 0)),
 p 2 (.new [.int .i64 0, .int .i64 0])])
 (.seq (.rg [p 3 (.new [.int .i64 0, .int .i64 0])])
 (.seq (.rg [p 4 (.fa 0 (.t 1)),
 p 5 (.ld (.t 4)),
 p 6 (.fa 0 (.t 3)),
 ⟨none, .st (.t 6) (.t 5), none, false⟩])
 (.seq (.rg [p 7 (.fa 1 (.t 1)),
 p 8 (.ld (.t 7)),
 p 9 (.fa 1 (.t 3)),
 ⟨none, .st (.t 9) (.t 8), none, false⟩])
 (.seq (.rg [p 10 (.ldn 2 (.t 3)),
 ⟨none, .stn 2 (.t 2) (.t 10), none, false⟩])
 .ret))))),
 [.celln 2 2]⟩

def F184 : Fnc := ⟨(.seq (.rg [p 1 (.box (.t 0)),
 p 2 (.mv (.k (.bool false)))])
 (.seq (.rg [p 3 (.mv (.k (.int .i64 0)))])
 (.seq (.seq (.rg [p 4 (.mv (.k (.int .i64 0)))])
 (.block 0 (.loop (.seq (.seq (.rg [p 7 (.mv (.t 4)),
 p 8 (.fa 0 (.t 1)),
 p 9 (.ld (.t 8)),
 p 10 (.len (.t 9)),
 p 11 (.bin .lss (.t 7) (.t 10))])
 (.cond (.t 11) .skip
 (.exit 0)))
 (.seq (.block 1 (.seq (.rg [p 14 (.fa 0 (.t 1)),
 p 15 (.ld (.t 14)),
 p 16 (.mv (.t 4)),
 p 17 (.ia 4 (.t 15) (.t 16)),
 p 18 (.fa 1 (.t 17)),
 p 19 (.ld (.t 18))])
 (.cond (.t 19) (.rg [p 20 (.mv (.t 3)),
 p 21 (.bin .add (.t 20) (.k (.int .i64 1))),
 p 3 (.mv (.t 21))])
 .skip)))
 (.rg [p 12 (.mv (.t 4)),
 p 13 (.bin .add (.t 12) (.k (.int .i64 1))),
 p 4 (.mv (.t 13))]))))))
 (.seq (.seq (.rg [p 5 (.mv (.k (.int .i64 0)))])
 (.block 2 (.loop (.seq (.seq (.rg [p 22 (.mv (.t 5)),
 p 23 (.fa 0 (.t 1)),
 p 24 (.ld (.t 23)),
 p 25 (.len (.t 24)),
 p 26 (.bin .lss (.t 22) (.t 25))])
 (.cond (.t 26) .skip
 (.exit 2)))
 (.seq (.block 3 (.seq (.rg [p 29 (.fa 0 (.t 1)),
 p 30 (.ld (.t 29)),
 p 31 (.mv (.t 5)),
 p 32 (.ia 4 (.t 30) (.t 31)),
 p 33 (.ldn 4 (.t 32)),
 p 6 (.new [.int .i64 0, .bool false, .int .i64 0, .int .i64 0]),
 ⟨none, .stn 4 (.t 6) (.t 33), none, false⟩])
 (.seq (.rg [p 34 (.fa 0 (.t 6)),
 p 35 (.ld (.t 34)),
 p 36 (.call 230 [(.t 35), (.k (.int .i64 1)), (.k (.int .i64 4))]),
 p 37 (.not (.t 36)),
 p 38 (.mv (.t 37)),
 ⟨(some 39), .fa 1 (.t 6), (some (38, false)), false⟩,
 ⟨(some 40), .ld (.t 39), (some (38, false)), false⟩,
 ⟨(some 41), .not (.t 40), (some (38, false)), false⟩,
 ⟨(some 42), .mv (.t 41), (some (38, false)), false⟩,
 ⟨(some 43), .fa 2 (.t 6), (some (42, true)), false⟩,
 ⟨(some 44), .ld (.t 43), (some (42, true)), false⟩,
 ⟨(some 45), .bin .neq (.t 44) (.k (.int .i64 0)), (some (42, true)), false⟩,
 ⟨(some 46), .mv (.t 45), (some (42, true)), false⟩,
 ⟨(some 47), .fa 3 (.t 6), (some (46, false)), false⟩,
 ⟨(some 48), .ld (.t 47), (some (46, false)), false⟩,
 ⟨(some 49), .bin .neq (.t 48) (.k (.int .i64 0)), (some (46, false)), false⟩,
 ⟨(some 50), .pick (.t 46) (.k (.bool true)) (.t 49), (some (42, true)), false⟩,
 ⟨(some 51), .pick (.t 42) (.t 50) (.k (.bool false)), (some (38, false)), false⟩,
 p 52 (.pick (.t 38) (.k (.bool true)) (.t 51)),
 p 53 (.mv (.t 52)),
 ⟨(some 54), .fa 1 (.t 6), (some (53, false)), false⟩,
 ⟨(some 55), .ld (.t 54), (some (53, false)), false⟩,
 ⟨(some 56), .mv (.t 55), (some (53, false)), false⟩,
 ⟨(some 57), .fa 2 (.t 6), (some (56, true)), true⟩,
 ⟨(some 58), .ld (.t 57), (some (56, true)), true⟩,
 ⟨(some 59), .mv (.t 3), (some (56, true)), true⟩,
 ⟨(some 60), .bin .mul (.k (.int .i64 2)) (.t 59), (some (56, true)), true⟩,
 ⟨(some 61), .ldn 6 (.t 1), (some (56, true)), true⟩,
 ⟨(some 62), .call 214 [(.t 61)], (some (56, true)), true⟩,
 ⟨(some 63), .bin .mul (.t 60) (.t 62), (some (56, true)), true⟩,
 ⟨(some 64), .call 230 [(.t 58), (.t 63), (.k (.int .i64 1000))], (some (56, true)), false⟩,
 ⟨(some 65), .not (.t 64), (some (56, true)), false⟩,
 ⟨(some 66), .mv (.t 65), (some (56, true)), false⟩,
 ⟨(some 67), .fa 3 (.t 6), (some (66, false)), false⟩,
 ⟨(some 68), .ld (.t 67), (some (66, false)), false⟩,
 ⟨(some 69), .call 230 [(.t 68), (.k (.int .i64 1)), (.k (.int .i64 8))], (some (66, false)), false⟩,
 ⟨(some 70), .not (.t 69), (some (66, false)), false⟩,
 ⟨(some 71), .pick (.t 66) (.k (.bool true)) (.t 70), (some (56, true)), false⟩,
 ⟨(some 72), .pick (.t 56) (.t 71) (.k (.bool false)), (some (53, false)), false⟩,
 p 73 (.pick (.t 53) (.k (.bool true)) (.t 72))])
 (.cond (.t 73) (.seq (.rg [p 2 (.mv (.k (.bool false)))])
 .ret)
 .skip))))
 (.rg [p 27 (.mv (.t 5)),
 p 28 (.bin .add (.t 27) (.k (.int .i64 1))),
 p 5 (.mv (.t 28))]))))))
 (.seq (.rg [p 74 (.fa 0 (.t 1)),
 p 75 (.ld (.t 74)),
 p 76 (.len (.t 75)),
 p 77 (.call 230 [(.t 76), (.k (.int .i64 1)), (.k (.int .i64 4))]),
 p 78 (.mv (.t 77)),
 ⟨(some 79), .ldn 6 (.t 1), (some (78, true)), false⟩,
 ⟨(some 80), .call 245 [(.t 79)], (some (78, true)), false⟩,
 p 81 (.pick (.t 78) (.t 80) (.k (.bool false))),
 p 2 (.mv (.t 81))])
 .ret))))),
 [.tmp 2]⟩

def F186 : Fnc := ⟨(.seq (.rg [p 1 (.box (.t 0)),
 p 2 (.mv (.k (.int .i64 0)))])
 (.seq (.seq (.rg [p 3 (.fa 3 (.t 1)),
 p 4 (.ld (.t 3)),
 p 5 (.call 230 [(.t 4), (.k (.int .i64 0)), (.k (.int .i64 3))]),
 p 6 (.not (.t 5)),
 p 7 (.mv (.t 6)),
 ⟨(some 8), .fa 2 (.t 1), (some (7, false)), false⟩,
 ⟨(some 9), .ld (.t 8), (some (7, false)), false⟩,
 ⟨(some 10), .call 230 [(.t 9), (.k (.int .i64 0)), (.k (.int .i64 3))], (some (7, false)), false⟩,
 ⟨(some 11), .not (.t 10), (some (7, false)), false⟩,
 p 12 (.pick (.t 7) (.k (.bool true)) (.t 11))])
 (.cond (.t 12) (.seq (.rg [p 2 (.mv (.k (.int .i64 0)))])
 .ret)
 .skip))
 (.seq (.rg [p 13 (.fa 3 (.t 1)),
 p 14 (.ld (.t 13)),
 p 15 (.bin .add (.t 14) (.k (.int .i64 2))),
 p 16 (.fa 2 (.t 1)),
 p 17 (.ld (.t 16)),
 p 18 (.bin .add (.t 17) (.k (.int .i64 6))),
 p 19 (.bin .mul (.t 15) (.t 18)),
 p 2 (.mv (.t 19))])
 .ret))),
 [.tmp 2]⟩

def F214 : Fnc := ⟨(.seq (.rg [p 1 (.box (.t 0)),
 p 2 (.mv (.k (.int .i64 0)))])
 (.seq (.seq (.rg [p 3 (.ldn 6 (.t 1)),
 p 4 (.call 186 [(.t 3)]),
 p 5 (.bin .eql (.t 4) (.k (.int .i64 0))),
 p 6 (.mv (.t 5)),
 ⟨(some 7), .fa 5 (.t 1), (some (6, false)), false⟩,
 ⟨(some 8), .ld (.t 7), (some (6, false)), false⟩,
 ⟨(some 9), .call 230 [(.t 8), (.k (.int .i64 1)), (.k (.int .i64 40))], (some (6, false)), false⟩,
 ⟨(some 10), .not (.t 9), (some (6, false)), false⟩,
 p 11 (.pick (.t 6) (.k (.bool true)) (.t 10))])
 (.cond (.t 11) (.seq (.rg [p 2 (.mv (.k (.int .i64 0)))])
 .ret)
 .skip))
 (.seq (.rg [⟨(some 12), .ldn 6 (.t 1), none, true⟩,
 ⟨(some 13), .call 186 [(.t 12)], none, true⟩,
 ⟨(some 14), .bin .mul (.k (.int .i64 2)) (.t 13), none, true⟩,
 ⟨(some 15), .fa 5 (.t 1), none, true⟩,
 ⟨(some 16), .ld (.t 15), none, true⟩,
 p 17 (.bin .add (.t 14) (.t 16)),
 p 2 (.mv (.t 17))])
 .ret))),
 [.tmp 2]⟩

def F215 : Fnc := ⟨(.seq (.rg [p 2 (.box (.t 0)),
 p 4 (.mv (.k (.int .i64 0)))])
 (.seq (.seq (.rg [p 5 (.ldn 6 (.t 2)),
 p 6 (.call 184 [(.t 5)]),
 p 7 (.not (.t 6)),
 p 8 (.mv (.t 7)),
 ⟨(some 9), .mv (.t 1), (some (8, false)), false⟩,
 ⟨(some 10), .fa 0 (.t 2), (some (8, false)), false⟩,
 ⟨(some 11), .ld (.t 10), (some (8, false)), false⟩,
 ⟨(some 12), .len (.t 11), (some (8, false)), false⟩,
 ⟨(some 13), .bin .sub (.t 12) (.k (.int .i64 1)), (some (8, false)), false⟩,
 ⟨(some 14), .call 230 [(.t 9), (.k (.int .i64 0)), (.t 13)], (some (8, false)), false⟩,
 ⟨(some 15), .not (.t 14), (some (8, false)), false⟩,
 p 16 (.pick (.t 8) (.k (.bool true)) (.t 15))])
 (.cond (.t 16) (.seq (.rg [p 4 (.mv (.k (.int .i64 0)))])
 .ret)
 .skip))
 (.seq (.rg [⟨(some 17), .fa 0 (.t 2), none, true⟩,
 ⟨(some 18), .ld (.t 17), none, true⟩,
 ⟨(some 19), .mv (.t 1), none, true⟩,
 ⟨(some 20), .ia 4 (.t 18) (.t 19), none, true⟩,
 ⟨(some 21), .fa 0 (.t 20), none, true⟩,
 ⟨(some 22), .ld (.t 21), none, true⟩,
 ⟨(some 23), .fa 1 (.t 2), none, true⟩,
 ⟨(some 24), .ld (.t 23), none, true⟩,
 p 25 (.bin .mul (.t 22) (.t 24)),
 p 4 (.mv (.t 25))])
 .ret))),
 [.tmp 4]⟩

def F217 : Fnc := ⟨(.seq (.rg [p 2 (.box (.t 0)),
 p 3 (.box (.t 1)),
 p 4 (.mv (.k (.bool false)))])
 (.seq (.rg [p 5 (.ldn 6 (.t 3)),
 p 6 (.call 184 [(.t 5)]),
 p 7 (.mv (.t 6)),
 ⟨(some 8), .fa 0 (.t 2), (some (7, true)), true⟩,
 ⟨(some 9), .ld (.t 8), (some (7, true)), true⟩,
 ⟨(some 10), .fa 0 (.t 3), (some (7, true)), true⟩,
 ⟨(some 11), .ld (.t 10), (some (7, true)), true⟩,
 ⟨(some 12), .len (.t 11), (some (7, true)), true⟩,
 ⟨(some 13), .bin .sub (.t 12) (.k (.int .i64 1)), (some (7, true)), true⟩,
 ⟨(some 14), .call 230 [(.t 9), (.k (.int .i64 0)), (.t 13)], (some (7, true)), false⟩,
 p 15 (.pick (.t 7) (.t 14) (.k (.bool false))),
 p 16 (.mv (.t 15)),
 ⟨(some 17), .fa 1 (.t 2), (some (16, true)), true⟩,
 ⟨(some 18), .ld (.t 17), (some (16, true)), true⟩,
 ⟨(some 19), .ldn 6 (.t 3), (some (16, true)), true⟩,
 ⟨(some 20), .fa 0 (.t 2), (some (16, true)), true⟩,
 ⟨(some 21), .ld (.t 20), (some (16, true)), true⟩,
 ⟨(some 22), .call 215 [(.t 19), (.t 21)], (some (16, true)), true⟩,
 ⟨(some 23), .call 230 [(.t 18), (.k (.int .i64 0)), (.t 22)], (some (16, true)), false⟩,
 p 24 (.pick (.t 16) (.t 23) (.k (.bool false))),
 p 4 (.mv (.t 24))])
 .ret)),
 [.tmp 4]⟩

def F230 : Fnc := ⟨(.seq (.rg [p 6 (.mv (.k (.bool false)))])
 (.seq (.rg [p 7 (.mv (.t 0)),
 p 8 (.mv (.t 1)),
 p 9 (.bin .geq (.t 7) (.t 8)),
 p 10 (.mv (.t 9)),
 ⟨(some 11), .mv (.t 0), (some (10, true)), false⟩,
 ⟨(some 12), .mv (.t 2), (some (10, true)), false⟩,
 ⟨(some 13), .bin .leq (.t 11) (.t 12), (some (10, true)), false⟩,
 p 14 (.pick (.t 10) (.t 13) (.k (.bool false))),
 p 6 (.mv (.t 14))])
 .ret)),
 [.tmp 6]⟩

def F245 : Fnc := ⟨(.seq (.rg [p 1 (.box (.t 0)),
 p 2 (.mv (.k (.bool false)))])
 (.seq (.rg [p 3 (.fa 1 (.t 1)),
 p 4 (.ld (.t 3)),
 p 5 (.call 230 [(.t 4), (.k (.int .i64 1)), (.k (.int .i64 4))]),
 p 6 (.mv (.t 5)),
 ⟨(some 7), .ldn 6 (.t 1), (some (6, true)), false⟩,
 ⟨(some 8), .call 186 [(.t 7)], (some (6, true)), false⟩,
 ⟨(some 9), .bin .gtr (.t 8) (.k (.int .i64 0)), (some (6, true)), false⟩,
 p 10 (.pick (.t 6) (.t 9) (.k (.bool false))),
 p 11 (.mv (.t 10)),
 ⟨(some 12), .fa 4 (.t 1), (some (11, true)), false⟩,
 ⟨(some 13), .ld (.t 12), (some (11, true)), false⟩,
 ⟨(some 14), .call 230 [(.t 13), (.k (.int .i64 1)), (.k (.int .i64 12))], (some (11, true)), false⟩,
 p 15 (.pick (.t 11) (.t 14) (.k (.bool false))),
 p 16 (.mv (.t 15)),
 ⟨(some 17), .fa 5 (.t 1), (some (16, true)), false⟩,
 ⟨(some 18), .ld (.t 17), (some (16, true)), false⟩,
 ⟨(some 19), .call 230 [(.t 18), (.k (.int .i64 1)), (.k (.int .i64 40))], (some (16, true)), false⟩,
 p 20 (.pick (.t 16) (.t 19) (.k (.bool false))),
 p 2 (.mv (.t 20))])
 .ret)),
 [.tmp 2]⟩

def F258 : Fnc := ⟨(.seq (.rg [p 4 (.mv (.k (.bool false)))])
 (.seq (.rg [p 5 (.mv (.t 0)),
 p 6 (.mv (.t 1)),
 p 7 (.call 269 [(.t 5), (.t 6)]),
 p 8 (.bin .geq (.t 7) (.k (.int .i64 0))),
 p 4 (.mv (.t 8))])
 .ret)),
 [.tmp 4]⟩

def F269 : Fnc := ⟨(.seq (.rg [p 4 (.mv (.k (.int .i64 0)))])
 (.seq (.seq (.rg [p 6 (.mv (.t 0)),
 p 7 (.len (.t 6)),
 p 8 (.mv (.k (.int .i64 0)))])
 (.block 0 (.loop (.seq (.rg [p 9 (.bin .lss (.t 8) (.t 7))])
 (.seq (.cond (.t 9) .skip
 (.exit 0))
 (.seq (.block 1 (.seq (.rg [p 10 (.mv (.t 8)),
 p 5 (.mv (.t 10))])
 (.seq (.rg [p 11 (.mv (.t 1)),
 p 12 (.mv (.t 0)),
 p 13 (.mv (.t 5)),
 p 14 (.ia 4 (.t 12) (.t 13)),
 p 15 (.ldn 4 (.t 14)),
 p 16 (.calli (.t 11) [(.t 15)])])
 (.cond (.t 16) (.seq (.rg [p 17 (.mv (.t 5)),
 p 4 (.mv (.t 17))])
 .ret)
 .skip))))
 (.rg [p 18 (.bin .add (.t 8) (.k (.int .i64 1))),
 p 8 (.mv (.t 18))])))))))
 (.seq (.rg [p 4 (.mv (.k (.int .i64 (-1))))])
 .ret))),
 [.tmp 4]⟩

def F299 : Fnc := ⟨(.seq (.rg [p 3 (.box (.t 0)),
 p 4 (.box (.t 1)),
 p 6 (.mv (.k (.bool false)))])
 (.seq (.seq (.rg [p 14 (.mv (.t 2)),
 p 15 (.len (.t 14)),
 p 16 (.bin .gtr (.t 15) (.k (.int .i64 1048576)))])
 (.cond (.t 16) (.seq (.rg [p 6 (.mv (.k (.bool true)))])
 .ret)
 .skip))
 (.seq (.rg [p 7 (.mv (.k (.int .i64 1048576)))])
 (.seq (.rg [p 17 (.ldn 6 (.t 4)),
 p 18 (.mv (.t 7)),
 p 19 (.call 145 [(.t 17), (.t 18)]),
 p 7 (.mv (.t 19))])
 (.seq (.seq (.rg [p 20 (.mv (.t 7)),
 p 21 (.bin .lss (.t 20) (.k (.int .i64 0)))])
 (.cond (.t 21) (.seq (.rg [p 6 (.mv (.k (.bool true)))])
 .ret)
 .skip))
 (.seq (.rg [⟨(some 23), .ldn 2 (.t 3), none, true⟩,
 ⟨(some 24), .call 171 [(.t 23)], none, true⟩,
 ⟨(some 25), .ldn 6 (.t 4), none, true⟩,
 ⟨(some 26), .call 159 [(.t 25)], none, true⟩,
 ⟨(some 27), .mv (.t 2), none, true⟩,
 ⟨(some 28), .call 314 [(.t 27)], none, true⟩,
 ⟨(some 29), .call 312 [(.t 24), (.t 26), (.t 28)], none, true⟩,
 ⟨(some 22), .mv (.t 29), none, true⟩,
 ⟨(some 30), .ext 0 (.t 22), none, true⟩,
 ⟨(some 31), .ext 1 (.t 22), none, true⟩,
 ⟨(some 8), .new [.int .i64 0, .int .i64 0], none, true⟩,
 ⟨none, .stn 2 (.t 8) (.t 30), none, true⟩,
 p 9 (.mv (.t 31))])
 (.seq (.rg [p 32 (.ldn 6 (.t 4)),
 p 33 (.call 159 [(.t 32)]),
 p 10 (.new [.slice none 0 0, .int .i64 0, .int .i64 0, .int .i64 0, .int .i64 0, .int .i64 0]),
 ⟨none, .stn 6 (.t 10) (.t 33), none, false⟩])
 (.seq (.rg [p 34 (.mv (.t 2)),
 p 35 (.call 314 [(.t 34)]),
 p 11 (.mv (.t 35))])
 (.seq (.rg [⟨(some 37), .ldn 2 (.t 3), none, true⟩,
 ⟨(some 38), .call 171 [(.t 37)], none, true⟩,
 ⟨(some 39), .ldn 6 (.t 10), none, true⟩,
 ⟨(some 40), .mv (.t 11), none, true⟩,
 ⟨(some 41), .call 83 [(.t 38), (.t 39), (.t 40)], none, true⟩,
 ⟨(some 36), .mv (.t 41), none, true⟩,
 ⟨(some 42), .ext 0 (.t 36), none, true⟩,
 ⟨(some 43), .ext 1 (.t 36), none, true⟩,
 ⟨(some 12), .new [.int .i64 0, .int .i64 0], none, true⟩,
 ⟨none, .stn 2 (.t 12) (.t 42), none, true⟩,
 p 13 (.mv (.t 43))])
 (.seq (.seq (.rg [p 44 (.ldn 2 (.t 12)),
 p 45 (.ldn 2 (.t 8)),
 p 46 (.call 140 [(.t 44), (.t 45)]),
 p 47 (.not (.t 46)),
 p 48 (.mv (.t 47)),
 ⟨(some 49), .mv (.t 13), (some (48, false)), false⟩,
 ⟨(some 50), .mv (.t 9), (some (48, false)), false⟩,
 ⟨(some 51), .bin .neq (.t 49) (.t 50), (some (48, false)), false⟩,
 p 52 (.pick (.t 48) (.k (.bool true)) (.t 51))])
 (.cond (.t 52) (.seq (.rg [p 6 (.mv (.k (.bool false)))])
 .ret)
 .skip))
 (.seq (.seq (.rg [⟨(some 53), .ldn 6 (.t 10), none, true⟩,
 ⟨(some 54), .ldn 6 (.t 4), none, true⟩,
 ⟨(some 55), .call 159 [(.t 54)], none, true⟩,
 p 56 (.call 128 [(.t 53), (.t 55)]),
 p 57 (.not (.t 56))])
 (.cond (.t 57) (.seq (.rg [p 6 (.mv (.k (.bool false)))])
 .ret)
 .skip))
 (.seq (.seq (.rg [p 58 (.mv (.t 11)),
 p 59 (.mv (.t 2)),
 p 60 (.call 314 [(.t 59)]),
 p 61 (.call 315 [(.t 58), (.t 60)]),
 p 62 (.not (.t 61))])
 (.cond (.t 62) (.seq (.rg [p 6 (.mv (.k (.bool false)))])
 .ret)
 .skip))
 (.seq (.rg [p 6 (.mv (.k (.bool true)))])
 .ret))))))))))))),
 [.tmp 6]⟩

def F312 : Fnc := ⟨(.seq (.rg [p 3 (.box (.t 0)),
 p 4 (.box (.t 1)),
 p 6 (.new [.int .i64 0, .int .i64 0]),
 p 7 (.mv (.k (.int .i64 0)))])
 (.seq (.seq (.rg [p 10 (.ldn 2 (.t 3)),
 p 11 (.ldn 6 (.t 4)),
 p 12 (.call 217 [(.t 10), (.t 11)]),
 p 13 (.not (.t 12)),
 p 14 (.mv (.t 13)),
 ⟨(some 15), .mv (.t 2), (some (14, false)), false⟩,
 ⟨(some 16), .len (.t 15), (some (14, false)), false⟩,
 ⟨(some 17), .fa 0 (.t 4), (some (14, false)), false⟩,
 ⟨(some 18), .ld (.t 17), (some (14, false)), false⟩,
 ⟨(some 19), .len (.t 18), (some (14, false)), false⟩,
 ⟨(some 20), .bin .neq (.t 16) (.t 19), (some (14, false)), false⟩,
 p 21 (.pick (.t 14) (.k (.bool true)) (.t 20))])
 (.cond (.t 21) (.seq (.rg [p 22 (.ldn 2 (.t 3)),
 ⟨none, .stn 2 (.t 6) (.t 22), none, false⟩,
 p 7 (.mv (.k (.int .i64 (-1))))])
 .ret)
 .skip))
 (.seq (.seq (.rg [p 23 (.fa 1 (.t 3)),
 p 24 (.ld (.t 23)),
 p 25 (.bin .gtr (.t 24) (.k (.int .i64 0))),
 p 26 (.mv (.t 25)),
 ⟨(some 27), .mv (.t 2), (some (26, true)), false⟩,
 ⟨(some 28), .fa 0 (.t 3), (some (26, true)), false⟩,
 ⟨(some 29), .ld (.t 28), (some (26, true)), false⟩,
 ⟨(some 30), .ia 1 (.t 27) (.t 29), (some (26, true)), false⟩,
 ⟨(some 31), .ld (.t 30), (some (26, true)), false⟩,
 p 32 (.pick (.t 26) (.t 31) (.k (.bool false)))])
 (.cond (.t 32) (.seq (.rg [p 33 (.fa 1 (.t 3)),
 p 34 (.ld (.t 33)),
 p 35 (.bin .sub (.t 34) (.k (.int .i64 1))),
 p 36 (.fa 1 (.t 3)),
 ⟨none, .st (.t 36) (.t 35), none, false⟩])
 (.seq (.rg [⟨(some 37), .ldn 2 (.t 3), none, true⟩,
 ⟨(some 38), .fa 0 (.t 3), none, true⟩,
 ⟨(some 39), .ld (.t 38), none, true⟩,
 ⟨none, .stn 2 (.t 6) (.t 37), none, true⟩,
 p 7 (.mv (.t 39))])
 .ret))
 .skip))
 (.seq (.seq (.rg [p 8 (.mv (.k (.int .i64 1)))])
 (.block 0 (.loop (.seq (.seq (.rg [p 40 (.mv (.t 8)),
 p 41 (.mv (.t 2)),
 p 42 (.len (.t 41)),
 p 43 (.bin .leq (.t 40) (.t 42))])
 (.cond (.t 43) .skip
 (.exit 0)))
 (.seq (.block 1 (.seq (.rg [p 46 (.fa 0 (.t 3)),
 p 47 (.ld (.t 46)),
 p 48 (.mv (.t 8)),
 p 49 (.bin .add (.t 47) (.t 48)),
 p 50 (.mv (.t 2)),
 p 51 (.len (.t 50)),
 p 52 (.bin .rem (.t 49) (.t 51)),
 p 9 (.mv (.t 52))])
 (.seq (.rg [p 53 (.mv (.t 2)),
 p 54 (.mv (.t 9)),
 p 55 (.ia 1 (.t 53) (.t 54)),
 p 56 (.ld (.t 55))])
 (.cond (.t 56) (.seq (.rg [p 57 (.mv (.t 9)),
 p 58 (.ldn 6 (.t 4)),
 p 59 (.mv (.t 9)),
 p 60 (.call 215 [(.t 58), (.t 59)]),
 p 61 (.bin .sub (.t 60) (.k (.int .i64 1))),
 p 62 (.bd [.int .i64 0, .int .i64 0] [(0, 1, (.t 57)), (1, 1, (.t 61))]),
 p 63 (.mv (.t 9)),
 ⟨none, .stn 2 (.t 6) (.t 62), none, false⟩,
 p 7 (.mv (.t 63))])
 .ret)
 .skip))))
 (.rg [p 44 (.mv (.t 8)),
 p 45 (.bin .add (.t 44) (.k (.int .i64 1))),
 p 8 (.mv (.t 45))]))))))
 (.seq (.rg [p 64 (.fa 0 (.t 3)),
 p 65 (.ld (.t 64)),
 p 66 (.bd [.int .i64 0, .int .i64 0] [(0, 1, (.t 65))]),
 ⟨none, .stn 2 (.t 6) (.t 66), none, false⟩,
 p 7 (.mv (.k (.int .i64 (-1))))])
 .ret))))),
 [.celln 6 2, .tmp 7]⟩

def F314 : Fnc := ⟨(.seq (.rg [p 2 (.mv (.k (.slice none 0 0)))])
 (.seq (.rg [p 5 (.mv (.t 0)),
 p 6 (.len (.t 5)),
 p 7 (.mk 1 1 [.bool false] (.t 6) (.t 6)),
 p 3 (.mv (.t 7))])
 (.seq (.seq (.rg [p 4 (.mv (.k (.int .i64 0)))])
 (.block 0 (.loop (.seq (.seq (.rg [p 8 (.mv (.t 4)),
 p 9 (.mv (.t 0)),
 p 10 (.len (.t 9)),
 p 11 (.bin .lss (.t 8) (.t 10))])
 (.cond (.t 11) .skip
 (.exit 0)))
 (.seq (.block 1 (.rg [p 14 (.mv (.t 3)),
 p 15 (.mv (.t 4)),
 p 16 (.mv (.t 0)),
 p 17 (.mv (.t 4)),
 p 18 (.ia 1 (.t 16) (.t 17)),
 p 19 (.ld (.t 18)),
 p 20 (.ia 1 (.t 14) (.t 15)),
 ⟨none, .st (.t 20) (.t 19), none, false⟩]))
 (.rg [p 12 (.mv (.t 4)),
 p 13 (.bin .add (.t 12) (.k (.int .i64 1))),
 p 4 (.mv (.t 13))]))))))
 (.seq (.rg [p 21 (.mv (.t 3)),
 p 2 (.mv (.t 21))])
 .ret)))),
 [.tmp 2]⟩

def F315 : Fnc := ⟨(.seq (.rg [p 4 (.mv (.k (.bool false)))])
 (.seq (.seq (.rg [p 6 (.mv (.t 0)),
 p 7 (.len (.t 6)),
 p 8 (.mv (.t 1)),
 p 9 (.len (.t 8)),
 p 10 (.bin .neq (.t 7) (.t 9))])
 (.cond (.t 10) (.seq (.rg [p 4 (.mv (.k (.bool false)))])
 .ret)
 .skip))
 (.seq (.seq (.rg [p 5 (.mv (.k (.int .i64 0)))])
 (.block 0 (.loop (.seq (.seq (.rg [p 11 (.mv (.t 5)),
 p 12 (.mv (.t 0)),
 p 13 (.len (.t 12)),
 p 14 (.bin .lss (.t 11) (.t 13))])
 (.cond (.t 14) .skip
 (.exit 0)))
 (.seq (.block 1 (.seq (.rg [⟨(some 17), .mv (.t 0), none, true⟩,
 ⟨(some 18), .mv (.t 5), none, true⟩,
 ⟨(some 19), .ia 1 (.t 17) (.t 18), none, true⟩,
 ⟨(some 20), .ld (.t 19), none, true⟩,
 ⟨(some 21), .mv (.t 1), none, true⟩,
 ⟨(some 22), .mv (.t 5), none, true⟩,
 ⟨(some 23), .ia 1 (.t 21) (.t 22), none, true⟩,
 ⟨(some 24), .ld (.t 23), none, true⟩,
 p 25 (.eqb true (.t 20) (.t 24))])
 (.cond (.t 25) (.seq (.rg [p 4 (.mv (.k (.bool false)))])
 .ret)
 .skip)))
 (.rg [p 15 (.mv (.t 5)),
 p 16 (.bin .add (.t 15) (.k (.int .i64 1))),
 p 5 (.mv (.t 16))]))))))
 (.seq (.rg [p 4 (.mv (.k (.bool true)))])
 .ret)))),
 [.tmp 4]⟩

end Go.Proofs.Ytdlkgdlefbabcaa.AL
