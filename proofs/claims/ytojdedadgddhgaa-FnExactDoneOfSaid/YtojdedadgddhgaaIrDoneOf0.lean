/- Functions in the small language, printed by program. -/
import Derived.Test.YtojdedadgddhgaaAl0
namespace Go.Proofs.Ytojdedadgddhgaa.AL
open Go

def F42 : Fnc := ⟨(.seq (.rg [p 3 (.box (.t 1)),
 p 4 (.mv (.k (.slice none 0 0)))])
 (.seq (.rg [p 5 (.mv (.t 0)),
 p 6 (.call 255 [(.t 5)]),
 p 7 (.fn 43 [(.t 3)]),
 p 8 (.call 262 [(.t 6), (.t 7)]),
 p 4 (.mv (.t 8))])
 .ret)),
 [.tmp 4]⟩

def F43 : Fnc := ⟨(.seq (.rg [p 2 (.box (.t 0)),
 p 3 (.mv (.k (.bool false)))])
 (.seq (.rg [p 4 (.fa 1 (.t 2)),
 p 5 (.ld (.t 4)),
 p 6 (.ld (.t 1)),
 p 7 (.bin .neq (.t 5) (.t 6)),
 p 3 (.mv (.t 7))])
 .ret)),
 [.tmp 3]⟩

def F109 : Fnc := ⟨(.seq (.rg [p 4 (.mv (.k (.bool false)))])
 (.seq (.rg [p 5 (.mv (.k (.int .i64 1048576)))])
 (.seq (.rg [p 13 (.mv (.t 0)),
 p 14 (.mv (.t 5)),
 p 15 (.call 147 [(.t 13), (.t 14)]),
 p 5 (.mv (.t 15))])
 (.seq (.seq (.rg [p 16 (.mv (.t 5)),
 p 17 (.bin .lss (.t 16) (.k (.int .i64 0)))])
 (.cond (.t 17) (.seq (.rg [p 4 (.mv (.k (.bool true)))])
 .ret)
 .skip))
 (.seq (.rg [p 18 (.mv (.t 0)),
 p 19 (.call 162 [(.t 18)]),
 p 20 (.mv (.t 1)),
 p 21 (.call 190 [(.t 19), (.t 20)]),
 p 6 (.mv (.t 21))])
 (.seq (.rg [p 22 (.mv (.t 0)),
 p 23 (.call 162 [(.t 22)]),
 p 7 (.mv (.t 23))])
 (.seq (.rg [p 24 (.mv (.t 7)),
 p 25 (.mv (.t 1)),
 p 26 (.call 42 [(.t 24), (.t 25)]),
 p 8 (.mv (.t 26))])
 (.seq (.seq (.rg [p 27 (.mv (.t 8)),
 p 28 (.mv (.t 6)),
 p 29 (.call 131 [(.t 27), (.t 28)]),
 p 30 (.not (.t 29))])
 (.cond (.t 30) (.seq (.rg [p 4 (.mv (.k (.bool false)))])
 .ret)
 .skip))
 (.seq (.seq (.rg [p 31 (.mv (.t 7)),
 p 32 (.mv (.t 0)),
 p 33 (.call 162 [(.t 32)]),
 p 34 (.call 131 [(.t 31), (.t 33)]),
 p 35 (.not (.t 34))])
 (.cond (.t 35) (.seq (.rg [p 4 (.mv (.k (.bool false)))])
 .ret)
 .skip))
 (.seq (.rg [p 9 (.mv (.k (.int .i64 1)))])
 (.seq (.rg [p 36 (.mv (.t 7)),
 p 37 (.mv (.t 9)),
 p 38 (.call 142 [(.t 36), (.t 37)]),
 p 9 (.mv (.t 38))])
 (.seq (.seq (.rg [p 39 (.mv (.t 9)),
 p 40 (.bin .lss (.t 39) (.k (.int .i64 0))),
 p 41 (.mv (.t 40)),
 ⟨(some 42), .mv (.t 8), (some (41, false)), false⟩,
 ⟨(some 43), .mv (.t 6), (some (41, false)), false⟩,
 ⟨(some 44), .call 131 [(.t 42), (.t 43)], (some (41, false)), false⟩,
 ⟨(some 45), .not (.t 44), (some (41, false)), false⟩,
 p 46 (.pick (.t 41) (.k (.bool true)) (.t 45))])
 (.cond (.t 46) (.seq (.rg [p 4 (.mv (.k (.bool false)))])
 .ret)
 .skip))
 (.seq (.rg [p 10 (.mv (.k (.int .i64 1)))])
 (.seq (.rg [p 47 (.mv (.t 8)),
 p 48 (.mv (.t 10)),
 p 49 (.call 142 [(.t 47), (.t 48)]),
 p 10 (.mv (.t 49))])
 (.seq (.rg [p 11 (.mv (.k (.int .i64 1)))])
 (.seq (.rg [p 50 (.mv (.t 8)),
 p 51 (.mv (.t 11)),
 p 52 (.call 141 [(.t 50), (.t 51)]),
 p 11 (.mv (.t 52))])
 (.seq (.seq (.rg [p 53 (.mv (.t 11)),
 p 54 (.bin .lss (.t 53) (.k (.int .i64 0)))])
 (.cond (.t 54) (.seq (.rg [p 4 (.mv (.k (.bool false)))])
 .ret)
 .skip))
 (.seq (.seq (.rg [p 55 (.mv (.t 11)),
 p 56 (.mv (.t 10)),
 p 57 (.bin .neq (.t 55) (.t 56))])
 (.cond (.t 57) (.seq (.rg [p 4 (.mv (.k (.bool false)))])
 .ret)
 .skip))
 (.seq (.rg [p 58 (.mv (.t 0)),
 p 59 (.call 162 [(.t 58)]),
 p 60 (.mv (.t 1)),
 p 61 (.call 42 [(.t 59), (.t 60)]),
 p 12 (.mv (.t 61))])
 (.seq (.seq (.rg [p 62 (.mv (.t 12)),
 p 63 (.mv (.t 6)),
 p 64 (.call 131 [(.t 62), (.t 63)]),
 p 65 (.not (.t 64))])
 (.cond (.t 65) (.seq (.rg [p 4 (.mv (.k (.bool false)))])
 .ret)
 .skip))
 (.seq (.rg [p 11 (.mv (.k (.int .i64 1)))])
 (.seq (.rg [p 66 (.mv (.t 8)),
 p 67 (.mv (.t 11)),
 p 68 (.call 141 [(.t 66), (.t 67)]),
 p 11 (.mv (.t 68))])
 (.seq (.seq (.rg [p 69 (.mv (.t 11)),
 p 70 (.bin .lss (.t 69) (.k (.int .i64 0)))])
 (.cond (.t 70) (.seq (.rg [p 4 (.mv (.k (.bool false)))])
 .ret)
 .skip))
 (.seq (.seq (.rg [p 71 (.mv (.t 11)),
 p 72 (.mv (.t 10)),
 p 73 (.bin .neq (.t 71) (.t 72))])
 (.cond (.t 73) (.seq (.rg [p 4 (.mv (.k (.bool false)))])
 .ret)
 .skip))
 (.seq (.rg [p 4 (.mv (.k (.bool true)))])
 .ret))))))))))))))))))))))))),
 [.tmp 4]⟩

def F130 : Fnc := ⟨(.seq (.rg [p 2 (.box (.t 0)),
 p 3 (.box (.t 1)),
 p 4 (.mv (.k (.bool false)))])
 (.seq (.seq (.rg [p 5 (.fa 0 (.t 2)),
 p 6 (.ld (.t 5)),
 p 7 (.fa 0 (.t 3)),
 p 8 (.ld (.t 7)),
 p 9 (.bin .neq (.t 6) (.t 8))])
 (.cond (.t 9) (.seq (.rg [p 4 (.mv (.k (.bool false)))])
 .ret)
 .skip))
 (.seq (.seq (.rg [p 10 (.fa 1 (.t 2)),
 p 11 (.ld (.t 10)),
 p 12 (.fa 1 (.t 3)),
 p 13 (.ld (.t 12)),
 p 14 (.bin .neq (.t 11) (.t 13))])
 (.cond (.t 14) (.seq (.rg [p 4 (.mv (.k (.bool false)))])
 .ret)
 .skip))
 (.seq (.seq (.rg [p 15 (.fa 2 (.t 2)),
 p 16 (.ld (.t 15)),
 p 17 (.fa 2 (.t 3)),
 p 18 (.ld (.t 17)),
 p 19 (.eqb true (.t 16) (.t 18))])
 (.cond (.t 19) (.seq (.rg [p 4 (.mv (.k (.bool false)))])
 .ret)
 .skip))
 (.seq (.seq (.rg [p 20 (.fa 3 (.t 2)),
 p 21 (.ld (.t 20)),
 p 22 (.fa 3 (.t 3)),
 p 23 (.ld (.t 22)),
 p 24 (.bin .neq (.t 21) (.t 23))])
 (.cond (.t 24) (.seq (.rg [p 4 (.mv (.k (.bool false)))])
 .ret)
 .skip))
 (.seq (.seq (.rg [p 25 (.fa 4 (.t 2)),
 p 26 (.ld (.t 25)),
 p 27 (.fa 4 (.t 3)),
 p 28 (.ld (.t 27)),
 p 29 (.bin .neq (.t 26) (.t 28))])
 (.cond (.t 29) (.seq (.rg [p 4 (.mv (.k (.bool false)))])
 .ret)
 .skip))
 (.seq (.seq (.rg [p 30 (.fa 5 (.t 2)),
 p 31 (.ld (.t 30)),
 p 32 (.fa 5 (.t 3)),
 p 33 (.ld (.t 32)),
 p 34 (.bin .neq (.t 31) (.t 33))])
 (.cond (.t 34) (.seq (.rg [p 4 (.mv (.k (.bool false)))])
 .ret)
 .skip))
 (.seq (.seq (.rg [p 35 (.fa 6 (.t 2)),
 p 36 (.ld (.t 35)),
 p 37 (.fa 6 (.t 3)),
 p 38 (.ld (.t 37)),
 p 39 (.bin .neq (.t 36) (.t 38))])
 (.cond (.t 39) (.seq (.rg [p 4 (.mv (.k (.bool false)))])
 .ret)
 .skip))
 (.seq (.rg [p 4 (.mv (.k (.bool true)))])
 .ret))))))))),
 [.tmp 4]⟩

def F131 : Fnc := ⟨(.seq (.rg [p 4 (.mv (.k (.bool false)))])
 (.seq (.seq (.rg [p 6 (.mv (.t 0)),
 p 7 (.len (.t 6)),
 p 8 (.mv (.t 1)),
 p 9 (.len (.t 8)),
 p 10 (.bin .neq (.t 7) (.t 9))])
 (.cond (.t 10) (.seq (.rg [p 4 (.mv (.k (.bool false)))])
 .ret)
 .skip))
 (.seq (.seq (.rg [p 5 (.mv (.k (.int .i64 0)))])
 (.block 0 (.loop (.seq (.seq (.rg [p 11 (.mv (.t 5)),
 p 12 (.mv (.t 0)),
 p 13 (.len (.t 12)),
 p 14 (.bin .lss (.t 11) (.t 13))])
 (.cond (.t 14) .skip
 (.exit 0)))
 (.seq (.block 1 (.seq (.rg [⟨(some 17), .mv (.t 0), none, true⟩,
 ⟨(some 18), .mv (.t 5), none, true⟩,
 ⟨(some 19), .ia 7 (.t 17) (.t 18), none, true⟩,
 ⟨(some 20), .ldn 7 (.t 19), none, true⟩,
 ⟨(some 21), .mv (.t 1), none, true⟩,
 ⟨(some 22), .mv (.t 5), none, true⟩,
 ⟨(some 23), .ia 7 (.t 21) (.t 22), none, true⟩,
 ⟨(some 24), .ldn 7 (.t 23), none, true⟩,
 p 25 (.call 130 [(.t 20), (.t 24)]),
 p 26 (.not (.t 25))])
 (.cond (.t 26) (.seq (.rg [p 4 (.mv (.k (.bool false)))])
 .ret)
 .skip)))
 (.rg [p 15 (.mv (.t 5)),
 p 16 (.bin .add (.t 15) (.k (.int .i64 1))),
 p 5 (.mv (.t 16))]))))))
 (.seq (.rg [p 4 (.mv (.k (.bool true)))])
 .ret)))),
 [.tmp 4]⟩

def F141 : Fnc := ⟨(.seq (.rg [p 4 (.mv (.k (.int .i64 0)))])
 (.seq (.seq (.rg [p 5 (.mv (.k (.int .i64 0)))])
 (.block 0 (.loop (.seq (.seq (.rg [p 6 (.mv (.t 5)),
 p 7 (.mv (.t 0)),
 p 8 (.len (.t 7)),
 p 9 (.bin .lss (.t 6) (.t 8))])
 (.cond (.t 9) .skip
 (.exit 0)))
 (.seq (.block 1 (.seq (.seq (.rg [p 12 (.mv (.t 0)),
 p 13 (.mv (.t 5)),
 p 14 (.ia 7 (.t 12) (.t 13)),
 p 15 (.fa 0 (.t 14)),
 p 16 (.ld (.t 15)),
 p 17 (.mv (.t 1)),
 p 18 (.bin .neq (.t 16) (.t 17))])
 (.cond (.t 18) (.seq (.rg [p 4 (.mv (.k (.int .i64 (-1))))])
 .ret)
 .skip))
 (.seq (.rg [p 19 (.mv (.t 1)),
 p 20 (.bin .add (.t 19) (.k (.int .i64 1))),
 p 1 (.mv (.t 20))])
 (.seq (.seq (.rg [p 21 (.mv (.t 0)),
 p 22 (.mv (.t 5)),
 p 23 (.ia 7 (.t 21) (.t 22)),
 p 24 (.fa 1 (.t 23)),
 p 25 (.ld (.t 24)),
 p 26 (.mv (.t 1)),
 p 27 (.bin .neq (.t 25) (.t 26))])
 (.cond (.t 27) (.seq (.rg [p 4 (.mv (.k (.int .i64 (-1))))])
 .ret)
 .skip))
 (.seq (.rg [p 28 (.mv (.t 1)),
 p 29 (.bin .add (.t 28) (.k (.int .i64 1))),
 p 1 (.mv (.t 29))])
 (.seq (.seq (.rg [p 30 (.mv (.t 0)),
 p 31 (.mv (.t 5)),
 p 32 (.ia 7 (.t 30) (.t 31)),
 p 33 (.fa 2 (.t 32)),
 p 34 (.ld (.t 33)),
 p 35 (.mv (.t 1)),
 p 36 (.bin .rem (.t 35) (.k (.int .i64 3))),
 p 37 (.bin .eql (.t 36) (.k (.int .i64 0))),
 p 38 (.eqb true (.t 34) (.t 37))])
 (.cond (.t 38) (.seq (.rg [p 4 (.mv (.k (.int .i64 (-1))))])
 .ret)
 .skip))
 (.seq (.rg [p 39 (.mv (.t 1)),
 p 40 (.bin .add (.t 39) (.k (.int .i64 1))),
 p 1 (.mv (.t 40))])
 (.seq (.seq (.rg [p 41 (.mv (.t 0)),
 p 42 (.mv (.t 5)),
 p 43 (.ia 7 (.t 41) (.t 42)),
 p 44 (.fa 3 (.t 43)),
 p 45 (.ld (.t 44)),
 p 46 (.mv (.t 1)),
 p 47 (.bin .neq (.t 45) (.t 46))])
 (.cond (.t 47) (.seq (.rg [p 4 (.mv (.k (.int .i64 (-1))))])
 .ret)
 .skip))
 (.seq (.rg [p 48 (.mv (.t 1)),
 p 49 (.bin .add (.t 48) (.k (.int .i64 1))),
 p 1 (.mv (.t 49))])
 (.seq (.seq (.rg [p 50 (.mv (.t 0)),
 p 51 (.mv (.t 5)),
 p 52 (.ia 7 (.t 50) (.t 51)),
 p 53 (.fa 4 (.t 52)),
 p 54 (.ld (.t 53)),
 p 55 (.mv (.t 1)),
 p 56 (.bin .neq (.t 54) (.t 55))])
 (.cond (.t 56) (.seq (.rg [p 4 (.mv (.k (.int .i64 (-1))))])
 .ret)
 .skip))
 (.seq (.rg [p 57 (.mv (.t 1)),
 p 58 (.bin .add (.t 57) (.k (.int .i64 1))),
 p 1 (.mv (.t 58))])
 (.seq (.seq (.rg [p 59 (.mv (.t 0)),
 p 60 (.mv (.t 5)),
 p 61 (.ia 7 (.t 59) (.t 60)),
 p 62 (.fa 5 (.t 61)),
 p 63 (.ld (.t 62)),
 p 64 (.mv (.t 1)),
 p 65 (.bin .neq (.t 63) (.t 64))])
 (.cond (.t 65) (.seq (.rg [p 4 (.mv (.k (.int .i64 (-1))))])
 .ret)
 .skip))
 (.seq (.rg [p 66 (.mv (.t 1)),
 p 67 (.bin .add (.t 66) (.k (.int .i64 1))),
 p 1 (.mv (.t 67))])
 (.seq (.seq (.rg [p 68 (.mv (.t 0)),
 p 69 (.mv (.t 5)),
 p 70 (.ia 7 (.t 68) (.t 69)),
 p 71 (.fa 6 (.t 70)),
 p 72 (.ld (.t 71)),
 p 73 (.mv (.t 1)),
 p 74 (.bin .neq (.t 72) (.t 73))])
 (.cond (.t 74) (.seq (.rg [p 4 (.mv (.k (.int .i64 (-1))))])
 .ret)
 .skip))
 (.rg [p 75 (.mv (.t 1)),
 p 76 (.bin .add (.t 75) (.k (.int .i64 1))),
 p 1 (.mv (.t 76))])))))))))))))))
 (.rg [p 10 (.mv (.t 5)),
 p 11 (.bin .add (.t 10) (.k (.int .i64 1))),
 p 5 (.mv (.t 11))]))))))
 (.seq (.rg [p 77 (.mv (.t 1)),
 p 4 (.mv (.t 77))])
 .ret))),
 [.tmp 4]⟩

def F142 : Fnc := ⟨(.seq (.rg [p 4 (.mv (.k (.int .i64 0)))])
 (.seq (.seq (.rg [p 5 (.mv (.k (.int .i64 0)))])
 (.block 0 (.loop (.seq (.seq (.rg [p 6 (.mv (.t 5)),
 p 7 (.mv (.t 0)),
 p 8 (.len (.t 7)),
 p 9 (.bin .lss (.t 6) (.t 8))])
 (.cond (.t 9) .skip
 (.exit 0)))
 (.seq (.block 1 (.seq (.rg [p 12 (.mv (.t 0)),
 p 13 (.mv (.t 5)),
 p 14 (.mv (.t 1)),
 p 15 (.ia 7 (.t 12) (.t 13)),
 p 16 (.fa 0 (.t 15)),
 ⟨none, .st (.t 16) (.t 14), none, false⟩])
 (.seq (.rg [p 17 (.mv (.t 1)),
 p 18 (.bin .add (.t 17) (.k (.int .i64 1))),
 p 1 (.mv (.t 18))])
 (.seq (.rg [p 19 (.mv (.t 0)),
 p 20 (.mv (.t 5)),
 p 21 (.mv (.t 1)),
 p 22 (.ia 7 (.t 19) (.t 20)),
 p 23 (.fa 1 (.t 22)),
 ⟨none, .st (.t 23) (.t 21), none, false⟩])
 (.seq (.rg [p 24 (.mv (.t 1)),
 p 25 (.bin .add (.t 24) (.k (.int .i64 1))),
 p 1 (.mv (.t 25))])
 (.seq (.rg [p 26 (.mv (.t 0)),
 p 27 (.mv (.t 5)),
 p 28 (.mv (.t 1)),
 p 29 (.bin .rem (.t 28) (.k (.int .i64 3))),
 p 30 (.bin .eql (.t 29) (.k (.int .i64 0))),
 p 31 (.ia 7 (.t 26) (.t 27)),
 p 32 (.fa 2 (.t 31)),
 ⟨none, .st (.t 32) (.t 30), none, false⟩])
 (.seq (.rg [p 33 (.mv (.t 1)),
 p 34 (.bin .add (.t 33) (.k (.int .i64 1))),
 p 1 (.mv (.t 34))])
 (.seq (.rg [p 35 (.mv (.t 0)),
 p 36 (.mv (.t 5)),
 p 37 (.mv (.t 1)),
 p 38 (.ia 7 (.t 35) (.t 36)),
 p 39 (.fa 3 (.t 38)),
 ⟨none, .st (.t 39) (.t 37), none, false⟩])
 (.seq (.rg [p 40 (.mv (.t 1)),
 p 41 (.bin .add (.t 40) (.k (.int .i64 1))),
 p 1 (.mv (.t 41))])
 (.seq (.rg [p 42 (.mv (.t 0)),
 p 43 (.mv (.t 5)),
 p 44 (.mv (.t 1)),
 p 45 (.ia 7 (.t 42) (.t 43)),
 p 46 (.fa 4 (.t 45)),
 ⟨none, .st (.t 46) (.t 44), none, false⟩])
 (.seq (.rg [p 47 (.mv (.t 1)),
 p 48 (.bin .add (.t 47) (.k (.int .i64 1))),
 p 1 (.mv (.t 48))])
 (.seq (.rg [p 49 (.mv (.t 0)),
 p 50 (.mv (.t 5)),
 p 51 (.mv (.t 1)),
 p 52 (.ia 7 (.t 49) (.t 50)),
 p 53 (.fa 5 (.t 52)),
 ⟨none, .st (.t 53) (.t 51), none, false⟩])
 (.seq (.rg [p 54 (.mv (.t 1)),
 p 55 (.bin .add (.t 54) (.k (.int .i64 1))),
 p 1 (.mv (.t 55))])
 (.seq (.rg [p 56 (.mv (.t 0)),
 p 57 (.mv (.t 5)),
 p 58 (.mv (.t 1)),
 p 59 (.ia 7 (.t 56) (.t 57)),
 p 60 (.fa 6 (.t 59)),
 ⟨none, .st (.t 60) (.t 58), none, false⟩])
 (.rg [p 61 (.mv (.t 1)),
 p 62 (.bin .add (.t 61) (.k (.int .i64 1))),
 p 1 (.mv (.t 62))])))))))))))))))
 (.rg [p 10 (.mv (.t 5)),
 p 11 (.bin .add (.t 10) (.k (.int .i64 1))),
 p 5 (.mv (.t 11))]))))))
 (.seq (.rg [p 63 (.mv (.t 1)),
 p 4 (.mv (.t 63))])
 .ret))),
 [.tmp 4]⟩

def F147 : Fnc := ⟨(.seq (.rg [p 4 (.mv (.k (.int .i64 0)))])
 (.seq (.rg [p 5 (.mv (.t 1)),
 p 6 (.mv (.t 0)),
 p 7 (.len (.t 6)),
 p 8 (.bin .sub (.t 5) (.t 7)),
 p 1 (.mv (.t 8))])
 (.seq (.seq (.rg [p 9 (.mv (.t 1)),
 p 10 (.bin .lss (.t 9) (.k (.int .i64 0)))])
 (.cond (.t 10) (.seq (.rg [p 4 (.mv (.k (.int .i64 (-1))))])
 .ret)
 .skip))
 (.seq (.rg [p 11 (.mv (.t 1)),
 p 4 (.mv (.t 11))])
 .ret)))),
 [.tmp 4]⟩

def F161 : Fnc := ⟨(.seq (.rg [p 1 (.box (.t 0)),
 p 2 (.new [.int .i64 0, .int .i64 0, .bool false, .int .i64 0, .int .i64 0, .int .i64 0, .int .i64 0])])
 (.seq (.rg [p 3 (.new [.int .i64 0, .int .i64 0, .bool false, .int .i64 0, .int .i64 0, .int .i64 0, .int .i64 0])])
 (.seq (.rg [p 4 (.fa 0 (.t 1)),
 p 5 (.ld (.t 4)),
 p 6 (.fa 0 (.t 3)),
 ⟨none, .st (.t 6) (.t 5), none, false⟩])
 (.seq (.rg [p 7 (.fa 1 (.t 1)),
 p 8 (.ld (.t 7)),
 p 9 (.fa 1 (.t 3)),
 ⟨none, .st (.t 9) (.t 8), none, false⟩])
 (.seq (.rg [p 10 (.fa 2 (.t 1)),
 p 11 (.ld (.t 10)),
 p 12 (.fa 2 (.t 3)),
 ⟨none, .st (.t 12) (.t 11), none, false⟩])
 (.seq (.rg [p 13 (.fa 3 (.t 1)),
 p 14 (.ld (.t 13)),
 p 15 (.fa 3 (.t 3)),
 ⟨none, .st (.t 15) (.t 14), none, false⟩])
 (.seq (.rg [p 16 (.fa 4 (.t 1)),
 p 17 (.ld (.t 16)),
 p 18 (.fa 4 (.t 3)),
 ⟨none, .st (.t 18) (.t 17), none, false⟩])
 (.seq (.rg [p 19 (.fa 5 (.t 1)),
 p 20 (.ld (.t 19)),
 p 21 (.fa 5 (.t 3)),
 ⟨none, .st (.t 21) (.t 20), none, false⟩])
 (.seq (.rg [p 22 (.fa 6 (.t 1)),
 p 23 (.ld (.t 22)),
 p 24 (.fa 6 (.t 3)),
 ⟨none, .st (.t 24) (.t 23), none, false⟩])
 (.seq (.rg [p 25 (.ldn 7 (.t 3)),
 ⟨none, .stn 7 (.t 2) (.t 25), none, false⟩])
 .ret)))))))))),
 [.celln 2 7]⟩

def F162 : Fnc := ⟨(.seq (.rg [p 2 (.mv (.k (.slice none 0 0)))])
 (.seq (.rg [p 5 (.mv (.t 0)),
 p 6 (.len (.t 5)),
 p 7 (.mk 7 56 [.int .i64 0, .int .i64 0, .bool false, .int .i64 0, .int .i64 0, .int .i64 0, .int .i64 0] (.t 6) (.t 6)),
 p 3 (.mv (.t 7))])
 (.seq (.seq (.rg [p 4 (.mv (.k (.int .i64 0)))])
 (.block 0 (.loop (.seq (.seq (.rg [p 8 (.mv (.t 4)),
 p 9 (.mv (.t 0)),
 p 10 (.len (.t 9)),
 p 11 (.bin .lss (.t 8) (.t 10))])
 (.cond (.t 11) .skip
 (.exit 0)))
 (.seq (.block 1 (.rg [p 14 (.mv (.t 3)),
 p 15 (.mv (.t 4)),
 p 16 (.mv (.t 0)),
 p 17 (.mv (.t 4)),
 p 18 (.ia 7 (.t 16) (.t 17)),
 p 19 (.ldn 7 (.t 18)),
 p 20 (.call 161 [(.t 19)]),
 p 21 (.ia 7 (.t 14) (.t 15)),
 ⟨none, .stn 7 (.t 21) (.t 20), none, false⟩]))
 (.rg [p 12 (.mv (.t 4)),
 p 13 (.bin .add (.t 12) (.k (.int .i64 1))),
 p 4 (.mv (.t 13))]))))))
 (.seq (.rg [p 22 (.mv (.t 3)),
 p 2 (.mv (.t 22))])
 .ret)))),
 [.tmp 2]⟩

def F190 : Fnc := ⟨(.seq (.rg [p 4 (.mv (.k (.slice none 0 0)))])
 (.seq (.rg [p 7 (.bs 7 0 [.int .i64 0, .int .i64 0, .bool false, .int .i64 0, .int .i64 0, .int .i64 0, .int .i64 0] []),
 p 5 (.mv (.t 7))])
 (.seq (.seq (.rg [p 6 (.mv (.k (.int .i64 0)))])
 (.block 0 (.loop (.seq (.seq (.rg [p 8 (.mv (.t 6)),
 p 9 (.mv (.t 0)),
 p 10 (.len (.t 9)),
 p 11 (.bin .lss (.t 8) (.t 10))])
 (.cond (.t 11) .skip
 (.exit 0)))
 (.seq (.block 1 (.seq (.rg [p 14 (.mv (.t 0)),
 p 15 (.mv (.t 6)),
 p 16 (.ia 7 (.t 14) (.t 15)),
 p 17 (.fa 1 (.t 16)),
 p 18 (.ld (.t 17)),
 p 19 (.mv (.t 1)),
 p 20 (.bin .eql (.t 18) (.t 19))])
 (.cond (.t 20) (.rg [p 21 (.mv (.t 5)),
 p 22 (.mv (.t 0)),
 p 23 (.mv (.t 6)),
 p 24 (.ia 7 (.t 22) (.t 23)),
 p 25 (.ldn 7 (.t 24)),
 p 26 (.bs 7 1 [.int .i64 0, .int .i64 0, .bool false, .int .i64 0, .int .i64 0, .int .i64 0, .int .i64 0] [(0, (.t 25))]),
 p 27 (.app 7 56 (.t 21) (.t 26)),
 p 5 (.mv (.t 27))])
 .skip)))
 (.rg [p 12 (.mv (.t 6)),
 p 13 (.bin .add (.t 12) (.k (.int .i64 1))),
 p 6 (.mv (.t 13))]))))))
 (.seq (.rg [p 28 (.mv (.t 5)),
 p 4 (.mv (.t 28))])
 .ret)))),
 [.tmp 4]⟩

def F255 : Fnc := ⟨(.seq (.rg [p 2 (.mv (.k (.slice none 0 0)))])
 (.seq (.seq (.rg [p 3 (.mv (.t 0)),
 p 4 (.eqnil false (.t 3))])
 (.cond (.t 4) (.seq (.rg [p 2 (.mv (.k (.slice none 0 0)))])
 .ret)
 .skip))
 (.seq (.rg [p 5 (.bs 7 0 [.int .i64 0, .int .i64 0, .bool false, .int .i64 0, .int .i64 0, .int .i64 0, .int .i64 0] []),
 p 6 (.mv (.t 0)),
 p 7 (.app 7 56 (.t 5) (.t 6)),
 p 2 (.mv (.t 7))])
 .ret))),
 [.tmp 2]⟩

def F262 : Fnc := ⟨(.seq (.rg [p 4 (.mv (.k (.slice none 0 0)))])
 (.seq (.rg [p 8 (.mv (.t 0)),
 p 9 (.mv (.t 1)),
 p 10 (.call 268 [(.t 8), (.t 9)]),
 p 5 (.mv (.t 10))])
 (.seq (.seq (.rg [p 11 (.mv (.t 5)),
 p 12 (.bin .eql (.t 11) (.k (.int .i64 (-1))))])
 (.cond (.t 12) (.seq (.rg [p 13 (.mv (.t 0)),
 p 4 (.mv (.t 13))])
 .ret)
 .skip))
 (.seq (.seq (.rg [p 14 (.mv (.t 5)),
 p 15 (.bin .add (.t 14) (.k (.int .i64 1))),
 p 6 (.mv (.t 15))])
 (.block 0 (.loop (.seq (.seq (.rg [p 16 (.mv (.t 6)),
 p 17 (.mv (.t 0)),
 p 18 (.len (.t 17)),
 p 19 (.bin .lss (.t 16) (.t 18))])
 (.cond (.t 19) .skip
 (.exit 0)))
 (.seq (.block 1 (.seq (.rg [p 22 (.mv (.t 0)),
 p 23 (.mv (.t 6)),
 p 24 (.ia 7 (.t 22) (.t 23)),
 p 25 (.ldn 7 (.t 24)),
 p 7 (.new [.int .i64 0, .int .i64 0, .bool false, .int .i64 0, .int .i64 0, .int .i64 0, .int .i64 0]),
 ⟨none, .stn 7 (.t 7) (.t 25), none, false⟩])
 (.seq (.rg [p 26 (.mv (.t 1)),
 p 27 (.ldn 7 (.t 7)),
 p 28 (.calli (.t 26) [(.t 27)]),
 p 29 (.not (.t 28))])
 (.cond (.t 29) (.seq (.rg [p 30 (.mv (.t 0)),
 p 31 (.mv (.t 5)),
 p 32 (.ldn 7 (.t 7)),
 p 33 (.ia 7 (.t 30) (.t 31)),
 ⟨none, .stn 7 (.t 33) (.t 32), none, false⟩])
 (.rg [p 34 (.mv (.t 5)),
 p 35 (.bin .add (.t 34) (.k (.int .i64 1))),
 p 5 (.mv (.t 35))]))
 .skip))))
 (.rg [p 20 (.mv (.t 6)),
 p 21 (.bin .add (.t 20) (.k (.int .i64 1))),
 p 6 (.mv (.t 21))]))))))
 (.seq (.rg [p 36 (.mv (.t 0)),
 p 37 (.mv (.t 5)),
 p 38 (.sl 7 (.t 36) (some (.t 37)) none none),
 ⟨none, .clr 7 [.int .i64 0, .int .i64 0, .bool false, .int .i64 0, .int .i64 0, .int .i64 0, .int .i64 0] (.t 38), none, false⟩])
 (.seq (.rg [p 39 (.mv (.t 0)),
 p 40 (.mv (.t 5)),
 p 41 (.sl 7 (.t 39) none (some (.t 40)) none),
 p 4 (.mv (.t 41))])
 .ret)))))),
 [.tmp 4]⟩

def F268 : Fnc := ⟨(.seq (.rg [p 4 (.mv (.k (.int .i64 0)))])
 (.seq (.seq (.rg [p 6 (.mv (.t 0)),
 p 7 (.len (.t 6)),
 p 8 (.mv (.k (.int .i64 0)))])
 (.block 0 (.loop (.seq (.rg [p 9 (.bin .lss (.t 8) (.t 7))])
 (.seq (.cond (.t 9) .skip
 (.exit 0))
 (.seq (.block 1 (.seq (.rg [p 10 (.mv (.t 8)),
 p 5 (.mv (.t 10))])
 (.seq (.rg [p 11 (.mv (.t 1)),
 p 12 (.mv (.t 0)),
 p 13 (.mv (.t 5)),
 p 14 (.ia 7 (.t 12) (.t 13)),
 p 15 (.ldn 7 (.t 14)),
 p 16 (.calli (.t 11) [(.t 15)])])
 (.cond (.t 16) (.seq (.rg [p 17 (.mv (.t 5)),
 p 4 (.mv (.t 17))])
 .ret)
 .skip))))
 (.rg [p 18 (.bin .add (.t 8) (.k (.int .i64 1))),
 p 8 (.mv (.t 18))])))))))
 (.seq (.rg [p 4 (.mv (.k (.int .i64 (-1))))])
 .ret))),
 [.tmp 4]⟩

end Go.Proofs.Ytojdedadgddhgaa.AL
