/- Functions in the small language, printed by program. -/
import Derived.Test.YtoppcdecolponaaDoorAl0
namespace Go.Proofs.YtoppcdecolponaaDoor.AL
open Go
def F63 : Fnc := ⟨(.seq (.rg [p 2 (.mv (.k (.int .i64 0))),
 p 3 (.mv (.k (.bool false)))])
 (.seq (.rg [p 4 (.mv (.t 0)),
 p 5 (.call 408 [(.t 4), (.k (.int .i64 9))]),
 p 6 (.ext 0 (.t 5)),
 p 7 (.ext 1 (.t 5)),
 p 2 (.mv (.t 6)),
 p 3 (.mv (.t 7))])
 .ret)),
 [.tmp 2, .tmp 3]⟩
def F114 : Fnc := ⟨(.seq (.rg [p 2 (.mv (.k (.bool false)))])
 (.seq (.seq (.rg [p 7 (.mv (.t 0)),
 p 8 (.lens (.t 7)),
 p 9 (.bin .gtr (.t 8) (.k (.int .i64 1048576)))])
 (.cond (.t 9) (.seq (.rg [p 2 (.mv (.k (.bool true)))])
 .ret)
 .skip))
 (.seq (.rg [p 11 (.mv (.t 0)),
 p 12 (.call 206 [(.t 11)]),
 p 10 (.mv (.t 12)),
 p 13 (.ext 0 (.t 10)),
 p 14 (.ext 1 (.t 10)),
 p 3 (.mv (.t 13)),
 p 4 (.mv (.t 14))])
 (.seq (.rg [p 16 (.mv (.t 0)),
 p 17 (.call 63 [(.t 16)]),
 p 15 (.mv (.t 17)),
 p 18 (.ext 0 (.t 15)),
 p 19 (.ext 1 (.t 15)),
 p 5 (.mv (.t 18)),
 p 6 (.mv (.t 19))])
 (.seq (.seq (.rg [p 20 (.mv (.t 5)),
 p 21 (.mv (.t 3)),
 p 22 (.bin .neq (.t 20) (.t 21)),
 p 23 (.mv (.t 22)),
 ⟨(some 24), .mv (.t 6), (some (23, false)), false⟩,
 ⟨(some 25), .mv (.t 4), (some (23, false)), false⟩,
 ⟨(some 26), .eqb true (.t 24) (.t 25), (some (23, false)), false⟩,
 p 27 (.pick (.t 23) (.k (.bool true)) (.t 26))])
 (.cond (.t 27) (.seq (.rg [p 2 (.mv (.k (.bool false)))])
 .ret)
 .skip))
 (.seq (.rg [p 2 (.mv (.k (.bool true)))])
 .ret)))))),
 [.tmp 2]⟩
def F187 : Fnc := ⟨(.seq (.rg [p 2 (.mv (.k (.string ⟨#[]⟩)))])
 (.seq (.seq (.rg [p 6 (.mv (.t 0)),
 p 7 (.bin .eql (.t 6) (.k (.int .i64 0)))])
 (.cond (.t 7) (.seq (.rg [p 2 (.mv (.k (.string ⟨#[48]⟩)))])
 .ret)
 .skip))
 (.seq (.rg [p 3 (.mv (.k (.string ⟨#[]⟩)))])
 (.seq (.rg [p 8 (.mv (.t 0)),
 p 9 (.bin .lss (.t 8) (.k (.int .i64 0))),
 p 4 (.mv (.t 9))])
 (.seq (.block 0 (.loop (.seq (.seq (.rg [p 10 (.mv (.t 0)),
 p 11 (.bin .neq (.t 10) (.k (.int .i64 0)))])
 (.cond (.t 11) .skip
 (.exit 0)))
 (.block 1 (.seq (.rg [p 12 (.mv (.t 0)),
 p 13 (.bin .rem (.t 12) (.k (.int .i64 10))),
 p 5 (.mv (.t 13))])
 (.seq (.seq (.rg [p 14 (.mv (.t 5)),
 p 15 (.bin .lss (.t 14) (.k (.int .i64 0)))])
 (.cond (.t 15) (.rg [p 16 (.mv (.t 5)),
 p 17 (.neg (.t 16)),
 p 5 (.mv (.t 17))])
 .skip))
 (.seq (.rg [p 18 (.mv (.t 5)),
 p 19 (.bin .add (.k (.int .i64 48)) (.t 18)),
 p 20 (.cvi .u8 (.t 19)),
 p 21 (.bs 1 1 [.int .u8 0] [(0, (.t 20))]),
 p 22 (.cvbs (.t 21)),
 p 23 (.mv (.t 3)),
 p 24 (.bin .add (.t 22) (.t 23)),
 p 3 (.mv (.t 24))])
 (.rg [p 25 (.mv (.t 0)),
 p 26 (.bin .quo (.t 25) (.k (.int .i64 10))),
 p 0 (.mv (.t 26))]))))))))
 (.seq (.seq (.rg [p 27 (.mv (.t 4))])
 (.cond (.t 27) (.seq (.rg [p 28 (.mv (.t 3)),
 p 29 (.bin .add (.k (.string ⟨#[45]⟩)) (.t 28)),
 p 2 (.mv (.t 29))])
 .ret)
 .skip))
 (.seq (.rg [p 30 (.mv (.t 3)),
 p 2 (.mv (.t 30))])
 .ret))))))),
 [.tmp 2]⟩
def F206 : Fnc := ⟨(.seq (.rg [p 2 (.mv (.k (.int .i64 0))),
 p 3 (.mv (.k (.bool false)))])
 (.seq (.rg [p 4 (.mv (.k (.int .i64 0)))])
 (.seq (.rg [p 5 (.mv (.k (.int .i64 0)))])
 (.seq (.seq (.rg [p 6 (.mv (.k (.int .i64 0)))])
 (.block 0 (.loop (.seq (.seq (.rg [p 7 (.mv (.t 6)),
 p 8 (.mv (.t 0)),
 p 9 (.lens (.t 8)),
 p 10 (.bin .lss (.t 7) (.t 9)),
 p 11 (.mv (.t 10)),
 ⟨(some 12), .mv (.t 6), (some (11, true)), false⟩,
 ⟨(some 13), .bin .lss (.t 12) (.k (.int .i64 11)), (some (11, true)), false⟩,
 p 14 (.pick (.t 11) (.t 13) (.k (.bool false)))])
 (.cond (.t 14) .skip
 (.exit 0)))
 (.seq (.block 1 (.seq (.rg [p 17 (.mv (.t 0)),
 p 18 (.mv (.t 6)),
 p 19 (.ix (.t 17) (.t 18)),
 p 20 (.bin .geq (.t 19) (.k (.int .u8 48))),
 p 21 (.mv (.t 20)),
 ⟨(some 22), .mv (.t 0), (some (21, true)), false⟩,
 ⟨(some 23), .mv (.t 6), (some (21, true)), false⟩,
 ⟨(some 24), .ix (.t 22) (.t 23), (some (21, true)), false⟩,
 ⟨(some 25), .bin .leq (.t 24) (.k (.int .u8 57)), (some (21, true)), false⟩,
 p 26 (.pick (.t 21) (.t 25) (.k (.bool false)))])
 (.cond (.t 26) (.seq (.rg [p 27 (.mv (.t 4)),
 p 28 (.bin .mul (.t 27) (.k (.int .i64 10))),
 p 29 (.mv (.t 0)),
 p 30 (.mv (.t 6)),
 p 31 (.ix (.t 29) (.t 30)),
 p 32 (.bin .sub (.t 31) (.k (.int .u8 48))),
 p 33 (.cvi .i64 (.t 32)),
 p 34 (.bin .add (.t 28) (.t 33)),
 p 4 (.mv (.t 34))])
 (.rg [p 35 (.mv (.t 5)),
 p 36 (.bin .add (.t 35) (.k (.int .i64 1))),
 p 5 (.mv (.t 36))]))
 .skip)))
 (.rg [p 15 (.mv (.t 6)),
 p 16 (.bin .add (.t 15) (.k (.int .i64 1))),
 p 6 (.mv (.t 16))]))))))
 (.seq (.seq (.rg [p 37 (.mv (.t 0)),
 p 38 (.lens (.t 37)),
 p 39 (.bin .gtr (.t 38) (.k (.int .i64 0))),
 p 40 (.mv (.t 39)),
 ⟨(some 41), .mv (.t 0), (some (40, true)), false⟩,
 ⟨(some 42), .ix (.t 41) (.k (.int .i64 0)), (some (40, true)), false⟩,
 ⟨(some 43), .bin .eql (.t 42) (.k (.int .u8 45)), (some (40, true)), false⟩,
 p 44 (.pick (.t 40) (.t 43) (.k (.bool false)))])
 (.cond (.t 44) (.rg [p 45 (.mv (.t 4)),
 p 46 (.neg (.t 45)),
 p 4 (.mv (.t 46))])
 .skip))
 (.seq (.seq (.rg [p 47 (.mv (.t 5)),
 p 48 (.bin .gtr (.t 47) (.k (.int .i64 9))),
 p 49 (.mv (.t 48)),
 ⟨(some 50), .mv (.t 0), (some (49, false)), false⟩,
 ⟨(some 51), .lens (.t 50), (some (49, false)), false⟩,
 ⟨(some 52), .bin .gtr (.t 51) (.k (.int .i64 10)), (some (49, false)), false⟩,
 p 53 (.pick (.t 49) (.k (.bool true)) (.t 52)),
 p 54 (.mv (.t 53)),
 ⟨(some 55), .mv (.t 4), (some (54, false)), false⟩,
 ⟨(some 56), .call 187 [(.t 55)], (some (54, false)), false⟩,
 ⟨(some 57), .mv (.t 0), (some (54, false)), false⟩,
 ⟨(some 58), .bin .neq (.t 56) (.t 57), (some (54, false)), false⟩,
 p 59 (.pick (.t 54) (.k (.bool true)) (.t 58))])
 (.cond (.t 59) (.seq (.rg [p 2 (.mv (.k (.int .i64 0))),
 p 3 (.mv (.k (.bool false)))])
 .ret)
 .skip))
 (.seq (.rg [p 60 (.mv (.t 4)),
 p 2 (.mv (.t 60)),
 p 3 (.mv (.k (.bool true)))])
 .ret))))))),
 [.tmp 2, .tmp 3]⟩
end Go.Proofs.YtoppcdecolponaaDoor.AL
