/- Code over plain data: loops whose own rows get new numbers in each round. -/
import Derived.Test.YtdialnejieoelaaV8
namespace Go.Proofs.Ytdialnejieoelaa.AL
open Go
set_option linter.unusedVariables false
set_option linter.unusedSimpArgs false
def LB.ren (s : Nat → Option Nat) : LB → Option LB
 | .cell row => match rens (V.ren s 6) row with
   | some r => some (.cell r)
   | none => none
 | .arr k rows => some (.arr k rows)
 | .gone => none
 | .dead => some .dead
theorem LB.ren_rel {M : Mem} {Z Z' : Zl} {s : Nat → Option Nat} (hs : ∀ (b b' : Nat) p, s b = some b' → Z[b]? = some p → ∃ p', Z'[b']? = some p' ∧ grow p p') {lb lb' cells} (h : LB.ren s lb = some lb') (hr : LB.rel M Z lb cells) : LB.rel M Z' lb' cells := by
 cases lb with
 | cell row =>
   simp only [LB.ren] at h
   split at h
   · rename_i r e
     cases h
     exact rens_rel (R := RL M Z) (R' := RL M Z') (AL.ren_rel (sub_refl _) hs 6) e hr
   · cases h
 | arr k rows => cases h; exact hr
 | gone => cases h
 | dead => cases h; exact hr.elim
end Go.Proofs.Ytdialnejieoelaa.AL
