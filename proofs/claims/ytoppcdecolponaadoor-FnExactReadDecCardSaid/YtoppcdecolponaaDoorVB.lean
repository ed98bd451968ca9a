/- Code over plain data: arrays of our own that slices in rows lead to, kept out of sight. -/
import Derived.Test.YtoppcdecolponaaDoorVA
namespace Go.Proofs.YtoppcdecolponaaDoor.AL
open Go
set_option linter.unusedVariables false
set_option linter.unusedSimpArgs false
abbrev Ob := List Mem
structure OBs {N : Nat} (c : Cx N) (Z : Zl) (M m : Mem) (n : Nat) (OL : Ob) : Prop where
 pt : ∀ (i : Nat) D a b, OL[i]? = some D → D a = some b → m a = some b ∧ b.own = true ∧ c.okA a ∧ a < n ∧ M a = none ∧ (∀ (j : Nat) lb, Z[j]? ≠ some (some a, lb)) ∧ ∀ (j : Nat), c.ad[j]? ≠ some (some a)
 low : ∀ (i : Nat) a, c.ad[i]? = some (some a) → a < c.n0
 dis : ∀ (i j : Nat) D E a b b', OL[i]? = some D → OL[j]? = some E → D a = some b → E a = some b' → i = j
theorem OBs.nil {N : Nat} {c : Cx N} {Z M m n} (h : ∀ (i : Nat) a, c.ad[i]? = some (some a) → a < c.n0) : OBs c Z M m n [] := ⟨fun i D a b h => by simp at h, h, fun i j D E a b b' h => by simp at h⟩
end Go.Proofs.YtoppcdecolponaaDoor.AL
