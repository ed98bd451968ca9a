/- Contracts of functions that hand out memory of their own, or write memory that they were handed. -/
import Derived.Test.YtoppcdecolponaaDoorV5
namespace Go.Proofs.YtoppcdecolponaaDoor.AL
open Go
set_option linter.unusedVariables false
set_option linter.unusedSimpArgs false
def adrs (Z : Zl) : List Nat := Z.filterMap (·.1)
structure Lent (bs n : Nat) (Ma m : Mem) (Z0 : Zl) (L : List LB) : Prop where
 hL : Z0.map (·.2) = L
 low : ∀ a, a ∈ adrs Z0 → bs ≤ a ∧ a < n ∧ Ma a = none
 nil : ∀ (i : Nat) lb, Z0[i]? = some (none, lb) → lb = .dead ∨ ∃ k, lb = .arr k []
 inj : ∀ (i j : Nat) a lb lb', Z0[i]? = some (some a, lb) → Z0[j]? = some (some a, lb') → i = j
 cell : ∀ (i : Nat) a lb, Z0[i]? = some (some a, lb) → ∃ cells, m a = some ⟨cells, true, lb.sz⟩ ∧ lb.rel Ma Z0 cells
end Go.Proofs.YtoppcdecolponaaDoor.AL
