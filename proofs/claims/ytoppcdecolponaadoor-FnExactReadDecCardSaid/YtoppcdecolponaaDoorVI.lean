/- Arrays of our own that are made while the order of operations is open: put aside, and put in their place later. -/
import Derived.Test.YtoppcdecolponaaDoorVG
namespace Go.Proofs.YtoppcdecolponaaDoor.AL
open Go
set_option linter.unusedVariables false
set_option linter.unusedSimpArgs false
abbrev Ps := List (Nat × Nat × Nat × List (List V))
structure PendR {N : Nat} (c : Cx N) (Z : Zl) (M m h : Mem) (n : Nat) (X : Xs) (ps : Ps) : Prop where
 nd : (ps.map (·.2.1)).Nodup
 row : ∀ e, e ∈ ps → ∃ cells, h e.2.1 = some ⟨cells, true, e.2.2.1⟩ ∧ LB.rel M Z (.arr e.2.2.1 e.2.2.2) cells
 dom : ∀ a x, h a = some x → c.n0 ≤ a ∧ a < n ∧ m a = none ∧ a ∈ ps.map (·.2.1)
 xs : ∀ a, XIn X a → a < n ∧ a ∉ ps.map (·.2.1)
theorem PendR.keep {N : Nat} {c : Cx N} {Z M m h n X ps Z1 M1 m1 n1} (hP : PendR c Z M m h n X ps) (he : ExtV Z M Z1 M1) (hn : n ≤ n1) (hd : ∀ b, b < n → m b = none → m1 b = none) : PendR c Z1 M1 m1 h n1 X ps :=
 ⟨hP.nd, fun e h1 => let ⟨cells, h2, h3⟩ := hP.row e h1; ⟨cells, h2, h3.mono he⟩, fun a x h1 => let ⟨h2, h3, h4, h5⟩ := hP.dom a x h1; ⟨h2, by omega, hd a h3 h4, h5⟩, fun a h1 => let ⟨h2, h3⟩ := hP.xs a h1; ⟨by omega, h3⟩⟩
end Go.Proofs.YtoppcdecolponaaDoor.AL
