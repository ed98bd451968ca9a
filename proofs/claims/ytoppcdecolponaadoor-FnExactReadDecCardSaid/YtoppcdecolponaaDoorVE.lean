/- Contracts of functions that are lent, or hand out, arrays that are kept out of sight. -/
import Derived.Test.YtoppcdecolponaaDoorVB
namespace Go.Proofs.YtoppcdecolponaaDoor.AL
open Go
set_option linter.unusedVariables false
set_option linter.unusedSimpArgs false
abbrev M0 : Mem := fun _ => none
structure BackX (n n1 : Nat) (m m1 : Mem) (Z0 : Zl) (O0 : Mem) (Z1 : Zl) (O1 : Mem) : Prop where
 cell : ∀ (i : Nat) a lb, Z1[i]? = some (some a, lb) → (a ∈ adrs Z0 ∨ n ≤ a) ∧ a < n1 ∧ ∃ cells, m1 a = some ⟨cells, true, lb.sz⟩ ∧ ∀ M' Z', lb.rel M' Z' cells
 nil : ∀ (i : Nat) lb, Z1[i]? = some (none, lb) → lb = .dead ∨ ∃ k, lb = .arr k []
 inj : ∀ (i j : Nat) a lb lb', Z1[i]? = some (some a, lb) → Z1[j]? = some (some a, lb') → i = j
 keep : ∀ b x, b ∉ adrs Z0 → O0 b = none → m b = some x → m1 b = some x
 ext : ∀ (b : Nat) p, Z0[b]? = some p → ∃ p1, Z1[b]? = some p1 ∧ grow p p1
 lo : ∀ (i : Nat) a lb, Z1[i]? = some (some a, lb) → n ≤ a ∨ ∃ lb0, Z0[i]? = some (some a, lb0)
 ob : ∀ a b, O1 a = some b → m1 a = some b ∧ b.own = true ∧ a < n1 ∧ (O0 a ≠ none ∨ n ≤ a) ∧ a ∉ adrs Z1
structure GX (G : Prg) (f : Nat) (L0 : List LB) (O0 : Mem) (vargs : List V) (post : V → List LB → Mem → Prop) : Prop where
 run : ∀ args bs m n Ma Z0, Fresh m n → bs ≤ n → sub Ma m → Lent bs n Ma m Z0 L0 → (∀ a b, O0 a = some b → m a = some b ∧ b.own = true ∧ bs ≤ a ∧ a < n ∧ Ma a = none ∧ a ∉ adrs Z0) → Pt (RL Ma Z0) vargs args →
  CallW G f args bs m n fun v m1 n1 => ∃ u Z1 O1, RL M0 Z1 u v ∧ post u (Z1.map (·.2)) O1 ∧ BackX n n1 m m1 Z0 O0 Z1 O1
theorem GX.mono {G f L0 O0 vargs} {post post' : V → List LB → Mem → Prop} (h : GX G f L0 O0 vargs post) (hp : ∀ u L1 D, post u L1 D → post' u L1 D) : GX G f L0 O0 vargs post' :=
 ⟨fun args bs m n Ma Z0 h1 h2 h3 h4 h5 h6 => (h.run args bs m n Ma Z0 h1 h2 h3 h4 h5 h6).mono fun v m1 n1 ⟨u, Z1, O1, g1, g2, g3⟩ => ⟨u, Z1, O1, g1, hp _ _ _ g2, g3⟩⟩
end Go.Proofs.YtoppcdecolponaaDoor.AL
