/- Code over plain data: calls of functions that hold our own variables; slices that may be nil. -/
import Derived.Test.YtdialnejieoelaaV7
namespace Go.Proofs.Ytdialnejieoelaa.AL
open Go
set_option linter.unusedVariables false
set_option linter.unusedSimpArgs false
section
variable {N : Nat} {G : Prg} {tl : Tl} {L : List LB} {K : Tl → List LB → Prop} {l : List IOp} {q : Bool} {d : Nat}
theorem s_eqnilS {g : Bool} {x : E} {s : Nat} {rows : List (List V)} (hx : evE tl x = some (.sl s rows)) (kf : VO N G l K ((d, .w (.bool g)) :: tl) L) (kt : rows = [] → VO N G l K ((d, .w (.bool !g)) :: tl) L) : VO N G (⟨some d, .eqnil g x, none, q⟩ :: l) K tl L := by
 intro c Z M tm m n hM hS
 have h1 := (evE_rel hS hx).sl_inv
 obtain ⟨e, he⟩ : ∃ e, x.ev tm = e := ⟨_, rfl⟩
 rw [he] at h1
 cases h1 with
 | sl hc ha hl hn hk hr =>
   rename_i a cp rows'
   have go : ∀ b : Bool, b = (bif g then a.isSome else a.isNone) → VO N G l K ((d, .w (.bool b)) :: tl) L → ∃ tm1 m1 n1 Z1 M1 tl1 L1, Big G c.bs (.ops (⟨some d, .eqnil g x, none, q⟩ :: l) tm) m n (.exit .normal tm1) m1 n1 ∧ ExtN N Z M Z1 M1 ∧ StM c Z1 M1 L1 m1 n1 ∧ Slots M1 Z1 tl1 tm1 ∧ K tl1 L1 := by
    intro b hb kk
    obtain ⟨tm2, m2, n2, Z2, M2, tl2, L2, hb2, r⟩ := kk c Z M (upd tm d (.bool b)) m n hM (hS.put (.fz (.w rfl)))
    refine ⟨tm2, m2, n2, Z2, M2, tl2, L2, op_run (o := ⟨some d, .eqnil g x, none, q⟩) (m1 := m) (n1 := n) rfl (.inl ?_) hb2, r⟩
    simp only [stepO, he, hb]
    cases g <;> rfl
   cases a with
   | some ad => exact go g (by cases g <;> rfl) kf
   | none =>
     have : rows = [] := by
      rcases rows' with _ | ⟨r, rs⟩
      · exact List.eq_nil_of_length_eq_zero (by simpa using hl.symm)
      · obtain ⟨⟨h2, _⟩, _⟩ := ha (by simp)
        cases h2
     exact go (!g) (by cases g <;> rfl) (kt this)
end
end Go.Proofs.Ytdialnejieoelaa.AL
