/- Stores whose order is drawn: rows that are put aside while the other operations are carried out. -/
import Derived.Test.YtoppcdecolponaaDoorV6
namespace Go.Proofs.YtoppcdecolponaaDoor.AL
open Go
set_option linter.unusedVariables false
set_option linter.unusedSimpArgs false
abbrev Hs := List (Nat × List V × Nat)
def Mk0 (X : Xs) (a d : Nat) : Prop := (d = 0 → ¬ XIn X a) ∧ (d = 1 → (a, false) ∉ X)
theorem Mk0.nil (a d : Nat) : Mk0 [] a d := ⟨fun _ ⟨_, h⟩ => (nomatch h), fun _ h => (nomatch h)⟩
theorem Mk0.ok {X : Xs} {a d : Nat} {o : O} (h : Mk0 X a d) (hd : d = 0 ∨ (d = 1 ∧ o.isCall = true)) : XOk o X a := by
 rcases hd with rfl | ⟨rfl, hc⟩
 · exact ⟨fun h1 => h.1 rfl ⟨_, h1⟩, fun _ h1 => h.1 rfl ⟨_, h1⟩⟩
 · exact ⟨h.2 rfl, fun e => by rw [hc] at e; cases e⟩
theorem Mk0.add {X : Xs} {a d : Nat} {o : O} {T : List Nat} (h : Mk0 X a d) (ha : a ∉ T) : Mk0 (XAdd o T X) a d := by
 refine ⟨fun e h1 => ?_, fun e h1 => ?_⟩
 · rcases XAdd.xin.1 h1 with h2 | h2
   · exact ha h2
   · exact h.1 e h2
 · rcases XAdd.mem.1 h1 with ⟨h2, _⟩ | h2
   · exact ha h2
   · exact h.2 e h2
theorem Mk0.call {X : Xs} {a d : Nat} {o : O} {T : List Nat} (h : Mk0 X a d) (hd : d = 0 ∨ d = 1) (hc : o.isCall = true) : Mk0 (XAdd o T X) a 1 := by
 refine ⟨fun e => (by cases e), fun _ h1 => ?_⟩
 rcases XAdd.mem.1 h1 with ⟨_, h2⟩ | h2
 · rw [hc] at h2; cases h2
 · rcases hd with rfl | rfl
   · exact h.1 rfl ⟨_, h2⟩
   · exact h.2 rfl h2
structure HidR (Z : Zl) (M : Mem) (L : List LB) (h : Mem) (X : Xs) (hs : Hs) : Prop where
 nd : (hs.map (·.1)).Nodup
 row : ∀ e, e ∈ hs → L[e.1]? = some .gone ∧ ∃ a cells, Z[e.1]? = some (some a, .gone) ∧ h a = some ⟨cells, true, 1⟩ ∧ Pt (RL M Z) e.2.1 cells ∧ Mk0 X a e.2.2
 dom : ∀ a x, h a = some x → ∃ e, e ∈ hs ∧ Z[e.1]? = some (some a, .gone)
 xs : ∀ a, XIn X a → ∃ x, h a = some x
section
variable {N : Nat} {G : Prg} {tl : Tl} {L : List LB} {K : Tl → List LB → Prop} {Q : Ex → Tl → List LB → Prop} {hs : Hs} {l : List IOp}
def gones (L : List LB) : Hs → Bool
 | [] => true
 | e :: hs => (match L[e.1]? with
   | some .gone => true
   | _ => false) && gones L hs
theorem gones_inv {L : List LB} : ∀ {hs : Hs}, gones L hs = true → ∀ e, e ∈ hs → L[e.1]? = some .gone
 | [], _, e, he => by cases he
 | e0 :: hs, h, e, he => by
   simp only [gones, Bool.and_eq_true] at h
   rcases List.mem_cons.1 he with rfl | he
   · have := h.1
     split at this
     · rename_i h1; exact h1
     · cases this
   · exact gones_inv h.2 e he
theorem HidR.mono {N : Nat} {c : Cx N} {Z M L h X hs Z1 M1 L1 m1 n1} (hH : HidR Z M L h X hs) (he : ExtV Z M Z1 M1) (hM1 : StM c Z1 M1 L1 m1 n1) (hg : gones L1 hs = true) : HidR Z1 M1 L1 h X hs := by
 have up : ∀ e a, e ∈ hs → Z[e.1]? = some (some a, LB.gone) → Z1[e.1]? = some (some a, LB.gone) := by
  intro e a he' hz
  obtain ⟨p1, q1, q2⟩ := he.hZ _ _ hz
  have h2 := (q2.cl trivial).2
  obtain ⟨a1, hz1⟩ := hM1.getZ (gones_inv hg e he')
  rw [q1] at hz1; cases hz1
  simp only at h2; subst h2; exact q1
 refine ⟨hH.nd, fun e he' => ?_, fun a x hx => ?_, hH.xs⟩
 · obtain ⟨h1, a, cells, h2, h3, h4, h5⟩ := hH.row e he'
   exact ⟨gones_inv hg e he', a, cells, up e a he' h2, h3, Pt.mono h4 fun _ _ => RL.mono he, h5⟩
 · obtain ⟨e, e1, e2⟩ := hH.dom a x hx
   exact ⟨e, e1, up e a e1 e2⟩
end
end Go.Proofs.YtoppcdecolponaaDoor.AL
