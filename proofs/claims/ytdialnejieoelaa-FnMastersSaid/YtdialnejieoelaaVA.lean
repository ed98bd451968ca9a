/- Code over plain data: an array of our own is only read from now on. -/
import Derived.Test.YtdialnejieoelaaV9
namespace Go.Proofs.Ytdialnejieoelaa.AL
open Go
set_option linter.unusedVariables false
set_option linter.unusedSimpArgs false
def onlyL : Nat → List LB → List LB
 | 0, x :: _ => [x]
 | b + 1, _ :: L => .gone :: onlyL b L
 | _, [] => []
theorem onlyL_at : ∀ {b : Nat} {L : List LB} {i : Nat} {lb : LB}, (onlyL b L)[i]? = some lb → lb ≠ .gone → i = b ∧ L[i]? = some lb
 | 0, x :: L, i, lb, h, hn => by
   cases i with
   | zero => simp [onlyL] at h; subst h; exact ⟨rfl, rfl⟩
   | succ i => simp [onlyL] at h
 | b + 1, x :: L, i, lb, h, hn => by
   cases i with
   | zero => simp [onlyL] at h; exact absurd h.symm hn
   | succ i =>
     obtain ⟨h1, h2⟩ := onlyL_at (b := b) (L := L) (i := i) (by simpa [onlyL] using h) hn
     exact ⟨by omega, by simpa using h2⟩
 | b, [], i, lb, h, hn => by simp [onlyL] at h
section
variable {N : Nat} {G : Prg} {tl : Tl} {L : List LB}
theorem frz_core {c : Cx N} {Z M m n} (hM : StM c Z M L m n) {b k : Nat} {rows : List (List V)} (hb : L[b]? = some (.arr k rows)) (hN : N ≤ b) :
 ∃ Z1 M1, ExtV Z M Z1 M1 ∧ StM c Z1 M1 (L.set b .dead) m n ∧ ∀ a, Z[b]? = some (some a, .arr k rows) → M1 a = m a := by
 obtain ⟨oa, ha⟩ := hM.getZ hb
 have hlt : b < Z.length := (List.getElem?_eq_some_iff.1 ha).1
 have hget : ∀ (i : Nat) p, (Z.set b ((none : Option Nat), LB.dead))[i]? = some p → (i ≠ b ∧ Z[i]? = some p) ∨ (i = b ∧ p = (none, .dead)) := by
  intro i p hp
  rw [List.getElem?_set] at hp
  by_cases e : b = i
  · subst e; rw [if_pos rfl, if_pos hlt] at hp; cases hp; exact .inr ⟨rfl, rfl⟩
  · rw [if_neg e] at hp; exact .inl ⟨fun e' => e e'.symm, hp⟩
 have hz1 : ∀ (b' : Nat) p, Z[b']? = some p → ∃ p1, (Z.set b ((none : Option Nat), LB.dead))[b']? = some p1 ∧ grow p p1 := by
  intro i p hp
  by_cases e : b = i
  · subst e; rw [ha] at hp; cases hp
    exact ⟨(none, .dead), by rw [List.getElem?_set, if_pos rfl, if_pos hlt], Or.inr (Eq.refl LB.dead)⟩
  · exact ⟨p, by rw [List.getElem?_set, if_neg e]; exact hp, grow.refl p⟩
 obtain ⟨M1, hs, hM1, hMa⟩ : ∃ M1, sub M M1 ∧ (∀ b' x, M1 b' = some x → (M b' = some x ∨ (oa = some b' ∧ m b' = some x))) ∧ ∀ a, oa = some a → M1 a = m a := by
  cases oa with
  | none => exact ⟨M, sub_refl _, fun b' x h => .inl h, fun a e => by cases e⟩
  | some a =>
    refine ⟨upd M a (m a), fun b' x h => ?_, fun b' x h => ?_, fun a' e => by cases e; simp [upd]⟩
    · have : b' ≠ a := fun e => by subst e; exact (hM.hM _ _ h).2.2 _ _ ha
      simp only [upd, if_neg this]; exact h
    · simp only [upd] at h
      split at h
      · rename_i e; subst e; exact .inr ⟨rfl, h⟩
      · exact .inl h
 have hext : ExtV Z M (Z.set b ((none : Option Nat), LB.dead)) M1 := ⟨hs, hz1⟩
 refine ⟨_, M1, hext, ⟨hM.hbs, hM.hn, hM.fresh, by simp [List.map_set, hM.hL], fun b' y hb' => ?_, hM.h0, hM.f0, sub_trans hM.hma hs, hM.hbr, fun i a' lb hi => ?_, fun i lb hi => ?_, fun i j a' l1 l2 hi hj => ?_, fun i a' lb hi => ?_⟩, fun a hza => ?_⟩
 · rcases hM1 b' y hb' with h | ⟨h, h'⟩
   · obtain ⟨g1, g2, g3⟩ := hM.hM b' y h
     refine ⟨g1, g2, fun i lb e => ?_⟩
     rcases hget i _ e with ⟨_, e1⟩ | ⟨_, e1⟩
     · exact g3 i lb e1
     · cases e1
   · subst h
     refine ⟨h', .inr ?_, fun i lb e => ?_⟩
     · rcases hM.lo b b' _ ha with h | h
       · exact h
       · have h2 := c.hN
         have h3 := (List.getElem?_eq_some_iff.1 h).1
         omega
     · rcases hget i _ e with ⟨hne, e1⟩ | ⟨_, e1⟩
       · exact hne (hM.inj _ _ _ _ _ e1 ha)
       · cases e1
 · rcases hget i _ hi with ⟨_, e1⟩ | ⟨_, e1⟩
   · obtain ⟨g1, g2, g3⟩ := hM.cell i a' lb e1
     exact ⟨g1, g2, g3.mono hext rfl⟩
   · cases e1
 · rcases hget i _ hi with ⟨_, e1⟩ | ⟨_, e1⟩
   · exact hM.nl i lb e1
   · cases e1; exact .inl rfl
 · rcases hget i _ hi with ⟨_, e1⟩ | ⟨_, e1⟩ <;> rcases hget j _ hj with ⟨_, e2⟩ | ⟨_, e2⟩
   · exact hM.inj i j a' l1 l2 e1 e2
   · cases e2
   · cases e1
   · cases e1
 · rcases hget i _ hi with ⟨_, e1⟩ | ⟨_, e1⟩
   · exact hM.lo i a' lb e1
   · cases e1
 · rw [ha] at hza; cases hza; exact hMa a rfl
theorem s_frz {l : List IOp} {K : Tl → List LB → Prop} (b i : Nat) {k : Nat} {rows : List (List V)} {v u : V} {p : List (Nat × Nat)} {L1 : List LB} (hb : L[b]? = some (.arr k rows)) (hN : N ≤ b) (hi : look tl i = some v) (hu : fr (onlyL b L) 6 v = some (u, p)) (ho : ∀ e, e ∈ p → e.1 = e.2) (hL1 : setN L b .dead = some L1)
 (kk : VO N G l K ((i, u) :: tl) L1) : VO N G l K tl L := by
 intro c Z M tm m n hM hS
 obtain ⟨_, rfl⟩ := setN_inv hL1
 obtain ⟨Z1, M1, he, hM1, ha⟩ := frz_core hM hb hN
 have hr : RF M1 u (tm i) := fr_relM hM he.hM (fun i lb h h' => (onlyL_at h h').2) (fun i a lb hl hg hz => by
  obtain ⟨rfl, h2⟩ := onlyL_at hl hg
  rw [hb] at h2; cases h2
  exact ha a hz) 6 v u p _ hu ho (hS i v hi)
 have hS1 : Slots M1 Z1 ((i, u) :: tl) tm := fun t w hw => by
  simp only [look] at hw
  cases e : Nat.beq t i with
  | true => rw [e] at hw; cases hw; rw [Nat.eq_of_beq_eq_true e]; exact .fz hr
  | false => rw [e] at hw; exact (hS t w hw).mono he
 obtain ⟨tm2, m2, n2, Z3, M2, tl2, L3, hb2, he2, r⟩ := kk c Z1 M1 tm m n hM1 hS1
 exact ⟨tm2, m2, n2, Z3, M2, tl2, L3, hb2, he.trans he2, r⟩
end
theorem Wk.nar {a b : V} (h : Wk a b) (hn : a.nar = true) : b.nar = true := by
 cases h with
 | refl => exact hn
 | nil => rfl
 | agg => cases hn
 | tup => cases hn
end Go.Proofs.Ytdialnejieoelaa.AL
