/- Code over plain data: loops whose own rows get new numbers in each round. -/
import Derived.Test.YtdialnejieoelaaV8
namespace Go.Proofs.Ytdialnejieoelaa.AL
open Go
set_option linter.unusedVariables false
set_option linter.unusedSimpArgs false
def LB.ren (s : Nat → Option Nat) : LB → Option LB
 | .cell row => match rens (V.ren s 6) row with
   | some r => some (.cell r)
   | none => none
 | .arr k rows => some (.arr k rows)
 | .gone => none
 | .dead => some .dead
theorem LB.ren_grow {s lb lb' a} (h : LB.ren s lb = some lb') : grow (a, lb) (a, lb') := by
 cases lb with
 | cell row =>
   simp only [LB.ren] at h
   split at h
   · cases h; exact ⟨trivial, rfl⟩
   · cases h
 | arr k rows => cases h; exact grow.refl _
 | gone => cases h
 | dead => cases h; exact grow.refl _
theorem LB.ren_rel {M : Mem} {Z Z' : Zl} {s : Nat → Option Nat} (hs : ∀ (b b' : Nat) p, s b = some b' → Z[b]? = some p → ∃ p', Z'[b']? = some p' ∧ grow p p') {lb lb' cells} (h : LB.ren s lb = some lb') (hr : LB.rel M Z lb cells) : LB.rel M Z' lb' cells := by
 cases lb with
 | cell row =>
   simp only [LB.ren] at h
   split at h
   · rename_i r e
     cases h
     exact rens_rel (R := RL M Z) (R' := RL M Z') (AL.ren_rel (sub_refl _) hs 6) e hr
   · cases h
 | arr k rows => cases h; exact hr
 | gone => cases h
 | dead => cases h; exact hr.elim
theorem LB.ren_at {M : Mem} {Z Z' : Zl} {m : Mem} {a : Nat} {s : Nat → Option Nat} (hs : ∀ (b b' : Nat) p, s b = some b' → Z[b]? = some p → ∃ p', Z'[b']? = some p' ∧ grow p p') {lb lb'} (h : LB.ren s lb = some lb') (hr : LB.at M Z m a lb) : LB.at M Z' m a lb' := by
 cases lb with
 | cell row =>
   obtain ⟨cells, h1, h2⟩ := hr
   have h3 := LB.ren_rel hs h h2
   simp only [LB.ren] at h
   split at h
   · cases h; exact ⟨cells, h1, h3⟩
   · cases h
 | arr k rows => cases h; exact hr
 | gone => cases h
 | dead => exact hr.elim
def selL (L : List LB) (I : List Nat) : Option (List LB) := mapO (fun i => match L[i]? with
 | some lb => LB.ren (posN I) lb
 | none => none) I
theorem compact {N : Nat} {c : Cx N} {Z M L m n} (hM : StM c Z M L m n) {K : List Nat} {F : List LB} (hK : (List.range N ++ K).Nodup) (hF : selL L (List.range N ++ K) = some F) :
 ∃ Z', ExtN N Z M Z' M ∧ StM c Z' M F m n ∧ ∀ (b b' : Nat) p, posN (List.range N ++ K) b = some b' → Z[b]? = some p → ∃ p', Z'[b']? = some p' ∧ grow p p' := by
 obtain ⟨I, hI⟩ : ∃ I, I = List.range N ++ K := ⟨_, rfl⟩
 rw [← hI] at hK hF ⊢
 obtain ⟨f1, f2⟩ := mapO_inv hF
 -- the rows
 let Z' : Zl := (List.range I.length).map fun j => match I[j]? with
  | some i => (match Z[i]? with | some p => p.1 | none => none, match F[j]? with | some lb => lb | none => .dead)
  | none => (none, .dead)
 have hget : ∀ (j : Nat) q, Z'[j]? = some q → ∃ i lb lb', I[j]? = some i ∧ Z[i]? = some (q.1, lb) ∧ LB.ren (posN I) lb = some lb' ∧ q.2 = lb' ∧ F[j]? = some lb' := by
  intro j q hq
  have hj : j < I.length := by
   have := (List.getElem?_eq_some_iff.1 hq).1
   simpa [Z'] using this
  have hi : I[j]? = some I[j] := List.getElem?_eq_getElem hj
  obtain ⟨lb', g1, g2⟩ := f2 j _ hi
  split at g1
  · rename_i lb hl
    obtain ⟨a, ha⟩ := hM.getZ hl
    simp only [Z', List.getElem?_map, List.getElem?_range hj, Option.map_some, Option.some.injEq] at hq
    rw [hi] at hq
    simp only [ha, g2] at hq
    subst hq
    exact ⟨_, lb, lb', hi, ha, g1, rfl, g2⟩
  · cases g1
 have hput : ∀ (j i : Nat) p, I[j]? = some i → Z[i]? = some p → ∃ lb', LB.ren (posN I) p.2 = some lb' ∧ Z'[j]? = some (p.1, lb') := by
  intro j i p hi hp
  have hj := (List.getElem?_eq_some_iff.1 hi).1
  obtain ⟨lb', g1, g2⟩ := f2 j _ hi
  have hl : L[i]? = some p.2 := by rw [← hM.hL, List.getElem?_map, hp]; rfl
  rw [hl] at g1
  refine ⟨lb', g1, ?_⟩
  simp only [Z', List.getElem?_map, List.getElem?_range hj, Option.map_some]
  rw [hi]
  simp only [hp, g2]
 have hs : ∀ (b b' : Nat) p, posN I b = some b' → Z[b]? = some p → ∃ p', Z'[b']? = some p' ∧ grow p p' := by
  intro b b' p h1 h2
  obtain ⟨lb', g1, g2⟩ := hput b' b p (posN_inv h1) h2
  exact ⟨_, g2, LB.ren_grow g1⟩
 have hrange : ∀ (j : Nat), j < N → I[j]? = some j := by
  intro j hj
  rw [hI, List.getElem?_append_left (by simpa using hj), List.getElem?_range hj]
 have hhigh : ∀ (j i : Nat), N ≤ j → I[j]? = some i → N ≤ i := by
  intro j i hj hi
  rcases Nat.lt_or_ge i N with h | h
  · have h1 := hrange i h
    have h2 := (List.getElem?_inj (List.getElem?_eq_some_iff.1 h1).1 hK).1 (h1.trans hi.symm)
    omega
  · exact h
 refine ⟨Z', ⟨sub_refl _, fun b p hb hp => ?_⟩, ⟨hM.hbs, hM.hn, hM.fresh, ?_, fun b x hb => ?_, hM.h0, hM.f0, hM.hma, hM.hbr, fun j a lb' hj => ?_, fun j lb' hj => ?_, fun j1 j2 a l1 l2 h1 h2 => ?_, fun j a lb' hj => ?_⟩, hs⟩
 · obtain ⟨lb', g1, g2⟩ := hput b b p (hrange b hb) hp
   exact ⟨_, g2, LB.ren_grow g1⟩
 · apply List.ext_getElem?
   intro j
   rw [List.getElem?_map]
   cases e : Z'[j]? with
   | some q =>
     obtain ⟨i, lb, lb', _, _, _, g4, g5⟩ := hget j q e
     rw [g5, ← g4]; rfl
   | none =>
     have : I.length ≤ j := by
      have := List.getElem?_eq_none_iff.1 e
      simpa [Z'] using this
     rw [List.getElem?_eq_none (by omega)]; rfl
 · obtain ⟨h1, h2, h3⟩ := hM.hM b x hb
   refine ⟨h1, h2, fun j lb' e => ?_⟩
   obtain ⟨i, lb, _, _, g2, _⟩ := hget j _ e
   exact h3 i lb g2
 · obtain ⟨i, lb, lb2, g1, g2, g3, g4, _⟩ := hget j _ hj
   simp only at g2 g4
   subst g4
   obtain ⟨h1, h2, h3⟩ := hM.cell i a lb g2
   exact ⟨h1, h2, LB.ren_at hs g3 h3⟩
 · obtain ⟨i, lb, lb2, g1, g2, g3, g4, _⟩ := hget j _ hj
   simp only at g2 g4
   subst g4
   rcases hM.nl i lb g2 with e | ⟨k, e⟩
   · subst e; cases g3; exact .inl rfl
   · subst e; cases g3; exact .inr ⟨k, rfl⟩
 · obtain ⟨i1, lb1, _, g1, g2, _⟩ := hget j1 _ h1
   obtain ⟨i2, lb2, _, q1, q2, _⟩ := hget j2 _ h2
   have := hM.inj i1 i2 a lb1 lb2 g2 q2
   subst this
   exact (List.getElem?_inj (List.getElem?_eq_some_iff.1 g1).1 hK).1 (g1.trans q1.symm)
 · obtain ⟨i, lb, _, g1, g2, _⟩ := hget j _ hj
   rcases hM.lo i a lb g2 with h | h
   · exact .inl h
   · rcases Nat.lt_or_ge j N with hjN | hjN
     · rw [hrange j hjN] at g1; cases g1; exact .inr h
     · have h1 := hhigh j i hjN g1
       have h2 := c.hN
       have h3 := (List.getElem?_eq_some_iff.1 h).1
       omega
theorem RL.monoN {N : Nat} {Z M Z1 M1} {v x} (h : RL M Z v x) (he : ExtN N Z M Z1 M1) (hb : V.bel 6 N v = true) : RL M1 Z1 v x := by
 have h1 := V.bel_rel h hb
 refine RL.mono ⟨he.hM, fun b p hp => ?_⟩ h1
 rw [List.getElem?_take] at hp
 split at hp
 · rename_i hlt; exact he.hZ b p hlt hp
 · cases hp
structure HasR (N : Nat) (tl : Tl) (L : List LB) (S : Tl) (F : List LB) : Prop where
 h : ∃ (K : List Nat) (F1 : List LB), (List.range N ++ K).Nodup ∧ selL L (List.range N ++ K) = some F1 ∧ F1 = F ∧ ∀ p, p ∈ S → ∃ v, look tl p.1 = some v ∧ V.ren (posN (List.range N ++ K)) 6 v = some p.2
def renS (N : Nat) (K : List Nat) (tl : Tl) : List (Nat × V) → Prop
 | [] => True
 | (i, u) :: S => (match look tl i with
   | some v => V.ren (posN (List.range N ++ K)) 6 v
   | none => none) = some u ∧ renS N K tl S
theorem renS_mem {N K tl} : ∀ {S : List (Nat × V)}, renS N K tl S → ∀ p, p ∈ S → ∃ v, look tl p.1 = some v ∧ V.ren (posN (List.range N ++ K)) 6 v = some p.2
 | [], _, p, hp => by cases hp
 | (i, u) :: S, h, p, hp => by
   rcases List.mem_cons.1 hp with rfl | hp
   · have h1 := h.1
     split at h1
     · rename_i v e; exact ⟨v, e, h1⟩
     · cases h1
   · exact renS_mem h.2 p hp
theorem hasR {N : Nat} {tl : Tl} {L F F1 : List LB} {S : Tl} (K : List Nat) (h1 : (List.range N ++ K).Nodup) (h2 : selL L (List.range N ++ K) = some F1) (h3 : renS N K tl S) (h4 : F1 = F) : HasR N tl L S F := ⟨K, F1, h1, h2, h4, renS_mem h3⟩
theorem keepI_mem  {tl : Tl} {t : Nat} {v : V} : ∀ {ks : List Nat} {tlk : Tl}, keepI tl ks = some tlk → look tlk t = some v → t ∈ ks
 | [], tlk, h, hv => by simp [keepI] at h; subst h; cases hv
 | i :: is, tlk, h, hv => by
   simp only [keepI] at h
   split at h
   · rename_i r hr
     split at h
     · rename_i u hu
       cases h
       simp only [look] at hv
       cases e : Nat.beq t i with
       | true => rw [Nat.eq_of_beq_eq_true e]; exact List.mem_cons_self ..
       | false => rw [e] at hv; exact List.mem_cons_of_mem _ (keepI_mem hr hv)
     · cases h
       exact List.mem_cons_of_mem _ (keepI_mem hr hv)
   · cases h
theorem S_loopR {N : Nat} {G : Prg} {tl : Tl} {L : List LB} {Q : Ex → Tl → List LB → Prop} {c : C} {ι : Type} (P : ι → Prop) (S : ι → Tl) (F : ι → List LB) (μ : ι → Nat) (i0 : ι) (hP : P i0) (ks : List Nat) {tlk : Tl} (hk : keepI tl ks = some tlk)
 (hkd : ks.all (fun k => !c.dsts.any (fun d => Nat.beq k d)) = true) (hkb : tlk.all (fun p => V.bel 6 N p.2) = true) (start : HasR N tl L (S i0) (F i0))
 (round : ∀ i, P i → VC N G c (loopQ (fun tl1 L1 => ∃ j, P j ∧ μ j < μ i ∧ HasR N tl1 L1 (S j) (F j)) Q) (S i ++ tlk) (F i)) : VC N G (.loop c) Q tl L := by
 have hkn : ∀ t v, look tlk t = some v → t ∉ c.dsts := fun t v hv hd => by
  have h1 := List.all_eq_true.1 hkd t (keepI_mem hk hv)
  simp only [Bool.not_eq_true', List.any_eq_false] at h1
  exact h1 t hd (Nat.beq_refl t)
 have hkv : ∀ t v, look tlk t = some v → V.bel 6 N v = true := fun t v hv => List.all_eq_true.1 hkb _ (lookV_mem hv)
 -- where a round begins
 have enter : ∀ (i : ι) (cx : Cx N) Z M tm m n tl1 L1, StM cx Z M L1 m n → Slots M Z tl1 tm → HasR N tl1 L1 (S i) (F i) → ∃ Z', ExtN N Z M Z' M ∧ StM cx Z' M (F i) m n ∧ Slots M Z' (S i) tm := by
  intro i cx Z M tm m n tl1 L1 hM hS hh
  obtain ⟨K, F1, hK, hF, hFe, hSj⟩ := hh.h
  obtain ⟨Z', g1, g2, g3⟩ := compact hM hK hF
  refine ⟨Z', g1, hFe ▸ g2, fun t v hv => ?_⟩
  obtain ⟨u, h1, h2⟩ := hSj _ (lookV_mem hv)
  exact ren_rel (sub_refl _) g3 6 u v _ h2 (hS t u h1)
 have key : ∀ k i, P i → μ i = k → ∀ (cx : Cx N) Z M tm m n, StM cx Z M (F i) m n → Slots M Z (S i) tm → Slots M Z tlk tm →
  ∃ e tm1 m1 n1 Z1 M1 tl1 L1, Big G cx.bs (.code (.loop c) tm) m n (.exit e tm1) m1 n1 ∧ ExtN N Z M Z1 M1 ∧ StM cx Z1 M1 L1 m1 n1 ∧ Slots M1 Z1 tl1 tm1 ∧ Q e tl1 L1 := by
  intro k
  induction k using Nat.strongRecOn with
  | _ k ih =>
    intro i hi hk' cx Z M tm m n hM hS hT
    obtain ⟨e, tm1, m1, n1, Z1, M1, tl1, L1, hb, he, hM1, hS1, hq⟩ := round i hi cx Z M tm m n hM fun t v hv => (look_append hv).elim (hS t v) (hT t v)
    by_cases hn : e = .normal
    · subst hn
      obtain ⟨j, hj, hlt, hh⟩ := (show ∃ j, P j ∧ μ j < μ i ∧ HasR N tl1 L1 (S j) (F j) from hq)
      obtain ⟨Z', g1, g2, g3⟩ := enter j cx Z1 M1 tm1 m1 n1 tl1 L1 hM1 hS1 hh
      have hE := he.trans g1
      have hTj : Slots M1 Z' tlk tm1 := fun t v hv => by
       have h1 := (hT t v hv).monoN hE (hkv t v hv)
       rw [Big.dsts hb t (hkn t v hv)]; exact h1
      obtain ⟨e2, tm2, m2, n2, Z2, M2, tl2, L2, hb2, he2, r⟩ := ih _ (hk' ▸ hlt) j hj rfl cx _ M1 tm1 m1 n1 g2 g3 hTj
      exact ⟨e2, tm2, m2, n2, Z2, M2, tl2, L2, .loopN hb hb2, hE.trans he2, r⟩
    · refine ⟨e, tm1, m1, n1, Z1, M1, tl1, L1, .loopE hb hn, he, hM1, hS1, ?_⟩
      cases e <;> first | exact absurd rfl hn | exact hq
 intro cx Z M tm m n hM hS
 obtain ⟨Z', g1, g2, g3⟩ := enter i0 cx Z M tm m n tl L hM hS start
 obtain ⟨e, tm1, m1, n1, Z1, M1, tl1, L1, hb, he, r⟩ := key _ i0 hP rfl cx Z' M tm m n g2 g3 fun t v hv => (hS t v (keepI_rel hk t v hv)).monoN g1 (hkv t v hv)
 exact ⟨e, tm1, m1, n1, Z1, M1, tl1, L1, hb, g1.trans he, r⟩
end Go.Proofs.Ytdialnejieoelaa.AL
