/- Calls of functions that are lent, or hand out, arrays that are kept out of sight. -/
import Derived.Test.YtdialnejieoelaaVF
namespace Go.Proofs.Ytdialnejieoelaa.AL
open Go
set_option linter.unusedVariables false
set_option linter.unusedSimpArgs false
section
variable {N : Nat} {G : Prg} {tl : Tl} {L : List LB} {OL : Ob} {K : Tl → List LB → Ob → Prop} {l : List IOp} {q : Bool} {d : Nat}
theorem x_callB {f es us us1 us2 p} {post : V → List LB → Mem → Prop} (ha : evEs tl es = some us) (hz : frs (fr L 6) us = some (us1, p)) (ho : ∀ e, e ∈ p → e.1 = e.2) (hv : Vew OL us1 us2) (hc : GX G f [] M0 us2 post)
 (k : ∀ u L1 D1, post u L1 D1 → (∀ (i : Nat) D a e, OL[i]? = some D → D1 a = some e → D a = none) → ∃ L' u', mergeG L L1 [] = some L' ∧ V.ren (backN [] L.length) 6 u = some u' ∧ XO N G l K (OL ++ [D1]) ((d, u') :: tl) L') : XO N G (⟨some d, .call f es, none, q⟩ :: l) K OL tl L := by
 intro c Z M tm m n hM hS hO
 obtain ⟨N', c', hb', hM', back⟩ := restart hM hO
 have hp : Pt (RF m) us1 (es.map (·.ev tm)) := frs_rel (R := RL M Z) (fr_rel hM hM.subM (fun _ _ _ _ => rfl) 6) hz ho (evEs_rel hS ha)
 have hp2 : Pt (RL m []) us2 (es.map (·.ev tm)) := (hv m (fun i D hD a b hab => (hO.pt i D a b hD hab).1) _ hp).mono fun _ _ => .fz
 have hbs : (if q = true then n else c.bs) ≤ n := by
  have h1 := hM.hbs; have h2 := hM.hn
  split <;> omega
 have hLent : Lent (if q = true then n else c.bs) n m m [] [] := ⟨rfl, fun a ha => by simp [adrs] at ha, fun i lb h => by simp at h, fun i j a l1 l2 h => by simp at h, fun i a lb h => by simp at h⟩
 obtain ⟨v, m1, n1, hb, u, Z1, D1, g1, g2, B⟩ := hc.run _ _ m n m [] hM.fresh hbs (sub_refl _) hLent (fun a b h => by cases h) hp2
 obtain ⟨hn, hf⟩ := hb.fresh hM.fresh
 have hlt : ∀ b x, m b = some x → b < n := fun b x h => by
  rcases Nat.lt_or_ge b n with h1 | h1
  · exact h1
  · rw [hM.fresh b h1] at h; cases h
 have hZn : ∀ (i : Nat) a lb, Z1[i]? = some (some a, lb) → n ≤ a := fun i a lb hi => by
  rcases (B.cell i a lb hi).1 with h | h
  · simp [adrs] at h
  · exact h
 have hD1 : ∀ a b, D1 a = some b → n ≤ a := fun a b h => by
  rcases (B.ob a b h).2.2.2.1 with h | h
  · exact absurd rfl h
  · exact h
 obtain ⟨L', u', hL', hu', k'⟩ := k u _ D1 g2 fun i D a e h1 h2 => by
  cases e' : D a with
  | none => rfl
  | some y => have := (hO.pt i D a y h1 e').2.2.2.1; have := hD1 a e h2; omega
 obtain ⟨Z', hM1, hE, hback, hkind⟩ := merge_st (ρ := []) (Z0 := []) (M2 := M) hM' hn hf (fun _ _ _ hz e => hb.dom _ (hM'.cell _ _ _ hz).2.1 e) List.nodup_nil rfl (sub_refl _) (fun b x hb => by
  have h1 := (hM.hM b x hb).1
  refine ⟨B.keep b x (by simp [adrs]) rfl h1, .inl hb, fun i lb e => ?_⟩
  have := hZn i b lb e
  have := hlt b x h1
  omega) (fun i a lb hi => by
  obtain ⟨h1, h2, cells, h3, h4⟩ := B.cell i a lb hi
  exact ⟨h1, h2, cells, h3, fun Z' => h4 _ Z'⟩) B.nil B.inj (fun b x h1 h2 => B.keep b x h1 rfl h2) B.ext B.lo hL'
 have hrel : RL M Z' u' v := ren_rel (fun b x h => by cases h) (fun b b' p hs hz => ⟨p, hback _ _ _ hs hz, grow.refl p⟩) 6 u u' v hu' g1
 obtain ⟨k1, k2⟩ := back _ _ _ _ _ hE hM1
 have hget : ∀ (i : Nat) D, (OL ++ [D1])[i]? = some D → OL[i]? = some D ∨ (i = OL.length ∧ D = D1) := by
  intro i D h
  rw [List.getElem?_append] at h
  split at h
  · exact .inl h
  · rename_i hi
    rw [List.getElem?_singleton] at h
    split at h
    · cases h; exact .inr ⟨by omega, rfl⟩
    · cases h
 have hcn := hM.hn
 have hO1 : OBs c Z' M m1 n1 (OL ++ [D1]) := by
  refine ⟨fun i D a b h1 h2 => ?_, hO.low, fun i j D E a b b' h1 h2 h3 h4 => ?_⟩
  · rcases hget i D h1 with h1 | ⟨_, rfl⟩
    · exact k2.pt i D a b h1 h2
    · obtain ⟨q1, q2, q3, q4, q5⟩ := B.ob a b h2
      have hna := hD1 a b h2
      refine ⟨q1, q2, .inl (by omega), q3, ?_, fun j lb e => ?_, fun j e => ?_⟩
      · cases e : M a with
        | none => rfl
        | some x => have := hlt a x (hM.hM a x e).1; omega
      · rcases hkind j _ e with ⟨i', e1⟩ | e1
        · exact q5 (adrs_mem.2 ⟨i', lb, e1⟩)
        · have := (hM.cell _ _ _ e1).2.1; omega
      · have := hO.low j a e; omega
  · rcases hget i D h1 with q1 | ⟨q1, q2⟩ <;> rcases hget j E h2 with q3 | ⟨q3, q4⟩
    · exact hO.dis _ _ _ _ _ _ _ q1 q3 h3 h4
    · rw [q4] at h4
      have h5 := (hO.pt i D a b q1 h3).2.2.2.1
      have := hD1 a b' h4; omega
    · rw [q2] at h3
      have h5 := (hO.pt j E a b' q3 h4).2.2.2.1
      have := hD1 a b h3; omega
    · omega
 obtain ⟨tm2, m2, n2, Z2, M3, tl2, L2, O2, hb2, he2, r⟩ := k' c Z' M (upd tm d v) m1 n1 k1 ((hS.mono hE).put hrel) hO1
 exact ⟨tm2, m2, n2, Z2, M3, tl2, L2, O2, op_run (o := ⟨some d, .call f es, none, q⟩) rfl (.inr ⟨f, _, rfl, hb⟩) hb2, hE.trans he2, r⟩
def ovr (D O0 D1 : Mem) : Mem := fun a => match D1 a with
 | some b => some b
 | none => match O0 a with
   | some _ => none
   | none => D a
theorem x_callM {f es us vargs L0 O0 D} {post : V → List LB → Mem → Prop} (ρ : List Nat) (j : Nat) (ha : evEs tl es = some us) (hr : rens (V.ren (posN ρ) 6) us = some vargs) (hL0 : mapO (fun i => L[i]?) ρ = some L0) (hfz : L0.all LB.froz = true) (hnd : ρ.Nodup) (hD : OL[j]? = some D) (hO0 : sub O0 D)
 (hc : GX G f L0 O0 vargs post) (hpd : ∀ u L1 D1, post u L1 D1 → ∀ a, D1 a ≠ none → O0 a ≠ none) (k : ∀ u L1 D1, post u L1 D1 → ∃ L' u', mergeG L L1 ρ = some L' ∧ V.ren (backN ρ L.length) 6 u = some u' ∧ XO N G l K (OL.set j (ovr D O0 D1)) ((d, u') :: tl) L') : XO N G (⟨some d, .call f es, none, false⟩ :: l) K OL tl L := by
 intro c Z M tm m n hM hS hO
 have hjl : j < OL.length := (List.getElem?_eq_some_iff.1 hD).1
 -- memory without what is lent of what is out of sight
 let m' : Mem := fun a => match O0 a with
  | some _ => none
  | none => m a
 have hm' : ∀ a, O0 a = none → m' a = m a := fun a h => by simp only [m', h]
 have hmn : ∀ a b, O0 a = some b → m' a = none := fun a b h => by simp only [m', h]
 have hms : sub m' m := fun a b h => by
  cases e : O0 a with
  | none => rw [hm' a e] at h; exact h
  | some y => rw [hmn a y e] at h; cases h
 have hOpt := fun a b (h : O0 a = some b) => hO.pt j D a b hD (hO0 a b h)
 have hM2 : StM c Z M L m' n := by
  refine ⟨hM.hbs, hM.hn, fun b hb => ?_, hM.hL, fun b x hb => ?_, fun b x hb => ?_, hM.f0, hM.hma, hM.hbr, fun i a lb hi => ?_, hM.nl, hM.inj, hM.lo⟩
  · cases e : m' b with
    | none => rfl
    | some y => have := hms b y e; rw [hM.fresh b hb] at this; cases this
  · obtain ⟨g1, g2, g3⟩ := hM.hM b x hb
    refine ⟨?_, g2, g3⟩
    cases e : O0 b with
    | none => rw [hm' b e]; exact g1
    | some y => have := (hOpt b y e).2.2.2.2.1; rw [hb] at this; cases this
  · cases e : O0 b with
    | none => rw [hm' b e]; exact hM.h0 b x hb
    | some y => have := hM.m0A (hOpt b y e).2.2.1; rw [hb] at this; cases this
  · obtain ⟨g1, g2, g3⟩ := hM.cell i a lb hi
    refine ⟨g1, g2, g3.mono (ExtV.refl _ _) ?_⟩
    cases e : O0 a with
    | none => exact hm' a e
    | some y => exact ((hOpt a y e).2.2.2.2.2.1 _ _ hi).elim
 let D' : Mem := fun a => match O0 a with
  | some _ => none
  | none => D a
 have hD'D : ∀ a b, D' a = some b → D a = some b ∧ O0 a = none := fun a b h => by
  simp only [D'] at h
  split at h
  · cases h
  · rename_i e; exact ⟨h, e⟩
 have hset : ∀ (F : Mem) (i : Nat) E, (OL.set j F)[i]? = some E → (i = j ∧ E = F) ∨ (i ≠ j ∧ OL[i]? = some E) := by
  intro F i E h
  rw [List.getElem?_set] at h
  by_cases e : j = i
  · rw [if_pos e, if_pos hjl] at h; cases h; exact .inl ⟨e.symm, rfl⟩
  · rw [if_neg e] at h; exact .inr ⟨fun e' => e e'.symm, h⟩
 have hoth : ∀ (i : Nat) E a b, i ≠ j → OL[i]? = some E → E a = some b → O0 a = none := fun i E a b hne h1 h2 => by
  cases e : O0 a with
  | none => rfl
  | some y => exact absurd (hO.dis _ _ _ _ _ _ _ h1 hD h2 (hO0 a y e)) hne
 have hO2 : OBs c Z M m' n (OL.set j D') := by
  refine ⟨fun i E a b h1 h2 => ?_, hO.low, fun i i' E F a b b' h1 h2 h3 h4 => ?_⟩
  · rcases hset D' i E h1 with ⟨_, rfl⟩ | ⟨hne, h1⟩
    · obtain ⟨h2, h3⟩ := hD'D a b h2
      obtain ⟨g1, g2⟩ := hO.pt j D a b hD h2
      exact ⟨by rw [hm' a h3]; exact g1, g2⟩
    · obtain ⟨g1, g2⟩ := hO.pt i E a b h1 h2
      exact ⟨by rw [hm' a (hoth i E a b hne h1 h2)]; exact g1, g2⟩
  · rcases hset D' i E h1 with ⟨e1, e2⟩ | ⟨q1, q2⟩ <;> rcases hset D' i' F h2 with ⟨e3, e4⟩ | ⟨q3, q4⟩
    · rw [e1, e3]
    · rw [e2] at h3; rw [e1]; exact hO.dis _ _ _ _ _ _ _ hD q4 (hD'D a b h3).1 h4
    · rw [e4] at h4; rw [e3]; exact hO.dis _ _ _ _ _ _ _ q2 hD h3 (hD'D a b' h4).1
    · exact hO.dis _ _ _ _ _ _ _ q2 q4 h3 h4
 obtain ⟨N', c', hb', hM', back⟩ := restart hM2 hO2
 have hpt := evEs_rel hS ha
 rw [← hM.hL] at hL0
 obtain ⟨Z0, hZ0, hsnd⟩ := mapO_snd (Z := []) (f := fun i => Z[i]?) (g := fun i => (Z.map (·.2))[i]?) (fun j => by simp) hL0
 obtain ⟨k1, k2⟩ := mapO_inv hZ0
 have hz0 : ∀ (i : Nat) p, Z0[i]? = some p → ∃ j, ρ[i]? = some j ∧ Z[j]? = some p := fun i p hp => by
  have hi : i < ρ.length := by rw [← k1]; exact (List.getElem?_eq_some_iff.1 hp).1
  obtain ⟨y, q1, q2⟩ := k2 i _ (List.getElem?_eq_getElem hi)
  rw [hp] at q2; cases q2
  exact ⟨_, List.getElem?_eq_getElem hi, q1⟩
 have hbs : c.bs ≤ n := Nat.le_trans hM.hbs hM.hn
 have hLent : Lent c.bs n M m Z0 L0 := by
  refine ⟨hsnd, fun a ha' => ?_, fun i lb hi => ?_, fun i j a l1 l2 e1 e2 => ?_, fun i a lb hi => ?_⟩
  · obtain ⟨i, lb, hi⟩ := adrs_mem.1 ha'
    obtain ⟨j', h1, h2⟩ := hz0 i _ hi
    obtain ⟨g1, g2, _⟩ := hM.cell _ _ _ h2
    refine ⟨hM.bsA g1, g2, ?_⟩
    cases e : M a with
    | none => rfl
    | some x => exact absurd h2 ((hM.hM a x e).2.2 _ _)
  · obtain ⟨j', _, h2⟩ := hz0 i _ hi
    exact hM.nl _ _ h2
  · obtain ⟨j1, h1, h2⟩ := hz0 i _ e1
    obtain ⟨j2, h3, h4⟩ := hz0 j _ e2
    have := hM.inj _ _ _ _ _ h2 h4
    subst this
    exact (List.getElem?_inj (List.getElem?_eq_some_iff.1 h1).1 hnd).1 (h1.trans h3.symm)
  · obtain ⟨j', h1, h2⟩ := hz0 i _ hi
    obtain ⟨_, _, g5⟩ := hM.cell _ _ _ h2
    have hfr : lb.froz = true := List.all_eq_true.1 hfz _ (by rw [← hsnd]; exact List.mem_map.2 ⟨_, List.mem_of_getElem? hi, rfl⟩)
    obtain ⟨cells, g3, g4⟩ := g5.froz hfr
    exact ⟨cells, g3, LB.froz_rel g4 hfr (sub_refl _) _⟩
 have hp : Pt (RL M Z0) vargs (es.map (·.ev tm)) := rens_rel (ren_rel (sub_refl _) (fun b b' p hs hz => by
  obtain ⟨y, q1, q2⟩ := k2 _ _ (posN_inv hs)
  rw [hz] at q1; cases q1
  exact ⟨p, q2, grow.refl p⟩) 6) hr hpt
 obtain ⟨v, m1, n1, hb, u, Z1, D1, g1, g2, B⟩ := hc.run _ c.bs m n M Z0 hM.fresh hbs hM.subM hLent (fun a b h => by
  obtain ⟨q1, q2, q3, q4, q5, q6, _⟩ := hOpt a b h
  refine ⟨q1, q2, hM.bsA q3, q4, q5, fun ha => ?_⟩
  obtain ⟨i, lb, hi⟩ := adrs_mem.1 ha
  obtain ⟨j', _, h2⟩ := hz0 i _ hi
  exact q6 _ _ h2) hp
 obtain ⟨hn, hf⟩ := hb.fresh hM.fresh
 obtain ⟨L', u', hL', hu', k'⟩ := k u _ D1 g2
 have hpd := hpd u _ D1 g2
 have hlt : ∀ b x, m b = some x → b < n := fun b x h => by
  rcases Nat.lt_or_ge b n with h1 | h1
  · exact h1
  · rw [hM.fresh b h1] at h; cases h
 obtain ⟨Z', hM1, hE, hback, hkind⟩ := merge_st (M2 := M) hM' hn hf (fun i b lb hz e => by
  have h9 := (hM.cell i b lb hz).2.1
  refine hb.dom _ h9 ?_
  cases e' : O0 b with
  | none => rw [hm' b e'] at e; exact e
  | some y => exact ((hOpt b y e').2.2.2.2.2.1 _ _ hz).elim) hnd hZ0 (sub_refl _) (fun b x hb => by
  obtain ⟨h1, h2, h3⟩ := hM.hM b x hb
  have hnz : b ∉ adrs Z0 := fun ha => by
   obtain ⟨i, lb, hi⟩ := adrs_mem.1 ha
   obtain ⟨j', _, h4⟩ := hz0 i _ hi
   exact h3 _ _ h4
  have hno : O0 b = none := by
   cases e : O0 b with
   | none => rfl
   | some y => have := (hOpt b y e).2.2.2.2.1; rw [hb] at this; cases this
  refine ⟨B.keep b x hnz hno h1, .inl hb, fun i lb e => ?_⟩
  rcases B.lo i b lb e with h | ⟨lb0, h⟩
  · have := hlt b x h1; omega
  · exact hnz (adrs_mem.2 ⟨i, lb0, h⟩)) (fun i a lb hi => by
  obtain ⟨h1, h2, cells, h3, h4⟩ := B.cell i a lb hi
  exact ⟨h1, h2, cells, h3, fun Z' => h4 _ Z'⟩) B.nil B.inj (fun b x h1 h2 => by
  cases e : O0 b with
  | none => rw [hm' b e] at h2; exact B.keep b x h1 e h2
  | some y => rw [hmn b y e] at h2; cases h2) B.ext B.lo hL'
 have hrel : RL M Z' u' v := ren_rel (fun b x h => by cases h) (fun b b' p hs hz => ⟨p, hback _ _ _ hs hz, grow.refl p⟩) 6 u u' v hu' g1
 obtain ⟨b1, b2⟩ := back _ _ _ _ _ hE hM1
 have hov : ∀ a y, ovr D O0 D1 a = some y → D1 a = some y ∨ (D1 a = none ∧ D' a = some y) := by
  intro a y h
  unfold ovr at h
  split at h
  · rename_i e; cases h; exact .inl e
  · rename_i e; exact .inr ⟨e, h⟩
 have hD'j : (OL.set j D')[j]? = some D' := by rw [List.getElem?_set, if_pos rfl, if_pos hjl]
 have hoj : ∀ (i : Nat) E, i ≠ j → OL[i]? = some E → (OL.set j D')[i]? = some E := fun i E hne h => by
  rw [List.getElem?_set, if_neg (fun e => hne e.symm)]; exact h
 have hD1O : ∀ a y, D1 a = some y → ∃ z, O0 a = some z := fun a y h => by
  cases e : O0 a with
  | none => exact absurd e (hpd a (by rw [h]; exact nofun))
  | some z => exact ⟨z, rfl⟩
 have hO3 : OBs c Z' M m1 n1 (OL.set j (ovr D O0 D1)) := by
  refine ⟨fun i E a b h1 h2 => ?_, hO.low, fun i i' E F a b b' h1 h2 h3 h4 => ?_⟩
  · rcases hset _ i E h1 with ⟨_, rfl⟩ | ⟨hne, h1⟩
    · rcases hov a b h2 with h2 | ⟨_, h2⟩
      · obtain ⟨q1, q2, q3, q4, q5⟩ := B.ob a b h2
        obtain ⟨z, hz⟩ := hD1O a b h2
        obtain ⟨r1, r2, r3, r4, r5, r6, r7⟩ := hOpt a z hz
        refine ⟨q1, q2, r3, q3, r5, fun j' lb e => ?_, r7⟩
        rcases hkind j' _ e with ⟨i', e1⟩ | e1
        · exact q5 (adrs_mem.2 ⟨i', lb, e1⟩)
        · exact r6 _ _ e1
      · exact b2.pt j D' a b hD'j h2
    · exact b2.pt i E a b (hoj i E hne h1) h2
  · rcases hset _ i E h1 with ⟨e1, e2⟩ | ⟨q1, q2⟩ <;> rcases hset _ i' F h2 with ⟨e3, e4⟩ | ⟨q3, q4⟩
    · rw [e1, e3]
    · rw [e2] at h3
      rcases hov a b h3 with h3 | ⟨_, h3⟩
      · obtain ⟨z, hz⟩ := hD1O a b h3
        rw [hoth i' F a b' q3 q4 h4] at hz; cases hz
      · rw [e1]; exact hO.dis _ _ _ _ _ _ _ hD q4 (hD'D a b h3).1 h4
    · rw [e4] at h4
      rcases hov a b' h4 with h4 | ⟨_, h4⟩
      · obtain ⟨z, hz⟩ := hD1O a b' h4
        rw [hoth i E a b q1 q2 h3] at hz; cases hz
      · rw [e3]; exact hO.dis _ _ _ _ _ _ _ q2 hD h3 (hD'D a b' h4).1
    · exact hO.dis _ _ _ _ _ _ _ q2 q4 h3 h4
 obtain ⟨tm2, m2, n2, Z2, M3, tl2, L2, O2, hb2, he2, r⟩ := k' c Z' M (upd tm d v) m1 n1 b1 ((hS.mono hE).put hrel) hO3
 exact ⟨tm2, m2, n2, Z2, M3, tl2, L2, O2, op_run (o := ⟨some d, .call f es, none, false⟩) rfl (.inr ⟨f, _, rfl, hb⟩) hb2, hE.trans he2, r⟩
end
end Go.Proofs.Ytdialnejieoelaa.AL
