/- Steps beside arrays that are kept out of sight: calls, and an array of our own that goes out of sight. -/
import Derived.Test.YtdialnejieoelaaVE
namespace Go.Proofs.Ytdialnejieoelaa.AL
open Go
set_option linter.unusedVariables false
set_option linter.unusedSimpArgs false
def LB.ng : LB → Bool
 | .gone => false
 | _ => true
theorem retX_leaf {r res post e tl L OL v u L1} (K : List Nat) (D : Mem) (he : e = .normal ∨ e = .ret) (h1 : retV tl L res = some v) (h2 : V.ren (posN (List.range r ++ K)) 6 v = some u) (h3 : mapO (fun i => L[i]?) (List.range r ++ K) = some L1) (hr : V.refs 6 u = true) (hng : L.all LB.ng = true) (h5 : (List.range r ++ K).Nodup)
 (hD : D = M0 ∨ ∃ j : Nat, OL[j]? = some D) (hw : ∀ lb, lb ∈ L1 → lb.wordsR) (h : post u L1 D) : RetX r res post e tl L OL ∧ ∀ lb, lb ∈ L → lb ≠ .gone :=
 ⟨⟨he, v, u, L1, K, D, h1, h2, h3, hr, hw, h5, hD, h⟩, fun lb hlb e => by
   have := List.all_eq_true.1 hng lb hlb
   rw [e] at this; cases this⟩
theorem gx_in {G f body res L0 vargs post} (hG : G f = some ⟨body, res⟩) (h : XC L0.length G body (fun e tl L OL => RetX L0.length res post e tl L OL ∧ ∀ lb, lb ∈ L → lb ≠ .gone) [] (tlOf 0 vargs) L0) : GX G f L0 M0 vargs post := gx_core [] (.inl ⟨rfl, rfl⟩) hG h
theorem gx_in1 {G f body res L0 O0 vargs post} (hG : G f = some ⟨body, res⟩) (h : XC L0.length G body (fun e tl L OL => RetX L0.length res post e tl L OL ∧ ∀ lb, lb ∈ L → lb ≠ .gone) [O0] (tlOf 0 vargs) L0) : GX G f L0 O0 vargs post := gx_core [O0] (.inr rfl) hG h
section
variable {N : Nat} {G : Prg} {tl : Tl} {L : List LB} {OL : Ob} {K : Tl → List LB → Ob → Prop} {l : List IOp} {q : Bool} {d : Nat}
theorem x_callstep {o : O} {f : Nat} {post : V → Prop} (k : ∀ u, post u → XO N G l K OL ((d, u) :: tl) L)
 (h : ∀ (N' : Nat) (c : Cx N') Z M tm m n, StM c Z M L m n → Slots M Z tl tm → (∀ (i : Nat) D, OL[i]? = some D → sub D m) → ∃ args, o.callee tm = some (f, args) ∧ ∃ v m1 n1 M2 u, Big G (if q = true then n else c.bs) (.call f args) m n (.ret v) m1 n1 ∧ ExtV Z M Z M2 ∧ StM c Z M2 L m1 n1 ∧ RL M2 Z u v ∧ post u) :
 XO N G (⟨some d, o, none, q⟩ :: l) K OL tl L := by
 intro c Z M tm m n hM hS hO
 obtain ⟨N', c', hb', hM', back⟩ := restart hM hO
 obtain ⟨args, hc, v, m1, n1, M2, u, hb, he, hM2, hr, hp⟩ := h _ c' Z M tm m n hM' hS fun i D hD a b hab => (hO.pt i D a b hD hab).1
 obtain ⟨g1, g2⟩ := back _ _ _ _ _ he hM2
 rw [hb'] at hb
 obtain ⟨tm2, m2, n2, Z2, M3, tl2, L2, O2, hb2, he2, r⟩ := k u hp c Z M2 (upd tm d v) m1 n1 g1 ((hS.mono he).put hr) g2
 exact ⟨tm2, m2, n2, Z2, M3, tl2, L2, O2, op_run (o := ⟨some d, o, none, q⟩) rfl (.inr ⟨f, args, hc, hb⟩) hb2, he.trans he2, r⟩
theorem x_call {f es us u} (ha : evEs tl es = some us) (hz : us.all (V.fzV 6) = true) (hc : CV G f us (fun v => v = u)) (k : XO N G l K OL ((d, u) :: tl) L) : XO N G (⟨some d, .call f es, none, q⟩ :: l) K OL tl L :=
 x_callstep (post := fun v => v = u) (fun u' e => by cases e; exact k) fun N' c Z M tm m n hM hS _ => ⟨_, rfl, call_plain hM (evEs_rel hS ha) hz hc⟩
theorem x_callL {f es us us' p u} (ha : evEs tl es = some us) (hz : frs (fr L 6) us = some (us', p)) (ho : ∀ e, e ∈ p → e.1 = e.2) (hc : CV G f us' (fun v => v = u)) (hfl : V.flat 6 u = true) (k : XO N G l K OL ((d, u) :: tl) L) : XO N G (⟨some d, .call f es, none, q⟩ :: l) K OL tl L :=
 x_callstep (post := fun v => v = u) (fun u' e => by cases e; exact k) fun N' c Z M tm m n hM hS _ => ⟨_, rfl, call_local hM (evEs_rel hS ha) hz ho hc (fun u' e => by cases e; exact hfl)⟩
def Vew (OL : Ob) (us us' : List V) : Prop := ∀ M', (∀ (i : Nat) D, OL[i]? = some D → sub D M') → ∀ args, Pt (RF M') us args → Pt (RF M') us' args
theorem x_callR {f es us us1 us2 p u} (ha : evEs tl es = some us) (hz : frs (fr L 6) us = some (us1, p)) (ho : ∀ e, e ∈ p → e.1 = e.2) (hv : Vew OL us1 us2) (hc : CV G f us2 (fun v => v = u)) (hfl : V.flat 6 u = true) (k : XO N G l K OL ((d, u) :: tl) L) : XO N G (⟨some d, .call f es, none, q⟩ :: l) K OL tl L := by
 refine x_callstep (post := fun v => v = u) (fun u' e => by cases e; exact k) fun N' c Z M tm m n hM hS hD => ⟨_, rfl, ?_⟩
 have hp : Pt (RF m) us1 (es.map (·.ev tm)) := frs_rel (R := RL M Z) (fr_rel hM hM.subM (fun _ _ _ _ => rfl) 6) hz ho (evEs_rel hS ha)
 have hbs : (if q = true then n else c.bs) ≤ n := by
  have h1 := hM.hbs; have h2 := hM.hn
  split <;> omega
 obtain ⟨v, m1, n1, hb, u', M1, g1, rfl, g3, g4, g5⟩ := hc.run _ _ m n m hM.fresh hbs (sub_refl _) (hv m hD _ hp)
 obtain ⟨hn, hf⟩ := hb.fresh hM.fresh
 obtain ⟨M2, k1, k2, k3⟩ := call_after (M1 := fun _ => none) hM hn hf g3 hb.dom (fun b x h => by cases h) (fun b x h => by cases h)
 exact ⟨v, m1, n1, M2, u', hb, k2, k3, .fz (V.flat_rel g1 hfl), rfl⟩
theorem x_callG {f es us vargs L0} {post : V → List LB → Prop} (ρ : List Nat) (ha : evEs tl es = some us) (hr : rens (V.ren (posN ρ) 6) us = some vargs) (hL0 : mapO (fun i => L[i]?) ρ = some L0) (hfz : L0.all LB.froz = true) (hnd : ρ.Nodup) (hq : q = false ∨ ρ = [])
 (hc : GV G f L0 vargs post) (k : ∀ u L1, post u L1 → ∃ L' u', mergeG L L1 ρ = some L' ∧ V.ren (backN ρ L.length) 6 u = some u' ∧ XO N G l K OL ((d, u') :: tl) L') : XO N G (⟨some d, .call f es, none, q⟩ :: l) K OL tl L := by
 intro c Z M tm m n hM hS hO
 obtain ⟨N', c', hb', hM', back⟩ := restart hM hO
 obtain ⟨v, m1, n1, Z', M1, u', L', hb, hE, hM1, hrel, k'⟩ := callG_core (R := fun u' L' => XO N G l K OL ((d, u') :: tl) L') (q := q) ρ ha hr hL0 hfz hnd hq hc k hM' hS
 obtain ⟨g1, g2⟩ := back _ _ _ _ _ hE hM1
 rw [hb'] at hb
 obtain ⟨tm2, m2, n2, Z2, M3, tl2, L2, O2, hb2, he2, r⟩ := k' c Z' M1 (upd tm d v) m1 n1 g1 ((hS.mono hE).put hrel) g2
 exact ⟨tm2, m2, n2, Z2, M3, tl2, L2, O2, op_run (o := ⟨some d, .call f es, none, q⟩) rfl (.inr ⟨f, _, rfl, hb⟩) hb2, hE.trans he2, r⟩
theorem x_cut {x : E} {lo hi : Option E} {b len k : Nat} {rows : List (List V)} {h lw : Int} {L1 L2 : List LB} {b2 : Nat} (hx : evE tl x = some (.ls b len)) (hb : L[b]? = some (.arr k rows)) (hl : rows.length = len)
 (hh : bndV tl (rows.length : Nat) hi = some h) (hlo : bndV tl (0 : Nat) lo = some lw) (hbd : 0 ≤ lw ∧ lw ≤ h ∧ h ≤ rows.length)
 (hL1 : setN L b .dead = some L1) (hL2 : pushN L1 (.arr k ((rows.take h.toNat).drop lw.toNat)) = some (L2, b2))
 (kk : XO N G l K OL ((d, .ls b2 ((rows.take h.toNat).drop lw.toNat).length) :: tl) L2) : XO N G (⟨some d, .sl k x lo hi none, none, false⟩ :: l) K OL tl L := by
 intro c Z M tm m n hM hS hO
 obtain ⟨N', c', hb', hM', back⟩ := restart hM hO
 obtain ⟨v, m2, n2, Z2, g1, g2, g3, g4⟩ := cut_core (G := G) (d := d) hx hb hl hh hlo hbd hL1 hL2 hM' hS
 obtain ⟨k1, k2⟩ := back _ _ _ _ _ g2 g3
 rw [hb'] at g1
 obtain ⟨tm3, m3, n3, Z3, M3, tl3, L3, O3, hb2, he2, r⟩ := kk c Z2 M (upd tm d v) m2 n2 k1 ((hS.mono g2).put g4) k2
 exact ⟨tm3, m3, n3, Z3, M3, tl3, L3, O3, g1 _ _ _ _ hb2, g2.trans he2, r⟩
theorem OBs.push0 {c : Cx N} {Z M m n} (h : OBs c Z M m n OL) : OBs c Z M m n (OL ++ [M0]) := by
 have hget : ∀ (i : Nat) D a b, (OL ++ [M0])[i]? = some D → D a = some b → OL[i]? = some D := by
  intro i D a b h1 h2
  rw [List.getElem?_append] at h1
  split at h1
  · exact h1
  · rw [List.getElem?_singleton] at h1
    split at h1
    · cases h1; cases h2
    · cases h1
 exact ⟨fun i D a b h1 h2 => h.pt i D a b (hget i D a b h1 h2) h2, h.low, fun i j D E a b b' h1 h2 h3 h4 => h.dis i j D E a b b' (hget i D a b h1 h3) (hget j E a b' h2 h4) h3 h4⟩
theorem x_newC {c : C} {Q : Ex → Tl → List LB → Ob → Prop} (k : XC N G c Q (OL ++ [M0]) tl L) : XC N G c Q OL tl L :=
 fun cx Z M tm m n hM hS hO => k cx Z M tm m n hM hS hO.push0
structure Leaf (E : Mem) (x : Value) (k : Nat) (rows : List (List V)) : Prop where
 h : ∃ oa : Option Nat, x = slOf oa rows.length ∧ (oa = none → rows = [] ∧ E = M0) ∧ ∀ a, oa = some a → ∃ cells, E = upd M0 a (some ⟨cells, true, k⟩) ∧ ∀ M Z, LB.rel M Z (.arr k rows) cells
def absV (b n : Nat) (x : Value) : Nat → V → Option (V × List (Nat × Nat))
 | 0, _ => none
 | fu + 1, v => match v with
   | .ls b' len => match Nat.beq b' b with
     | true => some (.raw x, [(len, n)])
     | false => some (.ls b' len, [])
   | .agg cs => match frs (absV b n x fu) cs with
     | some (us, p) => some (.agg us, p)
     | none => none
   | .tup cs => match frs (absV b n x fu) cs with
     | some (us, p) => some (.tup us, p)
     | none => none
   | v => some (v, [])
theorem absV_rel {M : Mem} {Z : Zl} {b n k : Nat} {x : Value} {oa : Option Nat} {rows : List (List V)} (hz : Z[b]? = some (oa, .arr k rows)) (hn : rows.length = n) (hx : x = slOf oa n) : ∀ fu v u p y, absV b n x fu v = some (u, p) → (∀ e, e ∈ p → e.1 = e.2) → RL M Z v y → RL M Z u y
 | 0, v, u, p, y, h, _, _ => by cases h
 | fu + 1, v, u, p, y, h, ho, hr => by
   have ih := absV_rel (M := M) hz hn hx fu
   cases v with
   | ls b' len =>
     simp only [absV] at h
     split at h
     · rename_i e
       cases h
       have e := Nat.eq_of_beq_eq_true e
       subst e
       have hl : len = n := ho (len, n) (by simp)
       have := hr.ls_inv hz (by omega)
       rw [this, hx, hl]
       exact .fz (.raw (by unfold slOf; split <;> rfl))
     · cases h; exact hr
   | agg cs =>
     simp only [absV] at h
     split at h
     · rename_i us p1 e1
       cases h
       obtain ⟨vs, rfl, hl, hh⟩ := hr.agg_inv
       have := frs_rel (R := RL M Z) (R' := RL M Z) ih e1 ho (l' := vs.toList) ⟨by simpa using hl, fun i x y h1 h2 => hh i x y h1 (by simpa using h2)⟩
       exact .agg (by simpa using this.1) fun i x y h1 h2 => this.2 i x y h1 (by simpa using h2)
     · cases h
   | tup cs =>
     simp only [absV] at h
     split at h
     · rename_i us p1 e1
       cases h
       obtain ⟨vs, rfl, hl, hh⟩ := hr.tup_inv
       have := frs_rel (R := RL M Z) (R' := RL M Z) ih e1 ho (l' := vs.toList) ⟨by simpa using hl, fun i x y h1 h2 => hh i x y h1 (by simpa using h2)⟩
       exact .tup (by simpa using this.1) fun i x y h1 h2 => this.2 i x y h1 (by simpa using h2)
     · cases h
   | _ => cases h; exact hr
theorem drop_core {c : Cx N} {Z M m n} (hM : StM c Z M L m n) {b k : Nat} {oa : Option Nat} {rows : List (List V)} (hz : Z[b]? = some (oa, .arr k rows)) :
 ExtV Z M (Z.set b (none, .dead)) M ∧ StM c (Z.set b (none, .dead)) M (L.set b .dead) m n ∧ ∀ (i : Nat) p, (Z.set b ((none : Option Nat), LB.dead))[i]? = some p → (i ≠ b ∧ Z[i]? = some p) ∨ (i = b ∧ p = (none, .dead)) := by
 have hlt : b < Z.length := (List.getElem?_eq_some_iff.1 hz).1
 have hget : ∀ (i : Nat) p, (Z.set b ((none : Option Nat), LB.dead))[i]? = some p → (i ≠ b ∧ Z[i]? = some p) ∨ (i = b ∧ p = (none, .dead)) := by
  intro i p hp
  rw [List.getElem?_set] at hp
  by_cases e : b = i
  · subst e; rw [if_pos rfl, if_pos hlt] at hp; cases hp; exact .inr ⟨rfl, rfl⟩
  · rw [if_neg e] at hp; exact .inl ⟨fun e' => e e'.symm, hp⟩
 have hext : ExtV Z M (Z.set b ((none : Option Nat), LB.dead)) M := ⟨sub_refl _, fun i p hp => by
  by_cases e : b = i
  · subst e; rw [hz] at hp; cases hp
    exact ⟨(none, .dead), by rw [List.getElem?_set, if_pos rfl, if_pos hlt], Or.inr (Eq.refl LB.dead)⟩
  · exact ⟨p, by rw [List.getElem?_set, if_neg e]; exact hp, grow.refl p⟩⟩
 refine ⟨hext, ⟨hM.hbs, hM.hn, hM.fresh, by simp [List.map_set, hM.hL], fun b' y hb' => ?_, hM.h0, hM.f0, hM.hma, hM.hbr, fun i a' lb hi => ?_, fun i lb hi => ?_, fun i j a' l1 l2 hi hj => ?_, fun i a' lb hi => ?_⟩, hget⟩
 · obtain ⟨g1, g2, g3⟩ := hM.hM b' y hb'
   refine ⟨g1, g2, fun i lb e => ?_⟩
   rcases hget i _ e with ⟨_, e1⟩ | ⟨_, e1⟩
   · exact g3 i lb e1
   · cases e1
 · rcases hget i _ hi with ⟨_, e1⟩ | ⟨_, e1⟩
   · obtain ⟨g1, g2, g3⟩ := hM.cell i a' lb e1
     exact ⟨g1, g2, g3.mono hext rfl⟩
   · cases e1
 · rcases hget i _ hi with ⟨_, e1⟩ | ⟨_, e1⟩
   · exact hM.nl i lb e1
   · cases e1; exact .inl rfl
 · rcases hget i _ hi with ⟨_, e1⟩ | ⟨_, e1⟩ <;> rcases hget j _ hj with ⟨_, e2⟩ | ⟨_, e2⟩
   · exact hM.inj i j a' l1 l2 e1 e2
   · cases e2
   · cases e1
   · cases e1
 · rcases hget i _ hi with ⟨_, e1⟩ | ⟨_, e1⟩
   · exact hM.lo i a' lb e1
   · cases e1
theorem x_abs (b i j : Nat) {k : Nat} {rows : List (List V)} {v : V} {vf : Value → V} {p : List (Nat × Nat)} {L1 : List LB} {D : Mem} (hb : L[b]? = some (.arr k rows)) (hN : N ≤ b) (hi : look tl i = some v) (hv : ∀ x, absV b rows.length x 6 v = some (vf x, p)) (ho : ∀ e, e ∈ p → e.1 = e.2) (hw : (LB.arr k rows).wordsR) (hD : OL[j]? = some D) (hL1 : setN L b .dead = some L1)
 (kk : ∀ x E, Leaf E x k rows → (∀ (i : Nat) D a e, OL[i]? = some D → E a = some e → D a = none) → XO N G l K (OL.set j (mrg E D)) ((i, vf x) :: tl) L1) : XO N G l K OL tl L := by
 intro c Z M tm m n hM hS hO
 obtain ⟨_, rfl⟩ := setN_inv hL1
 obtain ⟨len, hl⟩ : ∃ len, rows.length = len := ⟨_, rfl⟩
 rw [hl] at hv
 obtain ⟨oa, hz⟩ := hM.getZ hb
 obtain ⟨hE, hM1, hget⟩ := drop_core hM hz
 have hjl : j < OL.length := (List.getElem?_eq_some_iff.1 hD).1
 obtain ⟨E, hEl, hEin⟩ : ∃ E, Leaf E (slOf oa len) k rows ∧ ∀ a e, E a = some e → oa = some a ∧ m a = some e ∧ e.own = true := by
  cases oa with
  | none =>
    obtain ⟨k', e⟩ := hM.nil _ _ hz
    cases e
    exact ⟨M0, ⟨none, by rw [hl], fun _ => ⟨rfl, rfl⟩, fun a e => by cases e⟩, fun a e h => by cases h⟩
  | some a =>
    obtain ⟨_, _, cells, h1, h2⟩ := hM.cell _ _ _ hz
    refine ⟨upd M0 a (some ⟨cells, true, k⟩), ⟨some a, by rw [hl], fun e => by (cases e), fun a' e => by cases e; exact ⟨cells, rfl, fun M' Z' => LB.wordsR_rel h2 hw⟩⟩, fun a' e h => ?_⟩
    simp only [upd] at h
    split at h
    · rename_i e'; subst e'; cases h; exact ⟨rfl, h1, rfl⟩
    · cases h
 have hdis : ∀ (i : Nat) D a e, OL[i]? = some D → E a = some e → D a = none := by
  intro i D a e h1 h2
  obtain ⟨g1, _, _⟩ := hEin a e h2
  cases e' : D a with
  | none => rfl
  | some y =>
    subst g1
    exact ((hO.pt i D a y h1 e').2.2.2.2.2.1 _ _ hz).elim
 have hset : ∀ (i : Nat) F, (OL.set j (mrg E D))[i]? = some F → (i = j ∧ F = mrg E D) ∨ (i ≠ j ∧ OL[i]? = some F) := by
  intro i F h
  rw [List.getElem?_set] at h
  by_cases e : j = i
  · rw [if_pos e, if_pos hjl] at h; cases h; exact .inl ⟨e.symm, rfl⟩
  · rw [if_neg e] at h; exact .inr ⟨fun e' => e e'.symm, h⟩
 have hmr : ∀ a y, mrg E D a = some y → E a = some y ∨ (E a = none ∧ D a = some y) := by
  intro a y h
  unfold mrg at h
  split at h
  · rename_i x hx; cases h; exact .inl hx
  · rename_i hx; exact .inr ⟨hx, h⟩
 have hO1 : OBs c (Z.set b (none, .dead)) M m n (OL.set j (mrg E D)) := by
  have old : ∀ (i : Nat) D a y, OL[i]? = some D → D a = some y → m a = some y ∧ y.own = true ∧ c.okA a ∧ a < n ∧ M a = none ∧ (∀ (j : Nat) lb, (Z.set b ((none : Option Nat), LB.dead))[j]? ≠ some (some a, lb)) ∧ ∀ (j : Nat), c.ad[j]? ≠ some (some a) := by
   intro i D a y h1 h2
   obtain ⟨g1, g2, g3, g4, g5, g6, g7⟩ := hO.pt i D a y h1 h2
   refine ⟨g1, g2, g3, g4, g5, fun j' lb e => ?_, g7⟩
   rcases hget j' _ e with ⟨_, e1⟩ | ⟨_, e1⟩
   · exact g6 _ _ e1
   · cases e1
  refine ⟨fun i F a y h1 h2 => ?_, hO.low, fun i i' F F' a y y' h1 h2 h3 h4 => ?_⟩
  · rcases hset i F h1 with ⟨_, rfl⟩ | ⟨_, h1⟩
    · rcases hmr a y h2 with h2 | ⟨_, h2⟩
      · obtain ⟨g1, g2, g3⟩ := hEin a y h2
        subst g1
        obtain ⟨q1, q2, _⟩ := hM.cell _ _ _ hz
        refine ⟨g2, g3, q1, q2, ?_, fun j' lb e => ?_, fun j' e => ?_⟩
        · cases e : M a with
          | none => rfl
          | some w => exact ((hM.hM a w e).2.2 _ _ hz).elim
        · rcases hget j' _ e with ⟨hne, e1⟩ | ⟨_, e1⟩
          · exact hne (hM.inj _ _ _ _ _ e1 hz)
          · cases e1
        · have h5 := hO.low j' a e
          rcases hM.lo b a _ hz with h6 | h6
          · omega
          · have h7 := c.hN
            have h8 := (List.getElem?_eq_some_iff.1 h6).1
            omega
      · exact old j D a y hD h2
    · exact old i F a y h1 h2
  · rcases hset i F h1 with ⟨e1, e2⟩ | ⟨q1, q2⟩ <;> rcases hset i' F' h2 with ⟨e3, e4⟩ | ⟨q3, q4⟩
    · rw [e1, e3]
    · rw [e2] at h3
      rcases hmr a y h3 with h3 | ⟨_, h3⟩
      · rw [hdis _ _ _ _ q4 h3] at h4; cases h4
      · exact absurd (hO.dis _ _ _ _ _ _ _ hD q4 h3 h4).symm q3
    · rw [e4] at h4
      rcases hmr a y' h4 with h4 | ⟨_, h4⟩
      · rw [hdis _ _ _ _ q2 h4] at h3; cases h3
      · exact absurd (hO.dis _ _ _ _ _ _ _ q2 hD h3 h4) q1
    · exact hO.dis _ _ _ _ _ _ _ q2 q4 h3 h4
 have hr : RL M Z (vf (slOf oa len)) (tm i) := absV_rel hz hl rfl 6 v _ p _ (hv _) ho (hS i v hi)
 have hS1 : Slots M (Z.set b (none, .dead)) ((i, vf (slOf oa len)) :: tl) tm := fun t w hw => by
  simp only [look] at hw
  cases e : Nat.beq t i with
  | true => rw [e] at hw; cases hw; rw [Nat.eq_of_beq_eq_true e]; exact hr.mono hE
  | false => rw [e] at hw; exact (hS t w hw).mono hE
 obtain ⟨tm2, m2, n2, Z3, M2, tl2, L3, O3, hb2, he2, r⟩ := kk (slOf oa len) E hEl hdis c _ M tm m n hM1 hS1 hO1
 exact ⟨tm2, m2, n2, Z3, M2, tl2, L3, O3, hb2, hE.trans he2, r⟩
end
end Go.Proofs.Ytdialnejieoelaa.AL
