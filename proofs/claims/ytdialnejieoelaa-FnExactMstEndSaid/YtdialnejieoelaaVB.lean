/- Code over plain data: arrays of our own that slices in rows lead to, kept out of sight. -/
import Derived.Test.YtdialnejieoelaaVA
namespace Go.Proofs.Ytdialnejieoelaa.AL
open Go
set_option linter.unusedVariables false
set_option linter.unusedSimpArgs false
abbrev Ob := List Mem
structure OBs {N : Nat} (c : Cx N) (Z : Zl) (M m : Mem) (n : Nat) (OL : Ob) : Prop where
 pt : ∀ (i : Nat) D a b, OL[i]? = some D → D a = some b → m a = some b ∧ b.own = true ∧ c.okA a ∧ a < n ∧ M a = none ∧ (∀ (j : Nat) lb, Z[j]? ≠ some (some a, lb)) ∧ ∀ (j : Nat), c.ad[j]? ≠ some (some a)
 low : ∀ (i : Nat) a, c.ad[i]? = some (some a) → a < c.n0
 dis : ∀ (i j : Nat) D E a b b', OL[i]? = some D → OL[j]? = some E → D a = some b → E a = some b' → i = j
theorem OBs.nil {N : Nat} {c : Cx N} {Z M m n} (h : ∀ (i : Nat) a, c.ad[i]? = some (some a) → a < c.n0) : OBs c Z M m n [] := ⟨fun i D a b h => by simp at h, h, fun i j D E a b b' h => by simp at h⟩
theorem restart0 {N : Nat} {c : Cx N} {Z M L m n OL} (hM : StM c Z M L m n) (hO : OBs c Z M m n OL) : ∃ (c' : Cx Z.length), c'.bs = c.bs ∧ StM c' Z M L m n ∧
 ∀ Z1 M1 L1 m1 n1, ExtV Z M Z1 M1 → StM c' Z1 M1 L1 m1 n1 → StM c Z1 M1 L1 m1 n1 ∧ OBs c Z1 M1 m1 n1 OL := by
 have hmem : ∀ a, a ∈ adrs Z → ∃ (i : Nat) (lb : LB), Z[i]? = some (some a, lb) := fun a ha => adrs_mem.1 ha
 obtain ⟨m0', h01, h02, h03⟩ : ∃ m0' : Mem, (∀ (i : Nat) D a b, OL[i]? = some D → D a = some b → m0' a = some b) ∧ (∀ a b, c.m0 a = some b → m0' a = some b) ∧ ∀ a b, m0' a = some b → (∃ (i : Nat) (D : Mem), OL[i]? = some D ∧ D a = some b) ∨ c.m0 a = some b := by
  classical
  refine ⟨fun a => if h : ∃ (i : Nat) (D : Mem) (b : Blk), OL[i]? = some D ∧ D a = some b then some (Classical.choose (Classical.choose_spec (Classical.choose_spec h))) else c.m0 a, fun i D a b h1 h2 => ?_, fun a b h1 => ?_, fun a b h1 => ?_⟩
  · have h : ∃ (i : Nat) (D : Mem) (b : Blk), OL[i]? = some D ∧ D a = some b := ⟨i, D, b, h1, h2⟩
    simp only [dif_pos h]
    have hs := Classical.choose_spec (Classical.choose_spec (Classical.choose_spec h))
    have e1 := (hO.pt _ _ _ _ hs.1 hs.2).1
    rw [(hO.pt _ _ _ _ h1 h2).1] at e1
    exact e1.symm
  · have h : ¬ ∃ (i : Nat) (D : Mem) (b : Blk), OL[i]? = some D ∧ D a = some b := by
     rintro ⟨i, D, b', h3, h4⟩
     have := hM.m0A (hO.pt _ _ _ _ h3 h4).2.2.1
     rw [this] at h1; cases h1
    simp only [dif_neg h]; exact h1
  · simp only at h1
    split at h1
    · rename_i h
      have hs := Classical.choose_spec (Classical.choose_spec (Classical.choose_spec h))
      cases h1
      exact .inl ⟨_, _, hs.1, hs.2⟩
    · exact .inr h1
 have hcn := hM.hn
 refine ⟨⟨m0', M, n, c.bs, adrs Z, Z.map (·.1), by simp⟩, rfl, ⟨Nat.le_trans hM.hbs hM.hn, Nat.le_refl _, hM.fresh, hM.hL, fun b x hb => ?_, fun a b h => ?_, fun b hb => ?_, sub_refl _, fun a ha => ?_, fun i a lb hi => ?_, hM.nl, hM.inj, fun i a lb hi => ?_⟩, fun Z1 M1 L1 m1 n1 he h1 => ?_⟩
 · obtain ⟨g1, g2, g3⟩ := hM.hM b x hb
   exact ⟨g1, .inl hb, g3⟩
 · rcases h03 a b h with ⟨i, D, g1, g2⟩ | g
   · exact (hO.pt _ _ _ _ g1 g2).1
   · exact hM.h0 _ _ g
 · cases e : m0' b with
   | none => exact e
   | some y =>
     rcases h03 b y e with ⟨i, D, g1, g2⟩ | g
     · have hb : n ≤ b := hb
       have := (hO.pt _ _ _ _ g1 g2).2.2.2.1; omega
     · have hb : n ≤ b := hb
       have := hM.f0 b (by omega); rw [this] at g; cases g
 · obtain ⟨i, lb, hi⟩ := hmem a ha
   obtain ⟨g1, g2, _⟩ := hM.cell i a lb hi
   refine ⟨hM.bsA g1, ?_, g2⟩
   cases e : m0' a with
   | none => exact e
   | some y =>
     rcases h03 a y e with ⟨i', D, g3, g4⟩ | g
     · exact ((hO.pt _ _ _ _ g3 g4).2.2.2.2.2.1 _ _ hi).elim
     · rw [hM.m0A g1] at g; cases g
 · obtain ⟨g1, g2, g3⟩ := hM.cell i a lb hi
   exact ⟨.inr (adrs_mem.2 ⟨i, lb, hi⟩), g2, g3⟩
 · exact .inr (by show (Z.map (·.1))[i]? = some (some a); rw [List.getElem?_map, hi]; rfl)
 · have hok : ∀ a, (⟨m0', M, n, c.bs, adrs Z, Z.map (·.1), by simp⟩ : Cx Z.length).okA a → c.okA a := by
    intro a ha
    rcases ha with ha | ha
    · have ha : n ≤ a := ha
      exact .inl (by omega)
    · obtain ⟨i, lb, hi⟩ := hmem a ha
      exact (hM.cell i a lb hi).1
   have hn1 : n ≤ n1 := h1.hn
   refine ⟨⟨hM.hbs, by omega, h1.fresh, h1.hL, fun b x hb => ?_, fun a b h => h1.h0 a b (h02 a b h), hM.f0, sub_trans hM.hma he.hM, hM.hbr, fun i a lb hi => ?_, h1.nl, h1.inj, fun i a lb hi => ?_⟩, fun i D a b h2 h3 => ?_, hO.low, hO.dis⟩
   · obtain ⟨g1, g2, g3⟩ := h1.hM b x hb
     refine ⟨g1, ?_, g3⟩
     rcases g2 with g2 | g2
     · have g2 : M b = some x := g2
       exact (hM.hM b x g2).2.1
     · have g2 : n ≤ b := g2
       exact .inr (by omega)
   · obtain ⟨g1, g2, g3⟩ := h1.cell i a lb hi
     exact ⟨hok a g1, g2, g3⟩
   · rcases h1.lo i a lb hi with g | g
     · have g : n ≤ a := g
       exact .inl (by omega)
     · have g : (Z.map (·.1))[i]? = some (some a) := g
       rw [List.getElem?_map] at g
       cases e : Z[i]? with
       | none => rw [e] at g; cases g
       | some p =>
         rw [e] at g
         obtain ⟨a0, lb0⟩ := p
         simp only [Option.map_some, Option.some.injEq] at g
         subst g
         exact hM.lo i a lb0 e
   · obtain ⟨g1, g2, g3, g4, g5, g6, g7⟩ := hO.pt i D a b h2 h3
     refine ⟨h1.h0 a b (h01 i D a b h2 h3), g2, g3, by omega, ?_, fun j lb hj => ?_, g7⟩
     · cases e : M1 a with
       | none => rfl
       | some x =>
         rcases (h1.hM a x e).2.1 with g | g
         · have g : M a = some x := g
           rw [g5] at g; cases g
         · have g : n ≤ a := g
           omega
     · rcases (h1.cell j a lb hj).1 with g | g
       · have g : n ≤ a := g
         omega
       · obtain ⟨i', lb', hi'⟩ := hmem a g
         exact g6 _ _ hi'
theorem restart {N : Nat} {c : Cx N} {Z M L m n OL} (hM : StM c Z M L m n) (hO : OBs c Z M m n OL) : ∃ (N' : Nat) (c' : Cx N'), c'.bs = c.bs ∧ StM c' Z M L m n ∧
 ∀ Z1 M1 L1 m1 n1, ExtV Z M Z1 M1 → StM c' Z1 M1 L1 m1 n1 → StM c Z1 M1 L1 m1 n1 ∧ OBs c Z1 M1 m1 n1 OL := let ⟨c', h⟩ := restart0 hM hO; ⟨Z.length, c', h⟩
def XO (N : Nat) (G : Prg) (l : List IOp) (K : Tl → List LB → Ob → Prop) (OL : Ob) (tl : Tl) (L : List LB) : Prop :=
 ∀ (c : Cx N) Z M tm m n, StM c Z M L m n → Slots M Z tl tm → OBs c Z M m n OL → ∃ tm1 m1 n1 Z1 M1 tl1 L1 O1, Big G c.bs (.ops l tm) m n (.exit .normal tm1) m1 n1 ∧ ExtN N Z M Z1 M1 ∧ StM c Z1 M1 L1 m1 n1 ∧ Slots M1 Z1 tl1 tm1 ∧ OBs c Z1 M1 m1 n1 O1 ∧ K tl1 L1 O1
def XC (N : Nat) (G : Prg) (c : C) (Q : Ex → Tl → List LB → Ob → Prop) (OL : Ob) (tl : Tl) (L : List LB) : Prop :=
 ∀ (cx : Cx N) Z M tm m n, StM cx Z M L m n → Slots M Z tl tm → OBs cx Z M m n OL → ∃ e tm1 m1 n1 Z1 M1 tl1 L1 O1, Big G cx.bs (.code c tm) m n (.exit e tm1) m1 n1 ∧ ExtN N Z M Z1 M1 ∧ StM cx Z1 M1 L1 m1 n1 ∧ Slots M1 Z1 tl1 tm1 ∧ OBs cx Z1 M1 m1 n1 O1 ∧ Q e tl1 L1 O1
section
variable {N : Nat} {G : Prg} {tl : Tl} {L : List LB} {OL : Ob} {K : Tl → List LB → Ob → Prop}
theorem Ew (h : K tl L OL) : XO N G [] K OL tl L :=
 fun c Z M tm m n hM hS hO => ⟨tm, m, n, Z, M, tl, L, OL, .opsNil, ExtN.refl _ _ _, hM, hS, hO, h⟩
theorem Ei {d o q l v L1} (h : OpV G q o tl L (some v) L1) (k : XO N G l K OL ((d, v) :: tl) L1) : XO N G (⟨some d, o, none, q⟩ :: l) K OL tl L := by
 intro c Z M tm m n hM hS hO
 obtain ⟨N', c', hb, hM', back⟩ := restart hM hO
 obtain ⟨v', m1, n1, Z1, M1, h1, he, hM1, hr⟩ := h _ c' Z M tm m n hM' hS
 obtain ⟨g1, g2⟩ := back _ _ _ _ _ he hM1
 rw [hb] at h1
 obtain ⟨tm2, m2, n2, Z2, M2, tl2, L2, O2, hbig, he2, r⟩ := k c Z1 M1 (upd tm d v') m1 n1 g1 ((hS.mono he).put (hr _ rfl)) g2
 exact ⟨tm2, m2, n2, Z2, M2, tl2, L2, O2, op_run rfl h1 hbig, he.trans he2, r⟩
theorem x_opN {o q l v L1} (h : OpV G q o tl L v L1) (k : XO N G l K OL tl L1) : XO N G (⟨none, o, none, q⟩ :: l) K OL tl L := by
 intro c Z M tm m n hM hS hO
 obtain ⟨N', c', hb, hM', back⟩ := restart hM hO
 obtain ⟨v', m1, n1, Z1, M1, h1, he, hM1, hr⟩ := h _ c' Z M tm m n hM' hS
 obtain ⟨g1, g2⟩ := back _ _ _ _ _ he hM1
 rw [hb] at h1
 obtain ⟨tm2, m2, n2, Z2, M2, tl2, L2, O2, hbig, he2, r⟩ := k c Z1 M1 tm m1 n1 g1 (hS.mono he) g2
 exact ⟨tm2, m2, n2, Z2, M2, tl2, L2, O2, op_run rfl h1 hbig, he.trans he2, r⟩
theorem x_gT {d o q l g b} (hg : look tl g = some (.w (.bool b))) (k : XO N G (⟨d, o, none, q⟩ :: l) K OL tl L) : XO N G (⟨d, o, some (g, b), q⟩ :: l) K OL tl L := by
 intro c Z M tm m n hM hS hO
 obtain ⟨tm2, m2, n2, Z2, M2, tl2, L2, O2, hb, r⟩ := k c Z M tm m n hM hS hO
 exact ⟨tm2, m2, n2, Z2, M2, tl2, L2, O2, unguard (hS _ _ hg).w_inv.1 hb, r⟩
theorem x_gF {d o q l g b} (hg : look tl g = some (.w (.bool !b))) (k : XO N G l K OL ((d, .tup []) :: tl) L) : XO N G (⟨some d, o, some (g, b), q⟩ :: l) K OL tl L := by
 intro c Z M tm m n hM hS hO
 obtain ⟨tm2, m2, n2, Z2, M2, tl2, L2, O2, hb, r⟩ := k c Z M (upd tm d nov) m n hM (hS.put nov_rel) hO
 exact ⟨tm2, m2, n2, Z2, M2, tl2, L2, O2, .opsSkip rfl (hS _ _ hg).w_inv.1 (by cases b <;> simp) hb, r⟩
theorem slots_re {M Z tm i v} (hg : look tl i = some v) (hS : Slots M Z tl tm) : Slots M Z ((i, v) :: tl) tm := fun t u hu => by
 simp only [look] at hu
 cases e : Nat.beq t i with
 | true =>
   rw [e] at hu
   have := Nat.eq_of_beq_eq_true e
   simp only [cond_true, Option.some.injEq] at hu
   subst hu; subst this
   exact hS _ _ hg
 | false =>
   rw [e] at hu
   exact hS _ _ hu
theorem x_re {l i v} (hg : look tl i = some v) (k : XO N G l K OL ((i, v) :: tl) L) : XO N G l K OL tl L :=
 fun c Z M tm m n hM hS hO => k c Z M tm m n hM (slots_re hg hS) hO
theorem x_gB {d o q l g b c} (hg : look tl g = some (.w (.bool c))) (k1 : c = b → XO N G (⟨d, o, none, q⟩ :: l) K OL ((g, .w (.bool b)) :: tl) L)
 (k2 : c = !b → XO N G (⟨d, o, some (g, b), q⟩ :: l) K OL ((g, .w (.bool !b)) :: tl) L) : XO N G (⟨d, o, some (g, b), q⟩ :: l) K OL tl L := by
 by_cases h : c = b
 · subst h; exact x_gT hg (x_re hg (k1 rfl))
 · have : c = !b := by cases c <;> cases b <;> simp_all
   subst this; exact x_re hg (k2 rfl)
theorem x_gDF {d o q l g} {p : Prop} [Decidable p] (hg : look tl g = some (.w (.bool (decide p)))) (k1 : ¬ p → XO N G (⟨d, o, none, q⟩ :: l) K OL ((g, .w (.bool false)) :: tl) L)
 (k2 : p → XO N G (⟨d, o, some (g, false), q⟩ :: l) K OL ((g, .w (.bool true)) :: tl) L) : XO N G (⟨d, o, some (g, false), q⟩ :: l) K OL tl L :=
 x_gB hg (fun h => k1 (by simpa using h)) (fun h => k2 (by simpa using h))
theorem x_gNF {d o q l g t} (hg : look tl g = some (.w (.bool (!t)))) (k1 : t = true → XO N G (⟨d, o, none, q⟩ :: l) K OL ((g, .w (.bool false)) :: tl) L)
 (k2 : t = false → XO N G (⟨d, o, some (g, false), q⟩ :: l) K OL ((g, .w (.bool true)) :: tl) L) : XO N G (⟨d, o, some (g, false), q⟩ :: l) K OL tl L :=
 x_gB hg (fun h => k1 (by simpa using h)) (fun h => k2 (by simpa using h))
theorem x_gNDF {d o q l g} {p : Prop} [Decidable p] (hg : look tl g = some (.w (.bool (!decide p)))) (k1 : p → XO N G (⟨d, o, none, q⟩ :: l) K OL ((g, .w (.bool false)) :: tl) L)
 (k2 : ¬ p → XO N G (⟨d, o, some (g, false), q⟩ :: l) K OL ((g, .w (.bool true)) :: tl) L) : XO N G (⟨d, o, some (g, false), q⟩ :: l) K OL tl L :=
 x_gB hg (fun h => k1 (by simpa using h)) (fun h => k2 (by simpa using h))
theorem x_iaM {α : Type} {r : α → List V} {xs : List α} {x i k t j l d q} (hx : evE tl x = some (.sl k (xs.map r))) (hi : evE tl i = some (.w (.int t j))) (hb : 0 ≤ j ∧ j < xs.length)
 (h : ∀ y, xs[j.toNat]? = some y → XO N G l K OL ((d, .rp (r y) 0) :: tl) L) : XO N G (⟨some d, .ia k x i, none, q⟩ :: l) K OL tl L := by
 have hj : j.toNat < xs.length := by omega
 have hy : xs[j.toNat]? = some xs[j.toNat] := List.getElem?_eq_getElem hj
 exact Ei (o_ia (row := r xs[j.toNat]) hx hi (by simpa using hb) (by rw [List.getElem?_map, hy]; rfl)) (h _ hy)
variable {Q : Ex → Tl → List LB → Ob → Prop}
theorem Em (is : List Nat) {tl1 c} (h : keepI tl is = some tl1) (k : XC N G c Q OL tl1 L) : XC N G c Q OL tl L :=
 fun cx Z M tm m n hM hS hO => k cx Z M tm m n hM (fun t v hv => hS t v (keepI_rel h t v hv)) hO
theorem x_skip (h : Q .normal tl L OL) : XC N G .skip Q OL tl L := fun c Z M tm m n hM hS hO => ⟨_, _, _, _, Z, M, tl, L, OL, .skip, ExtN.refl _ _ _, hM, hS, hO, h⟩
theorem x_ret (h : Q .ret tl L OL) : XC N G .ret Q OL tl L := fun c Z M tm m n hM hS hO => ⟨_, _, _, _, Z, M, tl, L, OL, .ret, ExtN.refl _ _ _, hM, hS, hO, h⟩
theorem x_exit {i} (h : Q (.exit i) tl L OL) : XC N G (.exit i) Q OL tl L := fun c Z M tm m n hM hS hO => ⟨_, _, _, _, Z, M, tl, L, OL, .exit, ExtN.refl _ _ _, hM, hS, hO, h⟩
theorem x_rg {l} (h : XO N G l (Q .normal) OL tl L) : XC N G (.rg l) Q OL tl L := fun c Z M tm m n hM hS hO =>
 let ⟨tm1, m1, n1, Z1, M1, tl1, L1, O1, hb, r⟩ := h c Z M tm m n hM hS hO
 ⟨_, tm1, m1, n1, Z1, M1, tl1, L1, O1, .rg hb, r⟩
def seqX (N : Nat) (G : Prg) (b : C) (Q : Ex → Tl → List LB → Ob → Prop) : Ex → Tl → List LB → Ob → Prop := fun e tl L OL => match e with
 | .normal => XC N G b Q OL tl L
 | e => Q e tl L OL
def blkX (i : Nat) (Q : Ex → Tl → List LB → Ob → Prop) : Ex → Tl → List LB → Ob → Prop := fun e => Q (e.out i)
def loopX (R : Tl → List LB → Ob → Prop) (Q : Ex → Tl → List LB → Ob → Prop) : Ex → Tl → List LB → Ob → Prop := fun e tl L OL => match e with
 | .normal => R tl L OL
 | e => Q e tl L OL
theorem Et {b} (h : XC N G b Q OL tl L) : seqX N G b Q .normal tl L OL := h
theorem y_seqX {b i} (h : Q (.exit i) tl L OL) : seqX N G b Q (.exit i) tl L OL := h
theorem y_seqR {b} (h : Q .ret tl L OL) : seqX N G b Q .ret tl L OL := h
theorem y_blkN {i} (h : Q .normal tl L OL) : blkX i Q .normal tl L OL := h
theorem y_blkH {i} (h : Q .normal tl L OL) : blkX i Q (.exit i) tl L OL := by unfold blkX; simp only [Ex.out, if_true]; exact h
theorem y_loopN {R} (h : R tl L OL) : loopX R Q .normal tl L OL := h
theorem y_loopX {R i} (h : Q (.exit i) tl L OL) : loopX R Q (.exit i) tl L OL := h
theorem X_seq {a b} (h : XC N G a (seqX N G b Q) OL tl L) : XC N G (.seq a b) Q OL tl L := by
 intro c Z M tm m n hM hS hO
 obtain ⟨e, tm1, m1, n1, Z1, M1, tl1, L1, O1, hb, he, hM1, hS1, hO1, hq⟩ := h c Z M tm m n hM hS hO
 by_cases hn : e = .normal
 · subst hn
   obtain ⟨e2, tm2, m2, n2, Z2, M2, tl2, L2, O2, hb2, he2, r⟩ := (show XC N G b Q O1 tl1 L1 from hq) c Z1 M1 tm1 m1 n1 hM1 hS1 hO1
   exact ⟨e2, tm2, m2, n2, Z2, M2, tl2, L2, O2, .seqN hb hb2, he.trans he2, r⟩
 · refine ⟨e, tm1, m1, n1, Z1, M1, tl1, L1, O1, .seqE hb hn, he, hM1, hS1, hO1, ?_⟩
   cases e <;> first | exact absurd rfl hn | exact hq
theorem X_block {i c} (h : XC N G c (blkX i Q) OL tl L) : XC N G (.block i c) Q OL tl L := fun cx Z M tm m n hM hS hO =>
 let ⟨e, tm1, m1, n1, Z1, M1, tl1, L1, O1, hb, r⟩ := h cx Z M tm m n hM hS hO
 ⟨_, tm1, m1, n1, Z1, M1, tl1, L1, O1, .block hb, r⟩
theorem x_condT {x a b} (hx : evE tl x = some (.w (.bool true))) (k : XC N G a Q OL tl L) : XC N G (.cond x a b) Q OL tl L := fun c Z M tm m n hM hS hO =>
 let ⟨e, tm1, m1, n1, Z1, M1, tl1, L1, O1, hb, r⟩ := k c Z M tm m n hM hS hO
 ⟨e, tm1, m1, n1, Z1, M1, tl1, L1, O1, .cond (evB hS hx) hb, r⟩
theorem x_condF {x a b} (hx : evE tl x = some (.w (.bool false))) (k : XC N G b Q OL tl L) : XC N G (.cond x a b) Q OL tl L := fun c Z M tm m n hM hS hO =>
 let ⟨e, tm1, m1, n1, Z1, M1, tl1, L1, O1, hb, r⟩ := k c Z M tm m n hM hS hO
 ⟨e, tm1, m1, n1, Z1, M1, tl1, L1, O1, .cond (evB hS hx) hb, r⟩
theorem x_condB {x a b t} (hx : evE tl x = some (.w (.bool t))) (k1 : t = true → XC N G a Q OL tl L) (k2 : t = false → XC N G b Q OL tl L) : XC N G (.cond x a b) Q OL tl L := by
 cases t
 · exact x_condF hx (k2 rfl)
 · exact x_condT hx (k1 rfl)
theorem x_condD {x a b} {p : Prop} [Decidable p] (hx : evE tl x = some (.w (.bool (decide p)))) (k1 : p → XC N G a Q OL tl L) (k2 : ¬ p → XC N G b Q OL tl L) : XC N G (.cond x a b) Q OL tl L :=
 x_condB hx (fun h => k1 (by simpa using h)) (fun h => k2 (by simpa using h))
theorem x_condNB {x a b t} (hx : evE tl x = some (.w (.bool (!t)))) (k1 : t = false → XC N G a Q OL tl L) (k2 : t = true → XC N G b Q OL tl L) : XC N G (.cond x a b) Q OL tl L :=
 x_condB hx (fun h => k1 (by simpa using h)) (fun h => k2 (by simpa using h))
end
theorem X_loop {N0 : Nat} {G : Prg} {tl : Tl} {L : List LB} {OL : Ob} {Q : Ex → Tl → List LB → Ob → Prop} {c : C} {ι : Type} (P : ι → Prop) (S : ι → Tl) (F : ι → List LB) (B : ι → Ob) (μ : ι → Nat) (N : Nat) (i0 : ι) (hP : P i0) {tlk : Tl} (hk : keepN c.dsts tl = some tlk)
 (start : Has tl L (S i0) (F i0)) (hB : OL = B i0) (hL : L.length = N) (hN : ∀ i, P i → (F i).length = N) (hbel : ∀ i, P i → (S i).all (fun p => V.bel 6 N p.2) = true ∧ (F i).all (LB.bel N) = true)
 (round : ∀ i, P i → XC (max N0 N) G c (loopX (fun tl1 L1 O1 => ∃ j, P j ∧ μ j < μ i ∧ Has tl1 L1 (S j) (F j) ∧ O1 = B j) Q) (B i) (S i ++ tlk) (F i)) : XC N0 G (.loop c) Q OL tl L := by
 have key : ∀ k i, P i → μ i = k → ∀ (cx : Cx N0) Z M tm m n, StM cx Z M (F i) m n → Slots M Z (S i) tm → Slots M Z tlk tm → OBs cx Z M m n (B i) →
  ∃ e tm1 m1 n1 Z1 M1 tl1 L1 O1, Big G cx.bs (.code (.loop c) tm) m n (.exit e tm1) m1 n1 ∧ ExtN N0 Z M Z1 M1 ∧ StM cx Z1 M1 L1 m1 n1 ∧ Slots M1 Z1 tl1 tm1 ∧ OBs cx Z1 M1 m1 n1 O1 ∧ Q e tl1 L1 O1 := by
  intro k
  induction k using Nat.strongRecOn with
  | _ k ih =>
    intro i hi hk' cx Z M tm m n hM hS hT hO
    obtain ⟨e, tm1, m1, n1, Z1, M1, tl1, L1, O1, hb, he, hM1, hS1, hO1, hq⟩ := round i hi (cx.up (Nat.le_max_left _ _)) Z M tm m n hM.up (fun t v hv => (look_append hv).elim (hS t v) (hT t v)) ⟨hO.pt, hO.low, hO.dis⟩
    have hM1 := hM1.down
    have hO1 : OBs cx Z1 M1 m1 n1 O1 := ⟨hO1.pt, hO1.low, hO1.dis⟩
    by_cases hn : e = .normal
    · subst hn
      obtain ⟨j, hj, hlt, hhas, hBj⟩ := (show ∃ j, P j ∧ μ j < μ i ∧ Has tl1 L1 (S j) (F j) ∧ O1 = B j from hq)
      have hNj := hN j hj
      obtain ⟨hb1, hb2⟩ := hbel j hj
      have hZl : Z1.length = L1.length := hM1.lenZ
      have hZ0 : Z.length = N := by rw [hM.lenZ, hN i hi]
      have hsub : ∀ (b : Nat) p, (Z1.take N)[b]? = some p → b < N ∧ Z1[b]? = some p := by
       intro b p hp
       rw [List.getElem?_take] at hp
       split at hp
       · exact ⟨‹_›, hp⟩
       · cases hp
      have hE : ExtV Z M (Z1.take N) M1 := ⟨he.hM, fun b p hp => by
       have hbN : b < N := by rw [← hZ0]; exact (List.getElem?_eq_some_iff.1 hp).1
       obtain ⟨p1, h1, g⟩ := he.hZ b p (by omega) hp
       exact ⟨p1, by rw [List.getElem?_take_of_lt hbN]; exact h1, g⟩⟩
      have hFj : F j = L1.take N := by rw [← hNj]; exact hhas.hl.symm
      have hMj : StM cx (Z1.take N) M1 (F j) m1 n1 := by
       refine ⟨hM1.hbs, hM1.hn, hM1.fresh, by rw [hFj, ← hM1.hL, List.map_take], fun b x hb => ?_, hM1.h0, hM1.f0, hM1.hma, hM1.hbr, fun b a lb hb => ?_, fun b lb hb => hM1.nl b lb (hsub _ _ hb).2, fun b b' a l1 l2 h1 h2 => hM1.inj b b' a l1 l2 (hsub _ _ h1).2 (hsub _ _ h2).2, fun b a lb hb => hM1.lo b a lb (hsub _ _ hb).2⟩
       · obtain ⟨h1, h2, h3⟩ := hM1.hM b x hb
         exact ⟨h1, h2, fun i lb e => h3 i lb (hsub _ _ e).2⟩
       · obtain ⟨h0, h1⟩ := hsub _ _ hb
         obtain ⟨g1, g2, g3⟩ := hM1.cell b a lb h1
         refine ⟨g1, g2, g3.map rfl fun cells _ g4 => ?_⟩
         cases lb with
         | arr k rows => exact g4
         | gone => exact g4.elim
         | dead => exact g4.elim
         | cell row =>
           have hbl : LB.bel N (.cell row) = true := by
            refine List.all_eq_true.1 hb2 _ ?_
            have : (F j)[b]? = some (.cell row) := by
             rw [hFj, ← hM1.hL, ← List.map_take, List.getElem?_map, hb]; rfl
            exact List.mem_of_getElem? this
           refine ⟨g4.1, fun i x y h2 h3 => V.bel_rel (g4.2 i x y h2 h3) (List.all_eq_true.1 hbl x (List.mem_of_getElem? h2))⟩
      have hSj : Slots M1 (Z1.take N) (S j) tm1 := fun t v hv => by
       have hm := lookV_mem hv
       exact V.bel_rel (hS1 t v (hhas.hs _ hm)) (List.all_eq_true.1 hb1 _ hm)
      have hTj : Slots M1 (Z1.take N) tlk tm1 := fun t v hv => by
       have h1 := (hT t v hv).mono hE
       rw [Big.dsts hb t (keepN_rel hk t v hv).2]; exact h1
      have hOj : OBs cx (Z1.take N) M1 m1 n1 (B j) := by
       rw [← hBj]
       exact ⟨fun i D a b h1 h2 => let ⟨g1, g2, g3, g4, g5, g6, g7⟩ := hO1.pt i D a b h1 h2; ⟨g1, g2, g3, g4, g5, fun j lb e => g6 j lb (hsub _ _ e).2, g7⟩, hO1.low, hO1.dis⟩
      obtain ⟨e2, tm2, m2, n2, Z2, M2, tl2, L2, O2, hb2, he2, r⟩ := ih _ (hk' ▸ hlt) j hj rfl cx _ M1 tm1 m1 n1 hMj hSj hTj hOj
      exact ⟨e2, tm2, m2, n2, Z2, M2, tl2, L2, O2, .loopN hb hb2, hE.trans he2, r⟩
    · refine ⟨e, tm1, m1, n1, Z1, M1, tl1, L1, O1, .loopE hb hn, he.less (Nat.le_max_left _ _), hM1, hS1, hO1, ?_⟩
      cases e <;> first | exact absurd rfl hn | exact hq
 intro cx Z M tm m n hM hS hO
 have hF : F i0 = L := by
  have := start.hl
  rw [hN i0 hP, ← hL, List.take_length] at this
  exact this.symm
 exact key _ i0 hP rfl cx Z M tm m n (by rw [hF]; exact hM) (fun t v hv => hS t v (start.hs _ (lookV_mem hv))) (fun t v hv => hS t v (keepN_rel hk t v hv).1) (by rw [← hB]; exact hO)
end Go.Proofs.Ytdialnejieoelaa.AL
