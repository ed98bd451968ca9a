/- Code over plain data: regions, code, loops, calls, contracts. -/
import Derived.Test.YtoppcdecolponaaDoorV3
namespace Go.Proofs.YtoppcdecolponaaDoor.AL
open Go
set_option linter.unusedVariables false
set_option linter.unusedSimpArgs false
abbrev Tl := List (Nat × V)
def VO (N : Nat) (G : Prg) (l : List IOp) (K : Tl → List LB → Prop) (tl : Tl) (L : List LB) : Prop :=
 ∀ (c : Cx N) Z M tm m n, StM c Z M L m n → Slots M Z tl tm → ∃ tm1 m1 n1 Z1 M1 tl1 L1, Big G c.bs (.ops l tm) m n (.exit .normal tm1) m1 n1 ∧ ExtN N Z M Z1 M1 ∧ StM c Z1 M1 L1 m1 n1 ∧ Slots M1 Z1 tl1 tm1 ∧ K tl1 L1
def VC (N : Nat) (G : Prg) (c : C) (Q : Ex → Tl → List LB → Prop) (tl : Tl) (L : List LB) : Prop :=
 ∀ (cx : Cx N) Z M tm m n, StM cx Z M L m n → Slots M Z tl tm → ∃ e tm1 m1 n1 Z1 M1 tl1 L1, Big G cx.bs (.code c tm) m n (.exit e tm1) m1 n1 ∧ ExtN N Z M Z1 M1 ∧ StM cx Z1 M1 L1 m1 n1 ∧ Slots M1 Z1 tl1 tm1 ∧ Q e tl1 L1
section
variable {N : Nat} {G : Prg} {tl : Tl} {L : List LB}
theorem Ee {K : Tl → List LB → Prop} (h : K tl L) : VO N G [] K tl L :=
 fun c Z M tm m n hM hS => ⟨tm, m, n, Z, M, tl, L, .opsNil, ExtN.refl _ _ _, hM, hS, h⟩
theorem op_run {o : IOp} {l : List IOp} {N : Nat} {c : Cx N} {tm : Tm} {m : Mem} {n : Nat} {v : Value} {m1 : Mem} {n1 : Nat} {r m2 n2} (hg : o.g = none) (h : Op1 G (if o.q then n else c.bs) o.o tm m n v m1 n1)
 (h2 : Big G c.bs (.ops l (put tm o.d v)) m1 n1 r m2 n2) : Big G c.bs (.ops (o :: l) tm) m n r m2 n2 := by
 rcases h with h | ⟨f, args, h, hb⟩
 · exact .opsPure (fun g b e => by rw [hg] at e; cases e) h h2
 · exact .opsCall (fun g b e => by rw [hg] at e; cases e) h hb h2
theorem Ea {d o q l v L1} {K : Tl → List LB → Prop} (h : OpV G q o tl L (some v) L1) (k : VO N G l K ((d, v) :: tl) L1) : VO N G (⟨some d, o, none, q⟩ :: l) K tl L := by
 intro c Z M tm m n hM hS
 obtain ⟨v', m1, n1, Z1, M1, h1, he, hM1, hr⟩ := h _ c Z M tm m n hM hS
 obtain ⟨tm2, m2, n2, Z2, M2, tl2, L2, hb, he2, hM2, hS2, hk⟩ := k c Z1 M1 (upd tm d v') m1 n1 hM1 ((hS.mono he).put (hr _ rfl))
 exact ⟨tm2, m2, n2, Z2, M2, tl2, L2, op_run rfl h1 hb, he.trans he2, hM2, hS2, hk⟩
theorem unguard {d o q l g b} {bs : Nat} {tm : Tm} {m : Mem} {n : Nat} {r m2 n2} (hg : tm g = .bool b) (h : Big G bs (.ops (⟨d, o, none, q⟩ :: l) tm) m n r m2 n2) : Big G bs (.ops (⟨d, o, some (g, b), q⟩ :: l) tm) m n r m2 n2 := by
 generalize hT : Task.ops (⟨d, o, none, q⟩ :: l) tm = T at h
 induction h generalizing tm with
 | opsSkip e _ _ _ => cases hT; cases e
 | opsNone e _ _ => cases hT; cases e
 | opsPure _ hs h2 => cases hT; exact .opsPure (fun g' b' e => by cases e; exact hg) hs h2
 | opsCall _ hc h1 h2 => cases hT; exact .opsCall (fun g' b' e => by cases e; exact hg) hc h1 h2
 | opsNewH _ hq hs h2 => cases hT; exact .opsNewH (fun g' b' e => by cases e; exact hg) hq hs h2
 | opsAlt _ hq hs h2 => cases hT; exact .opsAlt (fun g' b' e => by cases e; exact hg) hq hs h2
 | opsPureH _ hq hs hd h2 => cases hT; exact .opsPureH (fun g' b' e => by cases e; exact hg) hq hs hd h2
 | drop h hs ih => subst hT; exact .drop (ih hg rfl) hs
 | _ => cases hT
theorem s_gT {d o q l g b} {K : Tl → List LB → Prop} (hg : look tl g = some (.w (.bool b))) (k : VO N G (⟨d, o, none, q⟩ :: l) K tl L) : VO N G (⟨d, o, some (g, b), q⟩ :: l) K tl L := by
 intro c Z M tm m n hM hS
 obtain ⟨tm2, m2, n2, Z2, M2, tl2, L2, hb, r⟩ := k c Z M tm m n hM hS
 exact ⟨tm2, m2, n2, Z2, M2, tl2, L2, unguard (hS _ _ hg).w_inv.1 hb, r⟩
theorem nov_rel {M Z} : RL M Z (.tup []) nov := .tup rfl fun i x y h => by simp at h
theorem s_gF {d o q l g b} {K : Tl → List LB → Prop} (hg : look tl g = some (.w (.bool !b))) (k : VO N G l K ((d, .tup []) :: tl) L) : VO N G (⟨some d, o, some (g, b), q⟩ :: l) K tl L := by
 intro c Z M tm m n hM hS
 obtain ⟨tm2, m2, n2, Z2, M2, tl2, L2, hb, r⟩ := k c Z M (upd tm d nov) m n hM (hS.put nov_rel)
 exact ⟨tm2, m2, n2, Z2, M2, tl2, L2, .opsSkip rfl (hS _ _ hg).w_inv.1 (by cases b <;> simp) hb, r⟩
theorem s_re {l i v} {K : Tl → List LB → Prop} (hg : look tl i = some v) (k : VO N G l K ((i, v) :: tl) L) : VO N G l K tl L := by
 intro c Z M tm m n hM hS
 refine k c Z M tm m n hM fun t u hu => ?_
 simp only [look] at hu
 cases e : Nat.beq t i with
 | true =>
   rw [e] at hu
   have := Nat.eq_of_beq_eq_true e
   simp only [cond_true, Option.some.injEq] at hu
   subst hu; subst this
   exact hS _ _ hg
 | false =>
   rw [e] at hu
   exact hS _ _ hu
theorem s_gB {d o q l g b c} {K : Tl → List LB → Prop} (hg : look tl g = some (.w (.bool c))) (k1 : c = b → VO N G (⟨d, o, none, q⟩ :: l) K ((g, .w (.bool b)) :: tl) L)
 (k2 : c = !b → VO N G (⟨d, o, some (g, b), q⟩ :: l) K ((g, .w (.bool !b)) :: tl) L) : VO N G (⟨d, o, some (g, b), q⟩ :: l) K tl L := by
 by_cases h : c = b
 · subst h; exact s_gT hg (s_re hg (k1 rfl))
 · have : c = !b := by cases c <;> cases b <;> simp_all
   subst this; exact s_re hg (k2 rfl)
theorem s_gDT {d o q l g} {p : Prop} [Decidable p] {K : Tl → List LB → Prop} (hg : look tl g = some (.w (.bool (decide p)))) (k1 : p → VO N G (⟨d, o, none, q⟩ :: l) K ((g, .w (.bool true)) :: tl) L)
 (k2 : ¬ p → VO N G (⟨d, o, some (g, true), q⟩ :: l) K ((g, .w (.bool false)) :: tl) L) : VO N G (⟨d, o, some (g, true), q⟩ :: l) K tl L :=
 s_gB hg (fun h => k1 (by simpa using h)) (fun h => k2 (by simpa using h))
theorem s_gDF {d o q l g} {p : Prop} [Decidable p] {K : Tl → List LB → Prop} (hg : look tl g = some (.w (.bool (decide p)))) (k1 : ¬ p → VO N G (⟨d, o, none, q⟩ :: l) K ((g, .w (.bool false)) :: tl) L)
 (k2 : p → VO N G (⟨d, o, some (g, false), q⟩ :: l) K ((g, .w (.bool true)) :: tl) L) : VO N G (⟨d, o, some (g, false), q⟩ :: l) K tl L :=
 s_gB hg (fun h => k1 (by simpa using h)) (fun h => k2 (by simpa using h))
def keepI (tl : Tl) : List Nat → Option Tl
 | [] => some []
 | i :: is => match keepI tl is with
   | some r => match look tl i with
     | some v => some ((i, v) :: r)
     | none => some r
   | none => none
theorem keepI_rel : ∀ {is : List Nat} {tl1 : Tl}, keepI tl is = some tl1 → ∀ t v, look tl1 t = some v → look tl t = some v
 | [], tl1, h, t, v, hv => by simp [keepI] at h; subst h; cases hv
 | i :: is, tl1, h, t, v, hv => by
   simp only [keepI] at h
   split at h
   · rename_i r hr
     split at h
     · rename_i u hu
       cases h
       simp only [look] at hv
       cases e : Nat.beq t i with
       | true =>
         rw [e] at hv
         have := Nat.eq_of_beq_eq_true e
         simp only [cond_true, Option.some.injEq] at hv
         subst hv; subst this; exact hu
       | false => rw [e] at hv; exact keepI_rel hr t v hv
     · cases h; exact keepI_rel hr t v hv
   · cases h
theorem Eb (is : List Nat) {tl1 c} {Q : Ex → Tl → List LB → Prop} (h : keepI tl is = some tl1) (k : VC N G c Q tl1 L) : VC N G c Q tl L :=
 fun cx Z M tm m n hM hS => k cx Z M tm m n hM fun t v hv => hS t v (keepI_rel h t v hv)
variable {Q : Ex → Tl → List LB → Prop}
theorem s_skip (h : Q .normal tl L) : VC N G .skip Q tl L := fun c Z M tm m n hM hS => ⟨_, _, _, _, Z, M, tl, L, .skip, ExtN.refl _ _ _, hM, hS, h⟩
theorem s_ret (h : Q .ret tl L) : VC N G .ret Q tl L := fun c Z M tm m n hM hS => ⟨_, _, _, _, Z, M, tl, L, .ret, ExtN.refl _ _ _, hM, hS, h⟩
theorem s_exit {i} (h : Q (.exit i) tl L) : VC N G (.exit i) Q tl L := fun c Z M tm m n hM hS => ⟨_, _, _, _, Z, M, tl, L, .exit, ExtN.refl _ _ _, hM, hS, h⟩
theorem s_rg {l} (h : VO N G l (Q .normal) tl L) : VC N G (.rg l) Q tl L := fun c Z M tm m n hM hS =>
 let ⟨tm1, m1, n1, Z1, M1, tl1, L1, hb, r⟩ := h c Z M tm m n hM hS
 ⟨_, tm1, m1, n1, Z1, M1, tl1, L1, .rg hb, r⟩
theorem s_seq {a b} (h : VC N G a (fun e tl L => match e with
 | .normal => VC N G b Q tl L
 | e => Q e tl L) tl L) : VC N G (.seq a b) Q tl L := by
 intro c Z M tm m n hM hS
 obtain ⟨e, tm1, m1, n1, Z1, M1, tl1, L1, hb, he, hM1, hS1, hq⟩ := h c Z M tm m n hM hS
 by_cases hn : e = .normal
 · subst hn
   obtain ⟨e2, tm2, m2, n2, Z2, M2, tl2, L2, hb2, he2, r⟩ := hq c Z1 M1 tm1 m1 n1 hM1 hS1
   exact ⟨e2, tm2, m2, n2, Z2, M2, tl2, L2, .seqN hb hb2, he.trans he2, r⟩
 · refine ⟨e, tm1, m1, n1, Z1, M1, tl1, L1, .seqE hb hn, he, hM1, hS1, ?_⟩
   cases e <;> first | exact absurd rfl hn | exact hq
theorem s_block {i c} (h : VC N G c (fun e => Q (e.out i)) tl L) : VC N G (.block i c) Q tl L := fun cx Z M tm m n hM hS =>
 let ⟨e, tm1, m1, n1, Z1, M1, tl1, L1, hb, r⟩ := h cx Z M tm m n hM hS
 ⟨_, tm1, m1, n1, Z1, M1, tl1, L1, .block hb, r⟩
theorem s_mono {c} {Q' : Ex → Tl → List LB → Prop} (h : VC N G c Q' tl L) (hq : ∀ e tl L, Q' e tl L → Q e tl L) : VC N G c Q tl L := fun cx Z M tm m n hM hS =>
 let ⟨e, tm1, m1, n1, Z1, M1, tl1, L1, hb, h1, h2, h3, h4⟩ := h cx Z M tm m n hM hS
 ⟨e, tm1, m1, n1, Z1, M1, tl1, L1, hb, h1, h2, h3, hq _ _ _ h4⟩
theorem evB {M Z tm x b} (hS : Slots M Z tl tm) (h : evE tl x = some (.w (.bool b))) : x.ev tm = .bool b := evE_w hS h
theorem s_condT {x a b} (hx : evE tl x = some (.w (.bool true))) (k : VC N G a Q tl L) : VC N G (.cond x a b) Q tl L := fun c Z M tm m n hM hS =>
 let ⟨e, tm1, m1, n1, Z1, M1, tl1, L1, hb, r⟩ := k c Z M tm m n hM hS
 ⟨e, tm1, m1, n1, Z1, M1, tl1, L1, .cond (evB hS hx) hb, r⟩
theorem s_condF {x a b} (hx : evE tl x = some (.w (.bool false))) (k : VC N G b Q tl L) : VC N G (.cond x a b) Q tl L := fun c Z M tm m n hM hS =>
 let ⟨e, tm1, m1, n1, Z1, M1, tl1, L1, hb, r⟩ := k c Z M tm m n hM hS
 ⟨e, tm1, m1, n1, Z1, M1, tl1, L1, .cond (evB hS hx) hb, r⟩
theorem s_condB {x a b t} (hx : evE tl x = some (.w (.bool t))) (k1 : t = true → VC N G a Q tl L) (k2 : t = false → VC N G b Q tl L) : VC N G (.cond x a b) Q tl L := by
 cases t
 · exact s_condF hx (k2 rfl)
 · exact s_condT hx (k1 rfl)
theorem s_condD {x a b} {p : Prop} [Decidable p] (hx : evE tl x = some (.w (.bool (decide p)))) (k1 : p → VC N G a Q tl L) (k2 : ¬ p → VC N G b Q tl L) : VC N G (.cond x a b) Q tl L :=
 s_condB hx (fun h => k1 (by simpa using h)) (fun h => k2 (by simpa using h))
end
def keepN (ds : List Nat) : Tl → Option Tl
 | [] => some []
 | (i, v) :: tl => match keepN ds tl with
   | some r => match ds.any (fun j => Nat.beq i j) with
     | true => some r
     | false => some ((i, v) :: r)
   | none => none
theorem keepN_rel {ds : List Nat} : ∀ {tl tl1 : Tl}, keepN ds tl = some tl1 → ∀ t v, look tl1 t = some v → look tl t = some v ∧ t ∉ ds
 | [], tl1, h, t, v, hv => by simp [keepN] at h; subst h; cases hv
 | (i, u) :: tl, tl1, h, t, v, hv => by
   simp only [keepN] at h
   split at h
   · rename_i r hr
     split at h
     · rename_i hc
       cases h
       obtain ⟨h1, h2⟩ := keepN_rel hr t v hv
       have hi : i ∈ ds := by
        simp only [List.any_eq_true] at hc
        obtain ⟨j, hj, e⟩ := hc
        rw [Nat.eq_of_beq_eq_true e]; exact hj
       have : t ≠ i := fun e => h2 (by rw [e]; exact hi)
       refine ⟨?_, h2⟩
       simp only [look]
       rw [show Nat.beq t i = false from by cases e : Nat.beq t i with
        | true => exact absurd (Nat.eq_of_beq_eq_true e) this
        | false => rfl]
       exact h1
     · rename_i hc
       cases h
       have hi : i ∉ ds := fun hi => by
        have : ds.any (fun j => Nat.beq i j) = true := List.any_eq_true.2 ⟨i, hi, Nat.beq_refl i⟩
        rw [this] at hc; cases hc
       simp only [look] at hv ⊢
       cases e : Nat.beq t i with
       | true =>
         rw [e] at hv
         exact ⟨hv, by rw [Nat.eq_of_beq_eq_true e]; exact hi⟩
       | false => rw [e] at hv; exact keepN_rel hr t v hv
   · cases h
def V.bel : Nat → Nat → V → Bool
 | 0, _, _ => false
 | fu + 1, n, v => match v with
   | .w _ | .sl .. | .rp .. | .raw _ => true
   | .cp b _ => Nat.blt b n
   | .ap b .. => Nat.blt b n
   | .ls b _ => Nat.blt b n
   | .agg cs => cs.all (V.bel fu n)
   | .tup cs => cs.all (V.bel fu n)
   | .fn _ cs => cs.all (V.bel fu n)
theorem V.bel_rel {M Z n} : ∀ {fu v x}, RL M Z v x → V.bel fu n v = true → RL M (Z.take n) v x
 | 0, v, x, h, hb => by cases hb
 | fu + 1, v, x, h, hb => by
   have key : ∀ (b : Nat) p, Z[b]? = some p → Nat.blt b n = true → (Z.take n)[b]? = some p := by
    intro b p hp hb
    have : b < n := by rw [Nat.blt_eq] at hb; exact hb
    rw [List.getElem?_take_of_lt this]; exact hp
   have all : ∀ {cs : List V}, cs.all (V.bel fu n) = true → ∀ (i : Nat) u, cs[i]? = some u → V.bel fu n u = true := by
    intro cs h i u hu
    exact List.all_eq_true.1 h u (List.mem_of_getElem? hu)
   cases v with
   | w v => exact .fz (by cases h with | fz h => exact h)
   | raw v => exact .fz (by cases h with | fz h => exact h)
   | sl k rows => exact .fz h.sl_inv
   | rp row off => exact .fz h.rp_inv
   | agg cs =>
     obtain ⟨vs, rfl, hl, hh⟩ := h.agg_inv
     exact .agg hl fun i u y h1 h2 => V.bel_rel (hh i u y h1 h2) (all hb i u h1)
   | tup cs =>
     obtain ⟨vs, rfl, hl, hh⟩ := h.tup_inv
     exact .tup hl fun i u y h1 h2 => V.bel_rel (hh i u y h1 h2) (all hb i u h1)
   | fn f cs =>
     obtain ⟨vs, rfl, hl, hh⟩ := h.fn_inv
     exact .fn hl fun i u y h1 h2 => V.bel_rel (hh i u y h1 h2) (all hb i u h1)
   | cp b off =>
     cases h with
     | fz h => cases h
     | cp hz hc => exact .cp (key _ _ hz hb) hc
   | ap b len j off =>
     cases h with
     | fz h => cases h
     | ap hz h1 h2 h3 => exact .ap (key _ _ hz hb) h1 h2 h3
     | apD hz h1 => exact .apD (key _ _ hz hb) h1
   | ls b len =>
     cases h with
     | fz h => cases h
     | ls hz h1 h2 h3 => exact .ls (key _ _ hz hb) h1 h2 h3
     | lsD hz h1 => exact .lsD (key _ _ hz hb) h1
def LB.bel (n : Nat) : LB → Bool
 | .cell row => row.all (V.bel 6 n)
 | .arr .. => true
 | .gone => true
 | .dead => true
structure Has (tl : Tl) (L : List LB) (S : Tl) (F : List LB) : Prop where
 hs : ∀ p, p ∈ S → look tl p.1 = some p.2
 hl : L.take F.length = F
theorem lookV_mem : ∀ {S : Tl} {t v}, look S t = some v → (t, v) ∈ S
 | (i, u) :: S, t, v, h => by
   simp only [look] at h
   cases e : Nat.beq t i with
   | true =>
     rw [e] at h
     have := Nat.eq_of_beq_eq_true e
     simp only [cond_true, Option.some.injEq] at h
     subst h; subst this; exact .head _
   | false => rw [e] at h; exact .tail _ (lookV_mem h)
theorem look_append {S T : Tl} {t v} (h : look (S ++ T) t = some v) : look S t = some v ∨ look T t = some v := by
 induction S with
 | nil => exact .inr h
 | cons p S ih =>
   obtain ⟨i, u⟩ := p
   simp only [List.cons_append, look] at h ⊢
   cases e : Nat.beq t i with
   | true => rw [e] at h; exact .inl h
   | false => rw [e] at h; exact ih h
theorem s_loop {N0 : Nat} {G : Prg} {tl : Tl} {L : List LB} {Q : Ex → Tl → List LB → Prop} {c : C} {ι : Type} (P : ι → Prop) (S : ι → Tl) (F : ι → List LB) (μ : ι → Nat) (N : Nat) (i0 : ι) (hP : P i0) {tlk : Tl} (hk : keepN c.dsts tl = some tlk)
 (start : Has tl L (S i0) (F i0)) (hL : L.length = N) (hN : ∀ i, P i → (F i).length = N) (hbel : ∀ i, P i → (S i).all (fun p => V.bel 6 N p.2) = true ∧ (F i).all (LB.bel N) = true)
 (round : ∀ i, P i → VC (max N0 N) G c (fun e tl1 L1 => match e with
   | .normal => ∃ j, P j ∧ μ j < μ i ∧ Has tl1 L1 (S j) (F j)
   | e => Q e tl1 L1) (S i ++ tlk) (F i)) : VC N0 G (.loop c) Q tl L := by
 have key : ∀ k i, P i → μ i = k → ∀ (cx : Cx N0) Z M tm m n, StM cx Z M (F i) m n → Slots M Z (S i) tm → Slots M Z tlk tm →
  ∃ e tm1 m1 n1 Z1 M1 tl1 L1, Big G cx.bs (.code (.loop c) tm) m n (.exit e tm1) m1 n1 ∧ ExtN N0 Z M Z1 M1 ∧ StM cx Z1 M1 L1 m1 n1 ∧ Slots M1 Z1 tl1 tm1 ∧ Q e tl1 L1 := by
  intro k
  induction k using Nat.strongRecOn with
  | _ k ih =>
    intro i hi hk' cx Z M tm m n hM hS hT
    obtain ⟨e, tm1, m1, n1, Z1, M1, tl1, L1, hb, he, hM1, hS1, hq⟩ := round i hi (cx.up (Nat.le_max_left _ _)) Z M tm m n hM.up fun t v hv => (look_append hv).elim (hS t v) (hT t v)
    have hM1 := hM1.down
    by_cases hn : e = .normal
    · subst hn
      obtain ⟨j, hj, hlt, hhas⟩ := hq
      have hNj := hN j hj
      obtain ⟨hb1, hb2⟩ := hbel j hj
      have hZl : Z1.length = L1.length := hM1.lenZ
      have hZ0 : Z.length = N := by rw [hM.lenZ, hN i hi]
      have hsub : ∀ (b : Nat) p, (Z1.take N)[b]? = some p → b < N ∧ Z1[b]? = some p := by
       intro b p hp
       rw [List.getElem?_take] at hp
       split at hp
       · exact ⟨‹_›, hp⟩
       · cases hp
      have hE : ExtV Z M (Z1.take N) M1 := ⟨he.hM, fun b p hp => by
       have hbN : b < N := by rw [← hZ0]; exact (List.getElem?_eq_some_iff.1 hp).1
       obtain ⟨p1, h1, g⟩ := he.hZ b p (by omega) hp
       exact ⟨p1, by rw [List.getElem?_take_of_lt hbN]; exact h1, g⟩⟩
      have hFj : F j = L1.take N := by rw [← hNj]; exact hhas.hl.symm
      have hMj : StM cx (Z1.take N) M1 (F j) m1 n1 := by
       refine ⟨hM1.hbs, hM1.hn, hM1.fresh, by rw [hFj, ← hM1.hL, List.map_take], fun b x hb => ?_, hM1.h0, hM1.f0, hM1.hma, hM1.hbr, fun b a lb hb => ?_, fun b lb hb => hM1.nl b lb (hsub _ _ hb).2, fun b b' a l1 l2 h1 h2 => hM1.inj b b' a l1 l2 (hsub _ _ h1).2 (hsub _ _ h2).2, fun b a lb hb => hM1.lo b a lb (hsub _ _ hb).2⟩
       · obtain ⟨h1, h2, h3⟩ := hM1.hM b x hb
         exact ⟨h1, h2, fun i lb e => h3 i lb (hsub _ _ e).2⟩
       · obtain ⟨h0, h1⟩ := hsub _ _ hb
         obtain ⟨g1, g2, g3⟩ := hM1.cell b a lb h1
         refine ⟨g1, g2, g3.map rfl fun cells _ g4 => ?_⟩
         cases lb with
         | arr k rows => exact g4
         | gone => exact g4.elim
         | dead => exact g4.elim
         | cell row =>
           have hbl : LB.bel N (.cell row) = true := by
            refine List.all_eq_true.1 hb2 _ ?_
            have : (F j)[b]? = some (.cell row) := by
             rw [hFj, ← hM1.hL, ← List.map_take, List.getElem?_map, hb]; rfl
            exact List.mem_of_getElem? this
           refine ⟨g4.1, fun i x y h2 h3 => V.bel_rel (g4.2 i x y h2 h3) (List.all_eq_true.1 hbl x (List.mem_of_getElem? h2))⟩
      have hSj : Slots M1 (Z1.take N) (S j) tm1 := fun t v hv => by
       have hm := lookV_mem hv
       exact V.bel_rel (hS1 t v (hhas.hs _ hm)) (List.all_eq_true.1 hb1 _ hm)
      have hTj : Slots M1 (Z1.take N) tlk tm1 := fun t v hv => by
       have h1 := (hT t v hv).mono hE
       rw [Big.dsts hb t (keepN_rel hk t v hv).2]; exact h1
      obtain ⟨e2, tm2, m2, n2, Z2, M2, tl2, L2, hb2, he2, r⟩ := ih _ (hk' ▸ hlt) j hj rfl cx _ M1 tm1 m1 n1 hMj hSj hTj
      exact ⟨e2, tm2, m2, n2, Z2, M2, tl2, L2, .loopN hb hb2, hE.trans he2, r⟩
    · refine ⟨e, tm1, m1, n1, Z1, M1, tl1, L1, .loopE hb hn, he.less (Nat.le_max_left _ _), hM1, hS1, ?_⟩
      cases e <;> first | exact absurd rfl hn | exact hq
 intro cx Z M tm m n hM hS
 have hF : F i0 = L := by
  have := start.hl
  rw [hN i0 hP, ← hL, List.take_length] at this
  exact this.symm
 exact key _ i0 hP rfl cx Z M tm m n (by rw [hF]; exact hM) (fun t v hv => hS t v (start.hs _ (lookV_mem hv))) (fun t v hv => hS t v (keepN_rel hk t v hv).1)
structure CV (G : Prg) (f : Nat) (vargs : List V) (post : V → Prop) : Prop where
 run : ∀ args bs m n Ma, Fresh m n → bs ≤ n → sub Ma m → Pt (RF Ma) vargs args →
 CallW G f args bs m n fun v m1 n1 => ∃ u M1, RF M1 u v ∧ post u ∧ sub m m1 ∧ sub M1 m1 ∧ ∀ b x, M1 b = some x → Ma b = some x ∨ n ≤ b
theorem CV.mono {G f vargs} {post post' : V → Prop} (h : CV G f vargs post) (hp : ∀ u, post u → post' u) : CV G f vargs post' := ⟨fun args bs m n Ma h1 h2 h3 h4 =>
 (h.run args bs m n Ma h1 h2 h3 h4).mono fun v m1 n1 ⟨u, M1, g1, g2, g3⟩ => ⟨u, M1, g1, hp u g2, g3⟩⟩
def V.fzV : Nat → V → Bool
 | 0, _ => false
 | fu + 1, v => match v with
   | .w _ | .sl .. | .rp .. | .raw _ => true
   | .agg cs => cs.all (V.fzV fu)
   | .tup cs => cs.all (V.fzV fu)
   | .fn _ cs => cs.all (V.fzV fu)
   | _ => false
theorem V.fzV_rel {M Z} : ∀ {fu v x}, RL M Z v x → V.fzV fu v = true → RF M v x
 | 0, v, x, h, hb => by cases hb
 | fu + 1, v, x, h, hb => by
   have all : ∀ {cs : List V}, cs.all (V.fzV fu) = true → ∀ (i : Nat) u, cs[i]? = some u → V.fzV fu u = true := by
    intro cs h i u hu
    exact List.all_eq_true.1 h u (List.mem_of_getElem? hu)
   cases v with
   | w v => cases h with | fz h => exact h
   | raw v => cases h with | fz h => exact h
   | sl k rows => exact h.sl_inv
   | rp row off => exact h.rp_inv
   | agg cs =>
     obtain ⟨vs, rfl, hl, hh⟩ := h.agg_inv
     exact .agg hl fun i u y h1 h2 => V.fzV_rel (hh i u y h1 h2) (all hb i u h1)
   | tup cs =>
     obtain ⟨vs, rfl, hl, hh⟩ := h.tup_inv
     exact .tup hl fun i u y h1 h2 => V.fzV_rel (hh i u y h1 h2) (all hb i u h1)
   | fn f cs =>
     obtain ⟨vs, rfl, hl, hh⟩ := h.fn_inv
     exact .fn hl fun i u y h1 h2 => V.fzV_rel (hh i u y h1 h2) (all hb i u h1)
   | _ => cases hb
def V.flat : Nat → V → Bool
 | 0, _ => false
 | fu + 1, v => match v with
   | .w _ | .raw _ => true
   | .agg cs => cs.all (V.flat fu)
   | .tup cs => cs.all (V.flat fu)
   | _ => false
def frs (f : V → Option (V × List (Nat × Nat))) : List V → Option (List V × List (Nat × Nat))
 | [] => some ([], [])
 | v :: l => match f v, frs f l with
   | some (u, p), some (us, r) => some (u :: us, p ++ r)
   | _, _ => none
def fr (L : List LB) : Nat → V → Option (V × List (Nat × Nat))
 | 0, _ => none
 | fu + 1, v => match v with
   | .w x => some (.w x, [])
   | .sl k r => some (.sl k r, [])
   | .rp r o => some (.rp r o, [])
   | .raw x => some (.raw x, [])
   | .agg cs => match frs (fr L fu) cs with
     | some (us, p) => some (.agg us, p)
     | none => none
   | .tup cs => match frs (fr L fu) cs with
     | some (us, p) => some (.tup us, p)
     | none => none
   | .fn f cs => match frs (fr L fu) cs with
     | some (us, p) => some (.fn f us, p)
     | none => none
   | .cp b o => match L[b]? with
     | some (.cell row) => match frs (fr L fu) row with
       | some (us, p) => some (.rp us o, p)
       | none => none
     | _ => none
   | .ls b len => match L[b]? with
     | some (.arr k rows) => some (.sl k rows, [(rows.length, len)])
     | _ => none
   | .ap .. => none
theorem frs_rel {R R' : V → Value → Prop} {f : V → Option (V × List (Nat × Nat))} (hf : ∀ v u p x, f v = some (u, p) → (∀ e, e ∈ p → e.1 = e.2) → R v x → R' u x) : ∀ {l us p l'}, frs f l = some (us, p) → (∀ e, e ∈ p → e.1 = e.2) → Pt R l l' → Pt R' us l'
 | [], us, p, l', h, _, hp => by simp [frs] at h; obtain ⟨rfl, rfl⟩ := h; rw [hp.unnil]; exact Pt.nil
 | v :: l, us, p, l', h, ho, hp => by
   obtain ⟨x, r, rfl, h1, h2⟩ := hp.uncons
   simp only [frs] at h
   split at h
   · rename_i u p1 us1 r1 e1 e2
     cases h
     exact Pt.cons (hf _ _ _ _ e1 (fun e he => ho e (List.mem_append_left _ he)) h1) (frs_rel hf e2 (fun e he => ho e (List.mem_append_right _ he)) h2)
   · cases h
theorem fr_relM {N : Nat} {c : Cx N} {Z M L m n M'} {L' : List LB} (hM : StM c Z M L m n) (hs : sub M M') (hL' : ∀ (i : Nat) lb, L'[i]? = some lb → lb ≠ .gone → L[i]? = some lb) (hz : ∀ (i : Nat) a lb, L'[i]? = some lb → lb ≠ .gone → Z[i]? = some (some a, lb) → M' a = m a) : ∀ fu v u p x, fr L' fu v = some (u, p) → (∀ e, e ∈ p → e.1 = e.2) → RL M Z v x → RF M' u x
 | 0, v, u, p, x, h, _, _ => by cases h
 | fu + 1, v, u, p, x, h, ho, hr => by
   have ih := fr_relM hM hs hL' hz fu
   cases v with
   | w v => cases h; obtain ⟨rfl, hf⟩ := hr.w_inv; exact .w hf
   | sl k rows => cases h; exact hr.sl_inv.mono hs
   | rp row off => cases h; exact hr.rp_inv.mono hs
   | raw v => cases h; obtain ⟨rfl, hf⟩ := hr.raw_inv; exact .raw hf
   | agg cs =>
     simp only [fr] at h
     split at h
     · rename_i us p1 e1
       cases h
       obtain ⟨vs, rfl, hl, hh⟩ := hr.agg_inv
       have := frs_rel (R := RL M Z) (R' := RF M') ih e1 ho (l' := vs.toList) ⟨by simpa using hl, fun i x y h1 h2 => hh i x y h1 (by simpa using h2)⟩
       exact .agg (by simpa using this.1) fun i x y h1 h2 => this.2 i x y h1 (by simpa using h2)
     · cases h
   | tup cs =>
     simp only [fr] at h
     split at h
     · rename_i us p1 e1
       cases h
       obtain ⟨vs, rfl, hl, hh⟩ := hr.tup_inv
       have := frs_rel (R := RL M Z) (R' := RF M') ih e1 ho (l' := vs.toList) ⟨by simpa using hl, fun i x y h1 h2 => hh i x y h1 (by simpa using h2)⟩
       exact .tup (by simpa using this.1) fun i x y h1 h2 => this.2 i x y h1 (by simpa using h2)
     · cases h
   | fn f cs =>
     simp only [fr] at h
     split at h
     · rename_i us p1 e1
       cases h
       obtain ⟨vs, rfl, hl, hh⟩ := hr.fn_inv
       have := frs_rel (R := RL M Z) (R' := RF M') ih e1 ho (l' := vs.toList) ⟨by simpa using hl, fun i x y h1 h2 => hh i x y h1 (by simpa using h2)⟩
       exact .fn (by simpa using this.1) fun i x y h1 h2 => this.2 i x y h1 (by simpa using h2)
     · cases h
   | cp b off =>
     simp only [fr] at h
     split at h
     · rename_i row hb
       split at h
       · rename_i us p1 e1
         cases h
         obtain ⟨a, row', hz', rfl⟩ := hr.cp_inv
         obtain ⟨a', ha⟩ := hM.getZ (hL' _ _ hb nofun)
         rw [hz'] at ha; cases ha
         obtain ⟨_, _, cells, hm, hrel⟩ := hM.cell _ _ _ hz'
         have := frs_rel (R := RL M Z) (R' := RF M') ih e1 ho hrel
         have := RF.rp (M := M') (row := us) (off := off) (o := 0) (by rw [hz _ _ _ hb nofun hz']; exact hm) (by simpa using Nat.le_of_eq this.1) (fun j x y h1 h2 => this.2 j x y h1 (by simpa using h2))
         simpa using this
       · cases h
     · cases h
   | ls b len =>
     simp only [fr] at h
     split at h
     · rename_i k rows hb
       cases h
       obtain ⟨a, ha⟩ := hM.getZ (hL' _ _ hb nofun)
       have hl : rows.length = len := ho (rows.length, len) (by simp)
       rw [hr.ls_inv ha hl, ← hl]
       cases a with
       | none =>
         obtain ⟨k', e⟩ := hM.nil _ _ ha
         cases e
         exact .sl (c := 0) (rows' := []) (Nat.le_refl _) (fun h => absurd rfl h) rfl (fun i r j x h => by simp at h) (fun i r r' h => by simp at h) (fun i r r' j x y h => by simp at h)
       | some ad =>
         obtain ⟨_, _, cells, hm, rows', rfl, hl', hall, hpt, hn⟩ := hM.cell _ _ _ ha
         refine .sl (rows' := rows') (Nat.le_refl _) (fun _ => ⟨⟨rfl, rfl⟩, _, (by rw [show (adr (some ⟨ad, 0, none⟩)).block = ad from rfl, hz _ _ _ hb nofun ha]; exact hm), rfl, fun i r hi => ?_⟩) hl' hn (fun i r r' h1 h2 => (hpt i r r' h1 h2).1) fun i r r' j x y h1 h2 h3 h4 => ((hpt i r r' h1 h2).2 j x y h3 h4).mono hs
         obtain ⟨g1, g2⟩ := flat_row hall hi
         exact ⟨hall r (List.mem_of_getElem? hi), by simpa [adr] using g1, by simpa [adr] using g2⟩
     · cases h
   | ap b len j off => cases h
theorem fr_rel {N : Nat} {c : Cx N} {Z M L m n M'} (hM : StM c Z M L m n) (hs : sub M M') (hz : ∀ (i : Nat) a lb, Z[i]? = some (some a, lb) → M' a = m a) : ∀ fu v u p x, fr L fu v = some (u, p) → (∀ e, e ∈ p → e.1 = e.2) → RL M Z v x → RF M' u x :=
 fr_relM hM hs (fun _ _ h _ => h) fun i a lb _ _ h => hz i a lb h
def retV1 (tl : Tl) (L : List LB) : RV → Option V
 | .tmp t => look tl t
 | .cell t => match look tl t with
   | some (.cp b off) => match L[b]? with
     | some (.cell row) => row[off]?
     | _ => none
   | _ => none
 | .celln t n => match look tl t with
   | some (.cp b off) => match L[b]? with
     | some (.cell row) => match subN row off n with
       | some cs => some (.agg cs)
       | none => none
     | _ => none
   | _ => none
def retVs (tl : Tl) (L : List LB) : List RV → Option (List V)
 | [] => some []
 | r :: l => match retV1 tl L r, retVs tl L l with
   | some v, some vs => some (v :: vs)
   | _, _ => none
def retV (tl : Tl) (L : List LB) (l : List RV) : Option V := match retVs tl L l with
 | some [v] => some v
 | some vs => some (.tup vs)
 | none => none
theorem retV1_rel {N : Nat} {c : Cx N} {Z M L m n tl tm r u} (hM : StM c Z M L m n) (hS : Slots M Z tl tm) (h : retV1 tl L r = some u) : ∃ x, AL.retv1 tm m r = some x ∧ RL M Z u x := by
 cases r with
 | tmp t => exact ⟨_, rfl, hS _ _ h⟩
 | cell t =>
   simp only [retV1] at h
   split at h
   · rename_i b off ht
     split at h
     · rename_i row hb
       obtain ⟨a, row', hz, h1⟩ := (hS _ _ ht).cp_inv
       obtain ⟨a', ha⟩ := hM.getZ hb
       rw [hz] at ha; cases ha
       obtain ⟨_, _, cells, hm, hrel⟩ := hM.cell _ _ _ hz
       obtain ⟨y, h2, h3⟩ := Pt.get hrel h
       exact ⟨y, by simp [AL.retv1, h1, AL.rd, hm, h2], h3⟩
     · cases h
   · cases h
 | celln t k =>
   simp only [retV1] at h
   split at h
   · rename_i b off ht
     split at h
     · rename_i row hb
       split at h
       · rename_i cs hcs
         cases h
         obtain ⟨a, row', hz, h1⟩ := (hS _ _ ht).cp_inv
         obtain ⟨a', ha⟩ := hM.getZ hb
         rw [hz] at ha; cases ha
         obtain ⟨_, _, cells, hm, hrel⟩ := hM.cell _ _ _ hz
         obtain ⟨h2, rfl⟩ := subN_inv hcs
         have hrel : Pt (RL M Z) row cells := hrel
         have h3 := (hrel.drop off).take k
         have h4 := hrel.1
         refine ⟨.agg ((cells.drop off).take k).toArray, ?_, .agg (by simpa using h3.1) fun i u y e1 e2 => h3.2 i u y e1 (by simpa using e2)⟩
         simp only [AL.retv1, h1, AL.rdn, hm, Option.isSome_none, Bool.false_eq_true, if_false]
         rw [if_pos (by omega)]
       · cases h
     · cases h
   · cases h
theorem retVs_rel {N : Nat} {c : Cx N} {Z M L m n tl tm} (hM : StM c Z M L m n) (hS : Slots M Z tl tm) : ∀ {l us}, retVs tl L l = some us → ∃ xs, AL.retvs tm m l = some xs ∧ Pt (RL M Z) us xs
 | [], us, h => by simp [retVs] at h; subst h; exact ⟨[], rfl, Pt.nil⟩
 | r :: l, us, h => by
   simp only [retVs] at h
   split at h
   · rename_i v vs h1 h2
     cases h
     obtain ⟨x, g1, g2⟩ := retV1_rel hM hS h1
     obtain ⟨xs, g3, g4⟩ := retVs_rel hM hS h2
     exact ⟨x :: xs, by simp only [AL.retvs, g1, g3], Pt.cons g2 g4⟩
   · cases h
theorem retV_rel {N : Nat} {c : Cx N} {Z M L m n tl tm l u} (hM : StM c Z M L m n) (hS : Slots M Z tl tm) (h : retV tl L l = some u) : ∃ x, AL.retv l tm m = some x ∧ RL M Z u x := by
 unfold retV at h
 split at h
 · rename_i v hv
   cases h
   obtain ⟨xs, g1, g2⟩ := retVs_rel hM hS hv
   obtain ⟨x, r, rfl, g3, g4⟩ := g2.uncons
   rw [g4.unnil] at g1
   exact ⟨x, by simp only [AL.retv, g1], g3⟩
 · rename_i vs hne hv
   cases h
   obtain ⟨xs, g1, g2⟩ := retVs_rel hM hS hv
   refine ⟨.tuple xs.toArray, ?_, .tup (by simpa using g2.1) fun i x y h1 h2 => g2.2 i x y h1 (by simpa using h2)⟩
   simp only [AL.retv, g1]
   split
   · rename_i y e
     cases e
     exfalso
     have := g2.1
     cases vs with
     | nil => simp at this
     | cons v vs =>
       cases vs with
       | nil => exact hne v rfl
       | cons => simp at this
   · rename_i e; cases e; rfl
   · rename_i e; cases e
 · cases h
inductive Wk : V → V → Prop
 | refl (v) : Wk v v
 | nil (k c) : Wk (.w (.slice none 0 c)) (.sl k [])
 | agg {l r : List V} (hl : l.length = r.length) (h : ∀ (i : Nat) a b, l[i]? = some a → r[i]? = some b → Wk a b) : Wk (.agg l) (.agg r)
 | tup {l r : List V} (hl : l.length = r.length) (h : ∀ (i : Nat) a b, l[i]? = some a → r[i]? = some b → Wk a b) : Wk (.tup l) (.tup r)
theorem len_get {α γ : Type} {l : List α} {r : List γ} (hl : l.length = r.length) {i : Nat} {b : γ} (h : r[i]? = some b) : ∃ a, l[i]? = some a := by
 have hi := (List.getElem?_eq_some_iff.1 h).1
 exact ⟨l[i]'(by omega), List.getElem?_eq_getElem (by omega)⟩
theorem Wk.rel {M : Mem} {v u : V} (h : Wk v u) : ∀ x, RF M v x → RF M u x := by
 induction h with
 | refl v => exact fun x h => h
 | nil k c =>
   intro x h
   cases h with
   | w h => exact .sl (c := c) (rows' := []) (Nat.zero_le _) (fun h => absurd rfl h) rfl (fun i r j x h => by simp at h) (fun i r r' h => by simp at h) (fun i r r' j x y h => by simp at h)
 | agg hl _ ih =>
   intro x h
   cases h with
   | agg hl' hh =>
     refine .agg (by omega) fun i u y h1 h2 => ?_
     obtain ⟨a, h3⟩ := len_get hl h1
     exact ih i a u h3 h1 _ (hh i a y h3 h2)
 | tup hl _ ih =>
   intro x h
   cases h with
   | tup hl' hh =>
     refine .tup (by omega) fun i u y h1 h2 => ?_
     obtain ⟨a, h3⟩ := len_get hl h1
     exact ih i a u h3 h1 _ (hh i a y h3 h2)
def Wks : List V → List V → Prop
 | [], [] => True
 | a :: l, b :: r => Wk a b ∧ Wks l r
 | _, _ => False
theorem Wks.pt : ∀ {l r : List V}, Wks l r → l.length = r.length ∧ ∀ (i : Nat) a b, l[i]? = some a → r[i]? = some b → Wk a b
 | [], [], _ => ⟨rfl, fun i a b h => by simp at h⟩
 | a :: l, b :: r, h => by
   obtain ⟨h1, h2⟩ := Wks.pt h.2
   refine ⟨by simp [h1], fun i x y hx hy => ?_⟩
   cases i with
   | zero => simp at hx hy; subst hx hy; exact h.1
   | succ i => exact h2 i x y (by simpa using hx) (by simpa using hy)
def tlOf : Nat → List V → Tl
 | _, [] => []
 | i, v :: l => (i, v) :: tlOf (i + 1) l
theorem tlOf_rel {R : V → Value → Prop} : ∀ {l l' i t v}, Pt R l l' → look (tlOf i l) t = some v → i ≤ t ∧ ∃ x, l'[t - i]? = some x ∧ R v x
 | [], l', i, t, v, hp, h => by cases h
 | u :: l, l', i, t, v, hp, h => by
   obtain ⟨x, r, rfl, h1, h2⟩ := hp.uncons
   simp only [tlOf, look] at h
   cases e : Nat.beq t i with
   | true =>
     rw [e] at h
     have := Nat.eq_of_beq_eq_true e
     simp only [cond_true, Option.some.injEq] at h
     subst h; subst this
     exact ⟨Nat.le_refl _, x, by simp, h1⟩
   | false =>
     rw [e] at h
     obtain ⟨g1, y, g2, g3⟩ := tlOf_rel h2 h
     refine ⟨by omega, y, ?_, g3⟩
     have : t - i = (t - (i + 1)) + 1 := by omega
     rw [this]; simpa using g2
def Ret (res : List RV) (post : V → Prop) (e : Ex) (tl : Tl) (L : List LB) : Prop :=
 (e = .normal ∨ e = .ret) ∧ ∃ v u p u', retV tl L res = some v ∧ fr L 6 v = some (u, p) ∧ (∀ e, e ∈ p → e.1 = e.2) ∧ Wk u u' ∧ post u'
theorem cv_intro {G f fn vargs post} (hG : G f = some fn) (h : VC 0 G fn.body (Ret fn.res post) (tlOf 0 vargs) []) : CV G f vargs post := by
 refine ⟨fun args bs m n Ma hF hb hs hp => ?_⟩
 have hM : StM (N := 0) ⟨m, Ma, n, bs, [], [], Nat.le_refl _⟩ [] Ma [] m n := ⟨hb, Nat.le_refl _, hF, rfl, fun b x hx => ⟨hs b x hx, .inl hx, fun i lb e => by simp at e⟩, sub_refl _, hF, sub_refl _, (fun a ha => by simp at ha), fun i a lb e => by simp at e, fun i lb e => by simp at e, fun i j a l1 l2 e => by simp at e, fun i a lb e => by simp at e⟩
 have hS : Slots Ma [] (tlOf 0 vargs) (tm0 args) := fun t v hv => by
  obtain ⟨_, x, h1, h2⟩ := tlOf_rel hp hv
  have : tm0 args t = x := by simp only [tm0, List.getD]; rw [show t = t - 0 from rfl, h1]; rfl
  rw [this]; exact .fz h2
 obtain ⟨e, tm1, m1, n1, Z1, M1, tl1, L1, hb1, he, hM1, hS1, hex, v, u0, p, u, h1, h2, h3, hwk, h4⟩ := h _ _ _ _ _ _ hM hS
 obtain ⟨x, g1, g2⟩ := retV_rel hM1 hS1 h1
 refine ⟨x, m1, n1, .call hG hb1 hex g1, u, fun b => if Ma b = none ∧ b < n then none else m1 b, ?_, h4, hM1.h0, fun b y hy => ?_, fun b y hy => ?_⟩
 · refine hwk.rel _ (fr_rel hM1 (fun b y hy => ?_) (fun i a lb hz => ?_) 6 v u0 p x h2 h3 g2)
   · obtain ⟨k1, k2, _⟩ := hM1.hM b y hy
     show (if Ma b = none ∧ b < n then none else m1 b) = some y
     rw [if_neg (fun hc => by
      rcases k2 with k2 | k2
      · have k2 : Ma b = some y := k2
        rw [hc.1] at k2; cases k2
      · exact absurd hc.2 (Nat.not_lt.2 k2))]
     exact k1
   · have : n ≤ a := by
      rcases (hM1.cell i a lb hz).1 with h | h
      · exact h
      · simp at h
     show (if Ma a = none ∧ a < n then none else m1 a) = m1 a
     rw [if_neg (fun hc => absurd hc.2 (Nat.not_lt.2 this))]
 · simp only at hy
   split at hy
   · cases hy
   · exact hy
 · simp only at hy
   split at hy
   · cases hy
   · rename_i hn
     by_cases hbn : b < n
     · left
       cases hmb : Ma b with
       | none => exact absurd ⟨hmb, hbn⟩ hn
       | some z => rw [← hy, hM1.h0 b z (hs b z hmb)]
     · right; omega
end Go.Proofs.YtoppcdecolponaaDoor.AL
