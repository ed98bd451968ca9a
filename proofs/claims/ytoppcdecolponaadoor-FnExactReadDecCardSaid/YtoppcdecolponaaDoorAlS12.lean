/- Whatever the small language's run comes to, the model's run comes to. -/
import Derived.Test.YtoppcdecolponaaDoorAlS11
import Derived.LoopN
namespace Go.Proofs.YtoppcdecolponaaDoor.AL
open Go
set_option linter.unusedVariables false
set_option linter.unusedSimpArgs false
variable {no : No} {P : Program}
def resOne (tmps : Array Value) : ResultVar → Sem Value
 | .tmp t => pure (tmps.getD t undef)
 | .cell a t => do loadVar t (← asAddr (tmps.getD a undef))
theorem results_eq (f : Func) (tmps : Array Value) : results f tmps = (do
 let vs ← f.results.mapM (resOne tmps)
 pure (if h : vs.size = 1 then vs[0] else .tuple vs)) := by
 unfold results
 congr 1
theorem resOne_sim {nt : Nat} {β : Inj} {tm : Tm} {a : Act} {m : Mem} {w : World} (hF : FRel no nt β tm a) (hM : MRel no β m w) {x : ResultVar} {r : RV} (hc : cR P x = some r) {v : Value} (hv : retv1 tm m r = some v) :
 ∃ rv, (resOne a.tmps x).run P w = .ok rv w ∧ VRel no β v rv := by
 cases x with
 | tmp t =>
   simp only [cR, Option.some.injEq] at hc
   subst hc
   simp only [retv1, Option.some.injEq] at hv
   subst hv
   exact ⟨_, by simp [resOne], hF.slots t⟩
 | cell t ty =>
   simp only [cR, Option.bind_eq_bind, Option.bind_eq_some_iff] at hc
   obtain ⟨b, hb, hc⟩ := hc
   have hs := hF.slots t
   cases b with
   | true =>
     simp only [if_true, Option.bind_eq_some_iff, Option.some.injEq] at hc
     obtain ⟨k, hk, rfl⟩ := hc
     simp only [retv1] at hv
     split at hv
     · rename_i ad he
       split at hv
       · rename_i us hu
         simp only [Option.some.injEq] at hv
         subst hv
         rw [he] at hs
         obtain ⟨ra, hra⟩ := ptr_of hs
         rw [hra] at hs
         obtain ⟨rs, hrun, hl, hsz, hrel⟩ := rdn_sim P hM hs hu
         refine ⟨.agg rs, ?_, .agg (by simp [hl, hsz]) fun i x y hx hy => hrel i x y (by simpa using hx) hy⟩
         simp only [resOne, hra]
         simp [asAddr, loadVar, run_aggT hb, run_sizeT hk, hrun]
       · cases hv
     · cases hv
   | false =>
     simp only [Bool.false_eq_true, if_false, Option.some.injEq] at hc
     subst hc
     simp only [retv1] at hv
     split at hv
     · rename_i ad he
       rw [he] at hs
       obtain ⟨ra, hra⟩ := ptr_of hs
       rw [hra] at hs
       obtain ⟨r, hr, hrel⟩ := rd_sim hM hs hv
       refine ⟨r, ?_, hrel⟩
       simp only [resOne, hra]
       simp [asAddr, loadVar, run_aggT hb, hr]
     · cases hv
theorem retvs_sim {nt : Nat} {β : Inj} {tm : Tm} {a : Act} {m : Mem} {w : World} (hF : FRel no nt β tm a) (hM : MRel no β m w) : ∀ (xs : List ResultVar) (rs : List RV) (vs : List Value), xs.mapM (cR P) = some rs → retvs tm m rs = some vs →
 ∃ out : List Value, (xs.mapM (resOne a.tmps)).run P w = .ok out w ∧ out.length = vs.length ∧ ∀ (i : Nat) x y, vs[i]? = some x → out[i]? = some y → VRel no β x y
 | [], rs, vs, h, hv => by
   simp at h; subst h
   simp only [retvs, Option.some.injEq] at hv
   subst hv
   exact ⟨[], by simp, rfl, fun i x y hx => by simp at hx⟩
 | x :: xs, rs, vs, h, hv => by
   simp only [List.mapM_cons, Option.bind_eq_bind, Option.bind_eq_some_iff, Option.pure_def, Option.some.injEq] at h
   obtain ⟨r, hr, rs', hrs, rfl⟩ := h
   simp only [retvs] at hv
   split at hv
   · rename_i v vs' h1 h2
     simp only [Option.some.injEq] at hv
     subst hv
     obtain ⟨rv, e1, e2⟩ := resOne_sim hF hM hr h1
     obtain ⟨out, e3, e4, e5⟩ := retvs_sim hF hM xs rs' vs' hrs h2
     refine ⟨rv :: out, by simp [List.mapM_cons, e1, e3], by simp [e4], fun i x y hx hy => ?_⟩
     cases i with
     | zero => simp at hx hy; subst hx; subst hy; exact e2
     | succ i => exact e5 i x y (by simpa using hx) (by simpa using hy)
   · cases hv
theorem results_sim {nt : Nat} {β : Inj} {tm : Tm} {a : Act} {m : Mem} {w : World} (hF : FRel no nt β tm a) (hM : MRel no β m w) {f : Func} {res : List RV} (hc : f.results.toList.mapM (cR P) = some res) {v : Value} (hv : retv res tm m = some v) :
 ∃ rv, (results f a.tmps).run P w = .ok rv w ∧ VRel no β v rv := by
 unfold retv at hv
 cases hvs : retvs tm m res with
 | none => rw [hvs] at hv; cases hv
 | some vs =>
   obtain ⟨out, e1, e2, e3⟩ := retvs_sim hF hM f.results.toList res vs hc hvs
   rw [hvs] at hv
   rw [results_eq, Array.mapM_eq_mapM_toList]
   have hrel : ∀ (i : Nat) x y, vs.toArray[i]? = some x → out.toArray[i]? = some y → VRel no β x y := fun i x y hx hy => e3 i x y (by simpa using hx) (by simpa using hy)
   by_cases h1 : vs.length = 1
   · obtain ⟨x, rfl⟩ := List.length_eq_one_iff.1 h1
     simp only [Option.some.injEq] at hv
     subst hv
     obtain ⟨y, rfl⟩ := List.length_eq_one_iff.1 (e2.trans h1)
     exact ⟨y, by simp [e1], e3 0 x y rfl rfl⟩
   · have hv' : v = .tuple vs.toArray := by
      split at hv
      · rename_i x h2; simp only [Option.some.injEq] at h2; subst h2; exact absurd rfl h1
      · rename_i vs' _ h2; simp only [Option.some.injEq] at h2 hv; subst h2; exact hv.symm
      · rename_i h2; cases h2
     subst hv'
     refine ⟨.tuple out.toArray, ?_, .tuple (by simp [e2]) hrel⟩
     have : ¬ out.length = 1 := by omega
     simp [e1, this]
def exR : Ex → Exit
 | .normal => .normal
 | .exit i => .exit i
 | .ret => .ret
def wpx (P : Program) (k : Nat) (c : Code) (Q : Exit → Act → World → Prop) (a : Act) (w : World) : Prop :=
 match c with
 | .loop c => Code.rounds P c Q k a w
 | c => c.wp P Q a w
theorem wpx.wp {k : Nat} {c : Code} {Q : Exit → Act → World → Prop} {a : Act} {w : World} (h : wpx P k c Q a w) : c.wp P Q a w := by
 cases c with
 | loop c => exact wp_loop_rounds k h
 | _ => exact h
def SemC (P : Program) (no : No) (bs : Nat) (c : C) (tm : Tm) (m : Mem) (n : Nat) (e : Ex) (tm1 : Tm) (m1 : Mem) (n1 : Nat) : Prop :=
 ∃ k, ∀ (nt : Nat) (code : Code) (β : Inj) (w : World) (a : Act) (Q : Exit → Act → World → Prop), cC P no nt code = some c → BLt β n → FRel no nt β tm a → MRel no β m w →
     (∀ β1 a' w', Ext β β1 m bs n n1 w → FRel no nt β1 tm1 a' → MRel no β1 m1 w' → Frm β m bs n w w' → Q (exR e) a' w') → wpx P k code Q a w
def Hdj (h : Mem) (X : Xs) (m : Mem) (n : Nat) : Prop := (∀ b x, h b = some x → m b = none) ∧ ∀ b, XIn X b → b < n ∧ m b = none
def Hdn (h : Mem) (X : Xs) : Nat → Prop := fun b => h b ≠ none ∨ XIn X b
def Sem1 (P : Program) (no : No) (bs : Nat) : Task → Mem → Nat → Res → Mem → Nat → Prop
 | .code c tm, m, n, .exit e tm1, m1, n1 => SemC P no bs c tm m n e tm1 m1 n1
 | .ops l tm, m, n, .exit e tm1, m1, n1 => e = .normal ∧ ∃ m2, TrL P no bs (fun _ => False) [] l tm m n tm1 m2 n1 ∧ sub m1 m2
 | .opsH h X l tm, m, n, .exit e tm1, m1, n1 => Hdj h X m n → e = .normal ∧ ∃ m2, TrL P no bs (Hdn h X) X l tm (mrg h m) n tm1 m2 n1 ∧ sub m1 m2
 | .call f args, m, n, .ret v, m1, n1 => CallSim P no bs f args m n v m1 n1
 | _, _, _, _, _, _ => True
theorem BLt.none {β : Inj} {n n1 : Nat} (h : BLt β n) : ∀ b, n ≤ b → b < n1 → β b = none := fun b hb _ => h b hb
theorem cC_code {nt : Nat} {code : Code} {c : C} (h : cC P no nt code = some c) :
 match c with
 | .skip => code = .skip
 | .rg l => ∃ id ops draw, code = .region id ops draw ∧ cL P no nt ops draw = some l
 | .seq a b => ∃ x y, code = .seq x y ∧ cC P no nt x = some a ∧ cC P no nt y = some b
 | .cond e a b => ∃ o x y, code = .cond o x y ∧ cE no o = some e ∧ cC P no nt x = some a ∧ cC P no nt y = some b
 | .block i a => ∃ x, code = .block i x ∧ cC P no nt x = some a
 | .loop a => ∃ x, code = .loop x ∧ cC P no nt x = some a
 | .exit i => code = .exit i
 | .ret => code = .ret := by
 cases code with
 | skip => simp only [cC, Option.some.injEq] at h; subst h; rfl
 | region id ops draw =>
   simp only [cC, Option.map_eq_some_iff] at h
   obtain ⟨l, hl, rfl⟩ := h
   exact ⟨_, _, _, rfl, hl⟩
 | seq x y =>
   simp only [cC, Option.bind_eq_bind, Option.bind_eq_some_iff, Option.some.injEq] at h
   obtain ⟨a, ha, b, hb, rfl⟩ := h
   exact ⟨_, _, rfl, ha, hb⟩
 | cond o x y =>
   simp only [cC, Option.bind_eq_bind, Option.bind_eq_some_iff, Option.some.injEq] at h
   obtain ⟨e, he, a, ha, b, hb, rfl⟩ := h
   exact ⟨_, _, _, rfl, he, ha, hb⟩
 | block i x =>
   simp only [cC, Option.bind_eq_bind, Option.bind_eq_some_iff, Option.some.injEq] at h
   obtain ⟨a, ha, rfl⟩ := h
   exact ⟨_, rfl, ha⟩
 | loop x =>
   simp only [cC, Option.bind_eq_bind, Option.bind_eq_some_iff, Option.some.injEq] at h
   obtain ⟨a, ha, rfl⟩ := h
   exact ⟨_, rfl, ha⟩
 | exit i => simp only [cC, Option.some.injEq] at h; subst h; rfl
 | ret => simp only [cC, Option.some.injEq] at h; subst h; rfl
 | _ => simp [cC] at h
theorem FRel.less {nt : Nat} {β : Inj} {tm tm2 : Tm} {a : Act} (h : FRel no nt β tm a) (h2 : ∀ t, tm2 t = junk ∨ tm2 t = tm t) : FRel no nt β tm2 a :=
 ⟨h.size, h.defers, fun t => by
   rcases h2 t with e | e
   · rw [e]; exact .junk
   · rw [e]; exact h.slots t⟩
theorem MRel.back {β β1 : Inj} {m m1 : Mem} {w w1 : World} (h : MRel no β m w) (h1 : MRel no β1 m1 w1) (hs : sub m m1) (e : Ext0 β β1) : MRel no β m w1 := by
 refine ⟨fun b L hb => h1.bound b L (e _ _ hb), fun b blk L hb eb i v hv => ?_, fun b blk L hb eb ho => h1.own b blk L (hs _ _ hb) (e _ _ eb) ho, fun b blk L hb eb ho => h.ro b blk L hb eb ho,
  fun b b' blk blk' L L' hb ho eb hb' eb' hne => h.apart b b' blk blk' L L' hb ho eb hb' eb' hne, h1.kept, fun b blk L hb eb ho => h.ownS b blk L hb eb ho⟩
 obtain ⟨r0, hr0, hv0⟩ := h.cells b blk L hb eb i v hv
 obtain ⟨r1, hr1, hv1⟩ := h1.cells b blk L (hs _ _ hb) (e _ _ eb) i v hv
 exact ⟨r1, hr1, hv0.back e hv1⟩
theorem MRel.drawn {β : Inj} {m : Mem} {w : World} {k : Nat} (h : MRel no β m w) : MRel no β m { w with drawn := k } :=
 ⟨h.bound, fun b blk L hb e i v hv => by
   obtain ⟨r, hr, hrel⟩ := h.cells b blk L hb e i v hv
   exact ⟨r, hr, hrel⟩, h.own, h.ro, h.apart, h.kept, h.ownS⟩
theorem mapM_zip {nt : Nat} {ops : Array Oper} : ∀ {lo : List Oper} {l : List IOp}, lo.mapM (cI P no nt ops false) = some l → CompL P no nt ops lo l
 | [], l, h => by simp at h; subst h; trivial
 | o :: lo, l, h => by
   simp only [List.mapM_cons, Option.bind_eq_bind, Option.bind_eq_some_iff, Option.pure_def, Option.some.injEq] at h
   obtain ⟨io, hio, l', hl, rfl⟩ := h
   exact ⟨hio, mapM_zip hl⟩
theorem mapM_at {α γ : Type} {f : α → Option γ} : ∀ {xs : List α} {ys : List γ}, xs.mapM f = some ys → ys.length = xs.length ∧ ∀ (i : Nat) (x : α) (y : γ), xs[i]? = some x → ys[i]? = some y → f x = some y
 | [], ys, h => by simp at h; subst h; simp
 | x :: xs, ys, h => by
   simp only [List.mapM_cons, Option.bind_eq_bind, Option.bind_eq_some_iff, Option.pure_def, Option.some.injEq] at h
   obtain ⟨y, hy, ys', hys, rfl⟩ := h
   obtain ⟨h1, h2⟩ := mapM_at hys
   refine ⟨by simp [h1], fun i a b ha hb => ?_⟩
   cases i with
   | zero => simp at ha hb; subst ha; subst hb; exact hy
   | succ i => exact h2 i a b (by simpa using ha) (by simpa using hb)
theorem region_sim (hm : P.follows .mixedOrders = true) {bs n n1 : Nat} {l : List IOp} {tm tm1 : Tm} {m m1 : Mem} {H : Nat → Prop} {X : Xs} (h : TrL P no bs H X l tm m n tm1 m1 n1) {nt : Nat} {id : Nat} {ops : Array Oper} {draw : Bool} (hc : cL P no nt ops draw = some l)
 {β : Inj} {w : World} {a : Act} {Q : Exit → Act → World → Prop} (hβ : BLt β n) (hF : FRel no nt β tm a) (hM : MRel no β m w)
 (hQ : ∀ β1 a' w', Ext β β1 m bs n n1 w → FRel no nt β1 tm1 a' → MRel no β1 m1 w' → Frm β m bs n w w' → Q .normal a' w') : (Code.region id ops draw).wp P Q a w := by
 cases draw with
 | false =>
   simp only [cL, Bool.false_eq_true, if_false] at hc
   exact wp_region_list (tr_text h nt ops ops.toList (mapM_zip hc) β w a Q hβ hF hM hQ)
 | true =>
   simp only [cL, if_true, Option.bind_eq_some_iff] at hc
   obtain ⟨l', hl, hc⟩ := hc
   split at hc
   · rename_i hck
     simp only [Option.some.injEq] at hc
     subst hc
     simp only [Bool.and_eq_true] at hck
     obtain ⟨hlen, hat⟩ := mapM_at hl
     have hlen' : l'.length = ops.size := by simpa using hlen
     obtain ⟨TM, MM, NN, VV, HH, XX, tgt, e1, e2, e3, e7, e8, e4, e5, e6, hS⟩ := tr_steps h
     subst e1 e2 e3
     refine wp_region_any hm ?_
     refine tr_draw hS (nt := nt) hlen' (fun i o io ho hio => ?_) hck.1 hck.2.1 hck.2.2 (β0 := β) (w0 := { w with drawn := w.drawn + 1 }) hβ (Q := Q) ?_ ops.size _ β _ a (by simp) ?_ ?_
     · have := hat i (o, i) io (by rw [List.getElem?_zipIdx]; simp [ho]) hio
       exact this
     · intro β1 a' w' he hF1 hM1 hf
       rw [e4] at hF1; rw [e5] at hM1; rw [e6] at he
       exact hQ β1 a' w' ⟨he.old, he.only, he.fresh⟩ hF1 hM1 ⟨hf.os, hf.tape, hf.output, hf.size, hf.block⟩
     · exact Nat.le_trans (cnt_le ..) (by omega)
     · have hno : ∀ k, (Array.replicate ops.size false).getD k false = false := by
        intro k
        simp only [Array.getD_eq_getD_getElem?, Array.getElem?_replicate]
        split <;> rfl
       have hlv : ∀ k t, lv (TM 0) (fun i => (l'[i]?).bind (·.d)) VV (fun k => (Array.replicate ops.size false).getD k false) k t = TM 0 t := by
        intro k t
        induction k with
        | zero => rfl
        | succ k ih => simp only [lv]; rw [if_neg (by rw [hno]; decide)]; exact ih
       refine ⟨hF.size, hF.defers, fun j k _ h2 _ => absurd h2 (by rw [hno]; decide), fun b hb => .inl ?_, Ext.refl .., Frm.refl .., fun m' hm' => ?_, fun j b _ h2 _ => absurd h2 (by rw [hno]; decide), fun t => ?_⟩
       · rcases Nat.lt_or_ge b (NN 0) with h2 | h2
         · exact h2
         · exact absurd (hβ b h2) hb
       · -- no barrier before the place
         have hbq : ∀ i io, l'[i]? = some io → io.q = !barrier ops (Region.before ops) i := by
          intro i io hio
          have hil : i < l'.length := (List.getElem?_eq_some_iff.1 hio).1
          have h3 := hat i (ops[i], i) io (by rw [List.getElem?_zipIdx]; simp) hio
          exact (cI_inv h3).2.2.2.1
         refine (hM.drawn).ofDom fun b L blk e hb => ?_
         have hb0 : b < NN 0 := by
          rcases Nat.lt_or_ge b (NN 0) with h2 | h2
          · exact h2
          · rw [hβ b h2] at e; cases e
         obtain ⟨k, hk, hk1, _, hAt⟩ := hm' b blk hb
         have hnb : ∀ j, j < k → barrier ops (Region.before ops) j = false := by
          intro j hj
          cases e : barrier ops (Region.before ops) j with
          | false => rfl
          | true => have h9 : (Array.replicate ops.size false).getD j false = true := hk1 j hj e; rw [hno] at h9; cases h9
         rcases hAt with ⟨j, hw, _, hpre, h6⟩ | ⟨j, hw, hdn, _⟩ | ⟨hnw, h6⟩
         · obtain ⟨hj, ht, hs⟩ := hw
           have hbx : ∀ y, y < j → barrier ops (Region.before ops) y = false := fun y h4 => by
            rcases Nat.lt_or_ge y k with h5 | h5
            · exact hnb y h5
            · cases e2 : barrier ops (Region.before ops) y with
              | false => rfl
              | true => exact absurd ⟨h5, Nat.le_of_lt h4⟩ (hs y e2).2
           refine hS.down hbq hb0 j (by omega) (by omega) (fun x h1 h2 => ⟨hbx x h2, fun e3 => ?_⟩) h6
           have h9 : (Array.replicate ops.size false).getD x false = true := hpre x ⟨by omega, e3, fun y hy => ⟨fun h5 => ?_, fun h5 => ?_⟩⟩ h2
           · rw [hno] at h9; cases h9
           · rw [hnb y h5.2] at hy; cases hy
           · rw [hbx y (by omega)] at hy; cases hy
         · have h9 : (Array.replicate ops.size false).getD j false = true := hdn j hw
           rw [hno] at h9; cases h9
         · refine hS.down hbq hb0 k (by omega) hk (fun x h1 h2 => ⟨hnb x h2, fun e3 => hnw x ⟨by omega, e3, fun y hy => ⟨fun h8 => ?_, fun h8 => by omega⟩⟩⟩) h6
           rw [hnb y h8.2] at hy; cases hy
       · rw [hlv]; exact hF.slots t
   · cases hc
theorem qt_keep {q : Bool} {n : Nat} {m m2 : Mem} (hdm : ∀ b, b < n → Own m2 b → Own m b) (h : q = true → ∀ b blk, b < n → m2 b = some blk → m b = some blk) : Qt q n (fun _ => False) m m m2 m2 :=
 ⟨fun _ => ⟨rfl, rfl⟩, ⟨fun hq => ⟨fun b x e => ⟨e, fun h => h⟩, fun b x e => by
   rcases Nat.lt_or_ge b n with h2 | h2
   · exact .inl ⟨h2, h hq b x h2 e⟩
   · exact .inr ⟨h2, e⟩⟩, hdm⟩⟩
theorem Big.enter {G : Prg} (hL : Link P no G) {bs f : Nat} {args : List Value} {m : Mem} {n : Nat} {r : Res} {m1 : Mem} {n1 : Nat} (h : Big G bs (.call f args) m n r m1 n1) : ∀ fr, no fr = some f → ∀ (rargs : Array Value) (w : World), (callFunc fr rargs).run P w = .ok (.enter fr rargs) w := by
 have : ∀ {bs T m n r m1 n1}, Big G bs T m n r m1 n1 → ∀ f args, T = .call f args → ∀ fr, no fr = some f → ∀ (rargs : Array Value) (w : World), (callFunc fr rargs).run P w = .ok (.enter fr rargs) w := by
  intro bs T m n r m1 n1 h
  induction h with
  | call hf =>
    intro f args e fr hno rargs w
    cases e
    obtain ⟨pf, hpf, hcf⟩ := (hL.1 _ _ hf).2 fr hno
    exact call_enter hpf hcf rargs w
  | callS _ _ _ ih => intro f args e; exact ih f args e
  | callN hv => intro f args e fr hno rargs w; cases e; exact (hL.2.1 _ _ _ hv fr hno).1 rargs w
  | callJ hv =>
    intro f args e fr hno rargs w; cases e
    obtain ⟨rfl, _⟩ := natJ_inv hv
    exact (hL.2.2 fr hno).1 rargs w
  | drop _ _ ih => intro f args e; exact ih f args e
  | _ => intro f args e; cases e
 exact this h f args rfl
theorem MRel.grow {β : Inj} {m : Mem} {w w' : World} (h : MRel no β m w) (hb : Go.RowKit.Below w.heap.size w w') : MRel no β m w' :=
 ⟨fun b L e => Nat.lt_of_lt_of_le (h.bound b L e) hb.size, fun b blk L hk e i v hv => by
   obtain ⟨r, h1, h2⟩ := h.cells b blk L hk e i v hv
   exact ⟨r, by rw [World.cell?_of_block (w := w) (hb.block _ (h.bound b L e))]; exact h1, h2⟩,
  fun b blk L hk e ho => by rw [hb.block _ (h.bound b L e)]; exact h.own b blk L hk e ho, h.ro, h.apart,
  ⟨Nat.le_trans h.kept.1 hb.size, fun B hB => by rw [hb.block B (Nat.lt_of_lt_of_le hB h.kept.1)]; exact h.kept.2 B hB⟩, h.ownS⟩
theorem nat_rargs {β : Inj} {f : Nat} {args : List Value} {v : Value} {rargs : Array Value} (h : nat f args = some v) (hsz : rargs.size = args.length) (hrel : ∀ (i : Nat) x y, args[i]? = some x → rargs[i]? = some y → VRel no β x y) : rargs = args.toArray := by
 apply Array.ext
 · simpa using hsz
 · intro i h1 h2
   have h3 : i < args.length := by simpa using h2
   have := hrel i args[i] rargs[i] (List.getElem?_eq_getElem h3) (Array.getElem?_eq_getElem h1)
   have key : rargs[i] = args[i] := by
    rcases nat_args h args[i] (List.getElem_mem h3) with ⟨s, e⟩ | ⟨k, n, e⟩
    · rw [e] at this ⊢
      revert this; generalize rargs[i] = y; intro this; cases this; rfl
    · rw [e] at this ⊢
      revert this; generalize rargs[i] = y; intro this; cases this; rfl
   simpa using key
theorem qt_hid {n : Nat} {h m m1 : Mem} {X : Xs} (hd : Hdj h X m n) (hk : ∀ b blk, b < n → m1 b = some blk → m b = some blk) (hh : ∀ b x, h b = some x → b < n) (hdm : ∀ b, b < n → Own m1 b → Own m b) : Qt true n (Hdn h X) (mrg h m) m m1 (mrg h m1) := by
 refine ⟨fun e => absurd e (by decide), fun _ => ⟨fun b x e => ?_, fun b x e => ?_⟩, fun b hb e => own_mrg (hdm b hb) e⟩
 · cases e1 : h b with
   | some y => rw [hd.1 b y e1] at e; cases e
   | none =>
     refine ⟨by rw [mrg_none e1]; exact e, fun h => ?_⟩
     rcases h with h | h
     · exact h e1
     · have := (hd.2 b h).2; rw [this] at e; cases e
 · rcases mrg_inv e with e1 | ⟨e0, e1⟩
   · exact .inl ⟨hh b x e1, mrg_some e1⟩
   · rcases Nat.lt_or_ge b n with h2 | h2
     · exact .inl ⟨h2, by rw [mrg_none e0]; exact hk b x h2 e1⟩
     · exact .inr ⟨h2, e1⟩
theorem hid_disj {n n1 : Nat} {h m m1 : Mem} {X : Xs} (hn : n ≤ n1) (hd : Hdj h X m n) (hk : ∀ b blk, b < n → m1 b = some blk → m b = some blk) (hh : ∀ b x, h b = some x → b < n) : Hdj h X m1 n1 := by
 have gen : ∀ b, b < n → m b = none → m1 b = none := by
  intro b hb e
  cases e1 : m1 b with
  | none => rfl
  | some y => have := hk b y hb e1; rw [e] at this; cases this
 exact ⟨fun b x e => gen b (hh b x e) (hd.1 b x e), fun b hb => ⟨by have := (hd.2 b hb).1; omega, gen b (hd.2 b hb).1 (hd.2 b hb).2⟩⟩
theorem HvR.hv {o : O} {tm : Tm} {n : Nat} {h m mh mh' h2 m2 : Mem} {X : Xs} {T : List Nat} (hv : HvR o tm n h X T m mh mh' h2 m2) (hd : Hdj h X m n) (hh : MLt h n) (ho : ∀ b, b < n → Own mh' b → Own mh b) :
 Hv o tm n (Hdn h X) X T (mrg h m) mh mh' (mrg h2 m2) := by
 have hm0 : ∀ b x, m b = some x → h b = none := fun b x e => by
  cases e1 : h b with
  | none => rfl
  | some y => rw [hd.1 b y e1] at e; cases e
 refine ⟨fun b x e => ?_, fun b x e => ?_, fun b hb => ?_, hv.keep, fun b x e => ?_, hv.ownB ho⟩
 · rcases hv.sub b x e with ⟨_, e1⟩ | e1
   · exact mrg_some e1
   · rw [mrg_none (hm0 b x e1)]; exact e1
 · rcases hv.sub b x e with ⟨e1, _⟩ | e1
   · exact .inl e1
   · refine .inr fun h1 => ?_
     rcases h1 with h1 | h1
     · exact h1 (hm0 b x e1)
     · have := (hd.2 b h1).2; rw [this] at e1; cases e1
 · obtain ⟨h1, _, ⟨x, h3, h4⟩, h5⟩ := hv.tgt b hb
   exact ⟨.inl (by rw [h3]; simp), h1, (hh b x h3).1, ⟨x, h4⟩, h5⟩
 · rcases mrg_inv e with e1 | ⟨e0, e1⟩
   · rcases hv.outH b x e1 with ⟨h1, h2, h3⟩ | ⟨h1 | h1, h2⟩
     · exact .inl ⟨h1, h2, mrg_some h3⟩
     · exact .inr (.inl ⟨h1, h2⟩)
     · exact .inr (.inr ⟨h1, h2⟩)
   · rcases hv.outM b x e1 with ⟨h1, h2⟩ | ⟨h1, h2⟩
     · refine .inl ⟨h1, fun hT => ?_, by rw [mrg_none (hm0 b x h2)]; exact h2⟩
       have := (hv.tgt b hT).2.1; rw [this] at h2; cases h2
     · exact .inr (.inr ⟨h1, h2⟩)
theorem HvR.dj {o : O} {tm : Tm} {n n1 : Nat} {h m mh mh' h2 m2 : Mem} {X : Xs} {T : List Nat} (hv : HvR o tm n h X T m mh mh' h2 m2) (hn : n ≤ n1) (hd : Hdj h X m n) (hh : MLt h n) : Hdj h2 (XAdd o T X) m2 n1 := by
 refine ⟨hv.dis, fun b hb => ?_⟩
 have key : b < n ∧ m b = none := by
  rcases XAdd.xin.1 hb with h1 | h1
  · obtain ⟨_, h2, ⟨x, h3, _⟩, _⟩ := hv.tgt b h1
    exact ⟨(hh b x h3).1, h2⟩
  · exact hd.2 b h1
 refine ⟨by omega, ?_⟩
 cases e : m2 b with
 | none => rfl
 | some x =>
   rcases hv.outM b x e with ⟨_, h2⟩ | ⟨h2, _⟩
   · rw [key.2] at h2; cases h2
   · omega
theorem HvR.nx {o : O} {tm : Tm} {n : Nat} {h m mh mh' h2 m2 : Mem} {X : Xs} {T : List Nat} {q : Bool} (hv : HvR o tm n h X T m mh mh' h2 m2) : Nx q n (Hdn h X) X (Hdn h2 (XAdd o T X)) (XAdd o T X) := by
 refine fun _ => ⟨fun b hb => ?_, fun b hb => ?_, fun p hb => XAdd.mem.2 (.inr hb)⟩
 · rcases hb with hb | hb
   · by_cases hT : b ∈ T
     · exact .inr (XAdd.xin.2 (.inl hT))
     · cases e : h b with
       | none => exact absurd e hb
       | some x => exact .inl (by rw [hv.stay b x e hT]; simp)
   · exact .inr (XAdd.xin.2 (.inr hb))
 · have hT : b ∈ T → h b ≠ none := fun h1 => by
    obtain ⟨_, _, ⟨x, h3, _⟩, _⟩ := hv.tgt b h1
    rw [h3]; simp
   rcases hb with hb | hb
   · cases e : h2 b with
     | none => exact absurd e hb
     | some x =>
       rcases hv.outH b x e with ⟨_, _, h3⟩ | ⟨h1 | h1, _⟩
       · exact .inl (.inl (by rw [h3]; simp))
       · exact .inl (.inl (hT h1))
       · exact .inr h1
   · rcases XAdd.xin.1 hb with h1 | h1
     · exact .inl (.inl (hT h1))
     · exact .inl (.inr h1)
theorem offG.guard {o : IOp} {tm : Tm} (h : offG o tm) : ∃ g b, o.g = some (g, b) ∧ ((∃ c, tm g = .bool c ∧ c ≠ b) ∨ ∃ vs, tm g = .tuple vs) := h
theorem at_leads {io : O} {tm : Tm} {s : Nat} {a : Addr} (h : io.at tm = some (s, a)) {bs n : Nat} {m m1 : Mem} {v : Value} {n1 : Nat} (hs : stepO bs io tm m n = some (v, m1, n1)) : Leads io tm a.block := by
 cases io with
 | st x v =>
   cases x with
   | k c => simp [O.at] at h
   | t s' =>
     simp only [O.at] at h
     split at h
     · rename_i ad hts
       cases h
       refine ⟨s, a, by simp [O.slots, E.slots], rfl, ?_, .inl hts⟩
       cases hsp : a.spot with
       | none => rfl
       | some k => simp [stepO, E.ev, hts, AL.wr, hsp] at hs
     · cases h
 | stn k x v =>
   cases x with
   | k c => simp [O.at] at h
   | t s' =>
     simp only [O.at] at h
     split at h
     · rename_i ad hts
       cases h
       refine ⟨s, a, by simp [O.slots, E.slots], rfl, ?_, .inl hts⟩
       cases hsp : a.spot with
       | none => rfl
       | some k =>
         simp only [stepO, E.ev, hts] at hs
         split at hs
         · rename_i a2 vs e1 e2
           cases e1
           split at hs
           · simp [AL.wrn, hsp] at hs
           · cases hs
         · cases hs
     · cases h
 | _ => simp [O.at] at h
theorem big_sim {G : Prg} (hm : P.follows .mixedOrders = true) (hL : Link P no G) {bs : Nat} {T : Task} {m : Mem} {n : Nat} {r : Res} {m1 : Mem} {n1 : Nat} (h : Big G bs T m n r m1 n1) : T.okT G = true → T.lt n → MLt m n → Sem1 P no bs T m n r m1 n1 := by
 have hG : ∀ f fn, G f = some fn → fn.body.ok = true := fun f fn hf => (hL.1 f fn hf).1
 have hL0 := hL.2.2
 induction h with
 | @skip bs tm m n =>
   intro _ hT hM
   refine show SemC .. from ⟨0, fun nt code β w a Q hc hβ hF hMR hQ => ?_⟩
   obtain rfl : code = .skip := cC_code hc
   exact wp_skip (hQ β a w (Ext.refl ..) hF hMR (Frm.refl ..))
 | @ret bs tm m n =>
   intro _ hT hM
   refine show SemC .. from ⟨0, fun nt code β w a Q hc hβ hF hMR hQ => ?_⟩
   obtain rfl : code = .ret := cC_code hc
   exact wp_ret (hQ β a w (Ext.refl ..) hF hMR (Frm.refl ..))
 | @exit bs tm m n i =>
   intro _ hT hM
   refine show SemC .. from ⟨0, fun nt code β w a Q hc hβ hF hMR hQ => ?_⟩
   obtain rfl : code = .exit i := cC_code hc
   exact wp_exit (hQ β a w (Ext.refl ..) hF hMR (Frm.refl ..))
 | @seqN bs ca cb tm m n tm1 m1 n1 r m2 n2 h1 h2 ih1 ih2 =>
   intro ho hT hM
   have ho' := ho
   simp only [Task.okT, C.ok, Bool.and_eq_true] at ho'
   obtain ⟨l1, l2, l3⟩ := h1.lt hG ho'.1 hT hM
   obtain ⟨k0, s1⟩ := ih1 ho'.1 hT hM
   have s2 := ih2 ho'.2 l2 l3
   have k1 := h1.keep.1
   have k2 := h2.keep.1
   cases r with
   | ret => trivial
   | exit e tm2 =>
     obtain ⟨k3, s2⟩ := s2
     refine show SemC .. from ⟨0, fun nt code β w a Q hc hβ hF hMR hQ => ?_⟩
     obtain ⟨x, y, rfl, hx, hy⟩ := cC_code hc
     refine wp_seq (s1 nt x β w a _ hx hβ hF hMR fun β1 a' w' he hF1 hM1 hf => ?_).wp
     refine (s2 nt y β1 w' a' Q hy (hβ.ext he k1) hF1 hM1 fun β2 a2 w2 he2 hF2 hM2 hf2 => ?_).wp
     exact hQ β2 a2 w2 (he.trans he2 h1.own k1 k2 hf.size hβ.none) hF2 hM2 (hf.trans he hf2 h1.own hβ.none)
 | @seqE bs ca cb tm m n e tm1 m1 n1 h1 hne ih =>
   intro ho hT hM
   have ho' := ho
   simp only [Task.okT, C.ok, Bool.and_eq_true] at ho'
   obtain ⟨k0, s1⟩ := ih ho'.1 hT hM
   refine show SemC .. from ⟨0, fun nt code β w a Q hc hβ hF hMR hQ => ?_⟩
   obtain ⟨x, y, rfl, hx, hy⟩ := cC_code hc
   refine wp_seq (s1 nt x β w a _ hx hβ hF hMR fun β1 a' w' he hF1 hM1 hf => ?_).wp
   have := hQ β1 a' w' he hF1 hM1 hf
   cases e with
   | normal => exact absurd rfl hne
   | exit i => exact this
   | ret => exact this
 | @cond bs c ca cb tm m n t r m1 n1 hct h1 ih =>
   intro ho hT hM
   have ho' := ho
   simp only [Task.okT, C.ok, Bool.and_eq_true] at ho'
   have s1 := ih (by cases t; exact ho'.2; exact ho'.1.2) hT hM
   cases r with
   | ret => trivial
   | exit e tm2 =>
     obtain ⟨k0, s1⟩ := s1
     refine show SemC .. from ⟨0, fun nt code β w a Q hc hβ hF hMR hQ => ?_⟩
     obtain ⟨o, x, y, rfl, he, hx, hy⟩ := cC_code hc
     have hv := E.sim hF he
     rw [hct] at hv
     have hv' : a.eval o = .bool t := by generalize a.eval o = z at hv; cases hv; rfl
     refine wp_cond hv' ?_
     refine (s1 nt (if t = true then x else y) β w a Q ?_ hβ hF hMR hQ).wp
     cases t
     · exact hy
     · exact hx
 | @block bs i c tm m n e tm1 m1 n1 h1 ih =>
   intro ho hT hM
   obtain ⟨k0, s1⟩ := ih ho hT hM
   refine show SemC .. from ⟨0, fun nt code β w a Q hc hβ hF hMR hQ => ?_⟩
   obtain ⟨x, rfl, hx⟩ := cC_code hc
   refine wp_block (s1 nt x β w a _ hx hβ hF hMR fun β1 a' w' he hF1 hM1 hf => ?_).wp
   have := hQ β1 a' w' he hF1 hM1 hf
   cases e with
   | normal => exact this
   | ret => exact this
   | exit j =>
     simp only [Ex.out] at this
     show if j = i then Q .normal a' w' else Q (.exit j) a' w'
     by_cases e : j = i
     · rw [if_pos e] at this ⊢; exact this
     · rw [if_neg e] at this ⊢; exact this
 | @loopN bs c tm m n tm1 m1 n1 r m2 n2 h1 h2 ih1 ih2 =>
   intro ho hT hM
   obtain ⟨l1, l2, l3⟩ := h1.lt hG ho hT hM
   obtain ⟨k0, s1⟩ := ih1 ho hT hM
   have s2 := ih2 ho l2 l3
   have k1 := h1.keep.1
   have k2 := h2.keep.1
   cases r with
   | ret => trivial
   | exit e tm2 =>
     obtain ⟨k3, s2⟩ := s2
     refine show SemC .. from ⟨k3 + 1, fun nt code β w a Q hc hβ hF hMR hQ => ?_⟩
     have hc' := hc
     obtain ⟨x, rfl, hx⟩ := cC_code hc
     refine (s1 nt x β w a (Exit.then (Code.rounds P x Q k3) Q) hx hβ hF hMR fun β1 a' w' he hF1 hM1 hf => ?_).wp
     exact s2 nt (.loop x) β1 w' a' Q hc' (hβ.ext he k1) hF1 hM1 fun β2 a2 w2 he2 hF2 hM2 hf2 => hQ β2 a2 w2 (he.trans he2 h1.own k1 k2 hf.size hβ.none) hF2 hM2 (hf.trans he hf2 h1.own hβ.none)
 | @loopE bs c tm m n e tm1 m1 n1 h1 hne ih =>
   intro ho hT hM
   obtain ⟨k0, s1⟩ := ih ho hT hM
   refine show SemC .. from ⟨1, fun nt code β w a Q hc hβ hF hMR hQ => ?_⟩
   obtain ⟨x, rfl, hx⟩ := cC_code hc
   refine (s1 nt x β w a _ hx hβ hF hMR fun β1 a' w' he hF1 hM1 hf => ?_).wp
   have := hQ β1 a' w' he hF1 hM1 hf
   cases e with
   | normal => exact absurd rfl hne
   | exit i => exact this
   | ret => exact this
 | @rg bs l tm m n tm1 m1 n1 h1 ih =>
   intro ho hT hM
   obtain ⟨_, m2, htr, hsub⟩ := ih ho hT hM
   refine show SemC .. from ⟨0, fun nt code β w a Q hc hβ hF hMR hQ => ?_⟩
   obtain ⟨id, ops, draw, rfl, hl⟩ := cC_code hc
   exact region_sim hm htr hl hβ hF hMR fun β1 a' w' he hF1 hM1 hf => hQ β1 a' w' he hF1 (hM1.mono hsub) hf
 | @opsNil bs tm m n => intro _ hT hM; exact ⟨rfl, m, .nil hT hM, fun _ _ h => h⟩
 | @opsSkip bs o l tm m n g b c r m1 n1 hg hv hne h1 ih =>
   intro ho hT hM
   simp only [Task.okT, List.all_cons, Bool.and_eq_true] at ho
   have s1 := ih ho.2 (TLt.put hT _ nov_lt) hM
   cases r with
   | ret => trivial
   | exit e tm2 =>
     obtain ⟨he, m2, htr, hsub⟩ := s1
     exact ⟨he, m2, .skip hg (.inl ⟨c, hv, hne⟩) hT hM (fun _ => ⟨fun b h => h, fun b h => .inl h, fun b h => h⟩) htr, hsub⟩
 | @opsNone bs o l tm m n g b vs r m1 n1 hg hv h1 ih =>
   intro ho hT hM
   simp only [Task.okT, List.all_cons, Bool.and_eq_true] at ho
   have s1 := ih ho.2 (TLt.put hT _ nov_lt) hM
   cases r with
   | ret => trivial
   | exit e tm2 =>
     obtain ⟨he, m2, htr, hsub⟩ := s1
     exact ⟨he, m2, .skip hg (.inr ⟨vs, hv⟩) hT hM (fun _ => ⟨fun b h => h, fun b h => .inl h, fun b h => h⟩) htr, hsub⟩
 | @opsPure bs o l tm m n v m1 n1 r m2 n2 hg hs h1 ih =>
   intro ho hT hM
   simp only [Task.okT, List.all_cons, Bool.and_eq_true] at ho
   obtain ⟨l1, l2, l3⟩ := step_lt ho.1 hs hT hM
   have s1 := ih ho.2 (TLt.put (hT.mono l1) _ l2) l3
   cases r with
   | ret => trivial
   | exit e tm2 =>
     obtain ⟨he, m2, htr, hsub⟩ := s1
     refine ⟨he, m2, .step hg (OpS.pure hM hs) l1 (qt_keep (step_own hs) fun hq b blk hb e => ?_) hT hM (fun _ => ⟨fun b h => h, fun b h => .inl h, fun b h => h⟩) htr, hsub⟩
     rw [hq] at hs
     exact (step_keep hs).2 b blk hb hb e
 | @opsAlt bs o l tm m n v m1 n1 r m2 n2 hg hq hs h1 ih =>
   intro ho hT hM
   simp only [Task.okT, List.all_cons, Bool.and_eq_true] at ho
   obtain ⟨l1, l2, l3⟩ := stepA_lt hs hM
   have s1 := ih ho.2 (TLt.put (hT.mono l1) _ l2) l3
   cases r with
   | ret => trivial
   | exit e tm2 =>
     obtain ⟨he, m3, htr, hsub⟩ := s1
     exact ⟨he, m3, .step hg (by rw [hq]; exact OpS.alt hM hs) l1 ⟨fun _ => ⟨rfl, rfl⟩, fun e => absurd e (by rw [hq]; decide), stepA_own hs⟩ hT hM (fun _ => ⟨fun b h => h, fun b h => .inl h, fun b h => h⟩) htr, hsub⟩
 | @opsCall bs o l tm m n f args v m1 n1 r m2 n2 hg hcal h1 h2 ih1 ih2 =>
   intro ho hT hM
   simp only [Task.okT, List.all_cons, Bool.and_eq_true] at ho
   have la := callee_lt ho.1 hT hcal
   obtain ⟨l1, l2, l3⟩ := h1.lt hG rfl la hM
   have s1 := ih1 rfl la hM
   have s2 := ih2 ho.2 (TLt.put (hT.mono l1) _ l2) l3
   cases r with
   | ret => trivial
   | exit e tm2 =>
     obtain ⟨he, m2, htr, hsub⟩ := s2
     have HE := h1.enter hL
     refine ⟨he, m2, .step hg (OpS.call HE hcal s1) l1 (qt_keep h1.own fun hq b blk hb e => ?_) hT hM (fun _ => ⟨fun b h => h, fun b h => .inl h, fun b h => h⟩) htr, hsub⟩
     have := h1.keep.2 b blk
     rw [if_pos hq] at this
     exact this hb hb e
 | @rgH bs h l tm m n tm1 m1 n1 hd h1 ih =>
   intro ho hT hM
   obtain ⟨hh, hm0⟩ := hM.unmrg hd
   obtain ⟨_, m2, htr, hsub⟩ := ih ho ⟨hT, hh⟩ hm0 ⟨hd, fun b hb => by obtain ⟨_, hb⟩ := hb; cases hb⟩
   refine show SemC .. from ⟨0, fun nt code β w a Q hc hβ hF hMR hQ => ?_⟩
   obtain ⟨id, ops, draw, rfl, hl⟩ := cC_code hc
   exact region_sim hm htr hl hβ hF hMR fun β1 a' w' he hF1 hM1 hf => hQ β1 a' w' he hF1 (hM1.mono hsub) hf
 | @opsPureH bs h o l tm m n v m1 n1 r m2 n2 hg hq hs hd h1 ih =>
   intro ho hT hM
   simp only [Task.okT, List.all_cons, Bool.and_eq_true] at ho
   obtain ⟨l1, l2, l3⟩ := step_lt ho.1 hs hT hM
   obtain ⟨l4, l5⟩ := l3.unmrg hd
   have s1 := ih ho.2 ⟨TLt.put (hT.mono l1) _ l2, l4⟩ l5
   cases r with
   | ret => trivial
   | exit e tm2 =>
     obtain ⟨he, m3, htr, hsub⟩ := s1 ⟨hd, fun b hb => by obtain ⟨_, hb⟩ := hb; cases hb⟩
     refine ⟨he, m3, .step hg (OpS.pure hM (by rw [hq]; exact hs)) l1 ⟨fun _ => ⟨rfl, rfl⟩, fun e => absurd e (by rw [hq]; decide), step_own hs⟩ hT hM (fun e => by rw [hq] at e; cases e) htr, hsub⟩
 | @hNil bs h X tm m n => intro _ hT hM hd; exact ⟨rfl, _, .nil hT.1 (hT.2.mrg hM), fun _ _ h => h⟩
 | @hBar bs h X o l tm m n r m1 n1 hq h1 ih =>
   intro ho hT hM
   have s1 := ih ho hT.1 (hT.2.mrg hM)
   cases r with
   | ret => trivial
   | exit e tm2 =>
     intro hd
     obtain ⟨he, m2, htr, hsub⟩ := s1
     exact ⟨he, m2, htr.bar hq, hsub⟩
 | @hSkip bs h X o l tm m n r m1 n1 hq hg h1 ih =>
   intro ho hT hM
   simp only [Task.okT, List.all_cons, Bool.and_eq_true] at ho
   have s1 := ih ho.2 ⟨TLt.put hT.1 _ nov_lt, hT.2⟩ hM
   cases r with
   | ret => trivial
   | exit e tm2 =>
     intro hd
     obtain ⟨he, m2, htr, hsub⟩ := s1 hd
     obtain ⟨g, b, hg1, hg2⟩ := hg
     exact ⟨he, m2, .skip hg1 hg2 hT.1 (hT.2.mrg hM) (fun _ => ⟨fun b h => h, fun b h => .inl h, fun b h => h⟩) htr, hsub⟩
 | @hPure bs h X o l tm m n v m1 n1 r m2 n2 hq hg hs h1 ih =>
   intro ho hT hM
   simp only [Task.okT, List.all_cons, Bool.and_eq_true] at ho
   obtain ⟨l1, l2, l3⟩ := step_lt ho.1 hs hT.1 hM
   have s1 := ih ho.2 ⟨TLt.put (hT.1.mono l1) _ l2, hT.2.mono l1⟩ l3
   cases r with
   | ret => trivial
   | exit e tm2 =>
     intro hd
     have hk : ∀ b blk, b < n → m1 b = some blk → m b = some blk := fun b blk hb e => (step_keep hs).2 b blk hb hb e
     have hh : ∀ b x, h b = some x → b < n := fun b x e => (hT.2 b x e).1
     obtain ⟨he, m3, htr, hsub⟩ := s1 (hid_disj l1 hd hk hh)
     refine ⟨he, m3, .step hg (OpS.pure hM (by rw [hq]; exact hs)) l1 (by rw [hq]; exact qt_hid hd hk hh (step_own hs)) hT.1 (hT.2.mrg hM) (fun _ => ⟨fun b h => h, fun b h => .inl h, fun b h => h⟩) htr, hsub⟩
 | @hCall bs h X o l tm m n f args v m1 n1 r m2 n2 hq hg hcal h1 h2 ih1 ih2 =>
   intro ho hT hM
   simp only [Task.okT, List.all_cons, Bool.and_eq_true] at ho
   have la := callee_lt ho.1 hT.1 hcal
   obtain ⟨l1, l2, l3⟩ := h1.lt hG rfl la hM
   have s1 := ih1 rfl la hM
   have s2 := ih2 ho.2 ⟨TLt.put (hT.1.mono l1) _ l2, hT.2.mono l1⟩ l3
   cases r with
   | ret => trivial
   | exit e tm2 =>
     intro hd
     have hk : ∀ b blk, b < n → m1 b = some blk → m b = some blk := fun b blk hb e => h1.keep.2 b blk hb hb e
     have hh : ∀ b x, h b = some x → b < n := fun b x e => (hT.2 b x e).1
     obtain ⟨he, m3, htr, hsub⟩ := s2 (hid_disj l1 hd hk hh)
     have HE := h1.enter hL
     refine ⟨he, m3, .step hg (OpS.call HE hcal (by rw [hq]; exact s1)) l1 (by rw [hq]; exact qt_hid hd hk hh h1.own) hT.1 (hT.2.mrg hM) (fun _ => ⟨fun b h => h, fun b h => .inl h, fun b h => h⟩) htr, hsub⟩
 | @opsNewH bs o l tm m n v blk r m2 n2 hg hq hs h1 ih =>
   intro ho hT hM
   simp only [Task.okT, List.all_cons, Bool.and_eq_true] at ho
   obtain ⟨l1, l2, l3⟩ := step_lt ho.1 hs hT hM
   have hh1 : MLt (upd (fun _ => none) n (some blk)) (n + 1) := by
    intro b x e
    simp only [upd] at e
    split at e
    · rename_i hb; subst hb; cases e; exact l3 b _ (by simp [upd])
    · exact nomatch e
   have s1 := ih ho.2 ⟨TLt.put (hT.mono l1) _ l2, hh1⟩ (hM.mono l1)
   cases r with
   | ret => trivial
   | exit e tm2 =>
     have hmn : m n = none := hM.fresh n (Nat.le_refl _)
     have hd1 : ∀ b x, upd (fun _ => none) n (some blk) b = some x → m b = none := by
      intro b x e
      simp only [upd] at e
      split at e
      · rename_i hb; subst hb; exact hmn
      · cases e
     obtain ⟨he, m3, htr, hsub⟩ := s1 ⟨hd1, fun b hb => by obtain ⟨_, hb⟩ := hb; cases hb⟩
     have hmm : ∀ b x, mrg (upd (fun _ => none) n (some blk)) m b = some x → (b < n ∧ m b = some x) ∨ (n ≤ b ∧ upd m n (some blk) b = some x) := by
      intro b x e
      rcases mrg_inv e with e5 | ⟨e0, e5⟩
      · by_cases hb : b = n
        · subst hb; exact .inr ⟨Nat.le_refl _, by simp only [upd, if_pos] at e5 ⊢; exact e5⟩
        · simp only [upd, if_neg hb] at e5
          cases e5
      · by_cases hb : b = n
        · subst hb; simp [upd] at e0
        · simp only [upd, if_neg hb] at e0
          exact .inl ⟨(hM b x e5).1, e5⟩
     refine ⟨he, m3, .step (H' := Hdn (upd (fun _ => none) n (some blk)) []) (X' := []) hg (OpS.pure hM (by rw [hq]; exact hs)) l1 ⟨fun e => absurd e (by rw [hq]; decide), fun _ => ⟨fun b x e => ?_, hmm⟩, fun b hb e => own_mrgU (h := fun _ => none) (by omega) e⟩ hT hM (fun _ => ⟨fun b hb => ?_, fun b hb => ?_, fun b h => h⟩) htr, hsub⟩
     · exact ⟨e, fun h => h⟩
     · exact hb.elim
     · rcases hb with hb | ⟨_, hb⟩
       · simp only [upd] at hb; split at hb
         · exact .inr (by omega)
         · exact absurd rfl hb
       · cases hb
 | @hNew bs h X o l tm m n v blk r m2 n2 hq hg hs h1 ih =>
   intro ho hT hM
   simp only [Task.okT, List.all_cons, Bool.and_eq_true] at ho
   obtain ⟨l1, l2, l3⟩ := step_lt ho.1 hs hT.1 hM
   have hh1 : MLt (upd h n (some blk)) (n + 1) := by
    intro b x e
    simp only [upd] at e
    split at e
    · rename_i hb; subst hb; cases e; exact l3 b _ (by simp [upd])
    · exact (hT.2.mono l1) b x e
   have s1 := ih ho.2 ⟨TLt.put (hT.1.mono l1) _ l2, hh1⟩ (hM.mono l1)
   cases r with
   | ret => trivial
   | exit e tm2 =>
     intro hd
     have hmn : m n = none := hM.fresh n (Nat.le_refl _)
     have hh : ∀ b x, h b = some x → b < n := fun b x e => (hT.2 b x e).1
     have hd1 : ∀ b x, upd h n (some blk) b = some x → m b = none := by
      intro b x e
      simp only [upd] at e
      split at e
      · rename_i hb; subst hb; exact hmn
      · exact hd.1 b x e
     obtain ⟨he, m3, htr, hsub⟩ := s1 ⟨hd1, fun b hb => ⟨by have := (hd.2 b hb).1; omega, (hd.2 b hb).2⟩⟩
     have hmm : ∀ b x, mrg (upd h n (some blk)) m b = some x → (b < n ∧ mrg h m b = some x) ∨ (n ≤ b ∧ upd m n (some blk) b = some x) := by
      intro b x e
      rcases mrg_inv e with e5 | ⟨e0, e5⟩
      · by_cases hb : b = n
        · subst hb; exact .inr ⟨Nat.le_refl _, by simp only [upd, if_pos] at e5 ⊢; exact e5⟩
        · simp only [upd, if_neg hb] at e5
          exact .inl ⟨hh b x e5, mrg_some e5⟩
      · by_cases hb : b = n
        · subst hb; simp [upd] at e0
        · simp only [upd, if_neg hb] at e0
          exact .inl ⟨(hM b x e5).1, by rw [mrg_none e0]; exact e5⟩
     refine ⟨he, m3, .step (H' := Hdn (upd h n (some blk)) X) (X' := X) hg (OpS.pure hM (by rw [hq]; exact hs)) l1 ⟨fun e => absurd e (by rw [hq]; decide), fun _ => ⟨fun b x e => ?_, hmm⟩, fun b hb e => own_mrgU (by omega) e⟩ hT.1 (hT.2.mrg hM) (fun _ => ⟨fun b hb => ?_, fun b hb => ?_, fun b h => h⟩) htr, hsub⟩
     · cases e1 : h b with
       | some y => rw [hd.1 b y e1] at e; cases e
       | none =>
         refine ⟨by rw [mrg_none e1]; exact e, fun h => ?_⟩
         rcases h with h | h
         · exact h e1
         · have := (hd.2 b h).2; rw [this] at e; cases e
     · rcases hb with hb | hb
       · refine .inl ?_
         simp only [upd]; split
         · simp
         · exact hb
       · exact .inr hb
     · rcases hb with hb | hb
       · simp only [upd] at hb; split at hb
         · exact .inr (by omega)
         · exact .inl (.inl hb)
       · exact .inl (.inr hb)
 | @hSide bs h X o l tm m n b0 blk blk1 s a v r m2 n2 hq hg hX hb hbs hat hab hst h1 ih =>
   intro ho hT hM
   simp only [Task.okT, List.all_cons, Bool.and_eq_true] at ho
   obtain ⟨l1, l2, l3⟩ := step_lt ho.1 (hst _ _ hb) hT.1 hT.2
   have s1 := ih ho.2 ⟨TLt.put hT.1 _ l2, l3⟩ hM
   cases r with
   | ret => trivial
   | exit e tm2 =>
     intro hd
     have hv : HvR o.o tm n h X [b0] m (upd (fun _ => none) b0 (some blk)) (upd (upd (fun _ => none) b0 (some blk)) b0 (some blk1)) (upd h b0 (some blk1)) m := by
      refine ⟨fun b x e => ?_, fun b hb1 => ?_, fun b x e hne => ?_, fun b x e hne => ?_, fun b x e => ?_, fun b x e => .inl ⟨(hM b x e).1, e⟩, fun b x e => ?_⟩
      · simp only [upd] at e
        split at e
        · rename_i hbb; subst hbb; cases e; exact .inl ⟨List.mem_singleton.2 rfl, hb⟩
        · cases e
      · have := List.mem_singleton.1 hb1
        subst this
        refine ⟨hX, hd.1 b _ hb, ⟨blk, hb, by simp [upd]⟩, ?_⟩
        rw [← hab]; exact at_leads hat (hst (upd (fun _ => none) b (some blk)) n (by simp [upd]))
      · simp only [upd] at e
        split at e
        · rename_i hbb; exact absurd (List.mem_singleton.2 hbb) hne
        · cases e
      · simp only [upd]; rw [if_neg fun hbb => hne (List.mem_singleton.2 hbb)]; exact e
      · simp only [upd] at e ⊢
        split at e
        · rename_i hbb; exact .inr ⟨.inl (List.mem_singleton.2 hbb), by rw [if_pos hbb]; exact e⟩
        · rename_i hbb; exact .inl ⟨(hT.2 b x e).1, fun h => hbb (List.mem_singleton.1 h), e⟩
      · simp only [upd] at e
        split at e
        · rename_i hbb; subst hbb; exact hd.1 b _ hb
        · exact hd.1 b x e
     have hst1 := hst (upd (fun _ => none) b0 (some blk)) n (by simp [upd])
     have hMh := hv.lt hT.2 hM
     obtain ⟨he, m3, htr, hsub⟩ := s1 (hv.dj (Nat.le_refl _) hd hT.2)
     exact ⟨he, m3, .heavy (T := [b0]) hq hg (OpS.pure hMh hst1) (Nat.le_refl _) (hv.hv hd hT.2 (step_own hst1)) hT.1 (hT.2.mrg hM) hv.nx (fun b hb => XAdd.mem.2 (.inl ⟨hb, rfl⟩)) htr, hsub⟩
 | @hHvO bs h X T o l tm m mh n v mh' h2 m2 n1 r m3 n3 hq hg hs hv h1 ih =>
   intro ho hT hM
   simp only [Task.okT, List.all_cons, Bool.and_eq_true] at ho
   have hMh := hv.lt hT.2 hM
   obtain ⟨l1, l2, l3⟩ := step_lt ho.1 hs hT.1 hMh
   obtain ⟨l7, l8⟩ := hv.lt2 l1 hT.2 hM l3
   have s1 := ih ho.2 ⟨TLt.put (hT.1.mono l1) _ l2, l7⟩ l8
   cases r with
   | ret => trivial
   | exit e tm2 =>
     intro hd
     obtain ⟨he, m4, htr, hsub⟩ := s1 (hv.dj l1 hd hT.2)
     exact ⟨he, m4, .heavy (T := T) hq hg (OpS.pure hMh hs) l1 (hv.hv hd hT.2 (step_own hs)) hT.1 (hT.2.mrg hM) hv.nx (fun b hb => XAdd.mem.2 (.inl ⟨hb, rfl⟩)) htr, hsub⟩
 | @hHvC bs h X T o l tm m mh n f args v mh' h2 m2 n1 r m3 n3 hq hg hcal h1 hv h3 ih1 ih =>
   intro ho hT hM
   simp only [Task.okT, List.all_cons, Bool.and_eq_true] at ho
   have hMh := hv.lt hT.2 hM
   have la := callee_lt ho.1 hT.1 hcal
   obtain ⟨l1, l2, l3⟩ := h1.lt hG rfl la hMh
   obtain ⟨l7, l8⟩ := hv.lt2 l1 hT.2 hM l3
   have s0 := ih1 rfl la hMh
   have s1 := ih ho.2 ⟨TLt.put (hT.1.mono l1) _ l2, l7⟩ l8
   cases r with
   | ret => trivial
   | exit e tm2 =>
     intro hd
     have HE := h1.enter hL
     obtain ⟨he, m4, htr, hsub⟩ := s1 (hv.dj l1 hd hT.2)
     exact ⟨he, m4, .heavy (T := T) hq hg (OpS.call HE hcal s0) l1 (hv.hv hd hT.2 h1.own) hT.1 (hT.2.mrg hM) hv.nx (fun b hb => XAdd.mem.2 (.inl ⟨hb, rfl⟩)) htr, hsub⟩
 | @call bs f args fn m n e tm1 m1 n1 v hf h1 hex hr ih =>
   intro _ hT hM
   have h0 : TLt (tm0 args) n := by
    intro t
    simp only [tm0, List.getD]
    cases ha : args[t]? with
    | none => exact .junk
    | some x => exact hT x (List.mem_of_getElem? ha)
   obtain ⟨k0, s1⟩ := ih (hG _ _ hf) h0 hM
   intro β w rargs fr hno hβ hMR hsz hrel
   obtain ⟨_, hlk⟩ := hL.1 f fn hf
   obtain ⟨pf, hpf, hcf⟩ := hlk fr hno
   unfold cF at hcf
   simp only [Option.bind_eq_bind, Option.bind_eq_some_iff] at hcf
   obtain ⟨c, hb, hcf⟩ := hcf
   split at hcf
   · cases hcf
   · simp only [Option.bind_eq_some_iff] at hcf
     obtain ⟨body, hbody, hcf⟩ := hcf
     split at hcf
     · simp only [Option.bind_eq_some_iff, Option.some.injEq] at hcf
       obtain ⟨res, hres, rfl⟩ := hcf
       refine calls_of_wp hpf hb ?_
       refine (s1 pf.ntmps c β w _ _ hbody hβ ⟨?_, rfl, fun t => ?_⟩ hMR fun β1 a' w' he hF1 hM1 hf1 => ?_).wp
       · simp; omega
       · simp only [tm0, List.getD]
         cases ha : args[t]? with
         | none => exact .junk
         | some x =>
           have ht : t < args.length := (List.getElem?_eq_some_iff.1 ha).1
           have hy : rargs[t]? = some rargs[t] := Array.getElem?_eq_getElem (by omega)
           have := hrel t x _ ha hy
           simp only [Option.getD_some, Array.getD_eq_getD_getElem?]
           rw [Array.getElem?_append_left (by omega), hy]
           exact this
       · obtain ⟨rv, e1, e2⟩ := results_sim hF1 hM1 hres hr
         have : a'.defers = [] ∧ ∃ v, (results pf a'.tmps).run P w' = .ok v w' ∧ ∃ rv β1, (Ending.returned v) = .returned rv ∧ VRel no β1 _ rv ∧ Ext β β1 m bs n n1 w ∧ MRel no β1 m1 w' ∧ Frm β m bs n w w' :=
          ⟨hF1.defers, rv, e1, rv, β1, rfl, e2, he, hM1, hf1⟩
         rcases hex with rfl | rfl
         · exact this
         · exact this
     · cases hcf
 | @callS bs f args m n v m1 n1 h1 hv hsub ih =>
   intro ho hT hM
   have s1 := ih ho hT hM
   intro β w rargs fr hno hβ hMR hsz hrel
   refine Calls.mono (s1 β w rargs fr hno hβ hMR hsz hrel) ?_
   rintro e w' ⟨rv, β1, rfl, hv1, he, hM1, hf⟩
   exact ⟨rv, β, rfl, hv1.ofFlat hv, Ext.refl .., hMR.back hM1 hsub he.old, hf⟩
 | @callN bs f args m n v hv =>
   intro ho hT hM
   intro β w rargs fr hno hβ hMR hsz hrel
   rw [nat_rargs hv hsz hrel]
   refine Calls.mono ((hL.2.1 f args v hv fr hno).2 w hMR.kept) ?_
   rintro e w' ⟨rfl, hb⟩
   exact ⟨v, β, rfl, VRel.const (nat_flat hv) (nat_nofunc hv), Ext.refl .., hMR.grow hb, ⟨hb.os, hb.tape, hb.output, hb.size, fun B hB _ => hb.block B hB⟩⟩
 | @callJ bs f args m n v hv =>
   intro ho hT hM
   intro β w rargs fr hno hβ hMR hsz hrel
   obtain ⟨rfl, a, l, c, s, vs, xs, rfl, hrd, hxs, hn1, hn2, hlc, rfl⟩ := natJ_inv hv
   obtain ⟨hlen, hat⟩ := strsV_at hxs
   have hsz' : rargs.size = 2 := hsz
   have v0 := hrel 0 _ rargs[0] rfl (Array.getElem?_eq_getElem (by omega))
   have v1 := hrel 1 _ rargs[1] rfl (Array.getElem?_eq_getElem (by omega))
   have er : rargs = #[rargs[0], rargs[1]] := by
    apply Array.ext
    · simpa using hsz'
    · intro i h1 h2
      have : i = 0 ∨ i = 1 := by simp at h2; omega
      rcases this with rfl | rfl <;> rfl
   unfold AL.rdn at hrd
   split at hrd
   · cases hrd
   · rename_i hsp
     split at hrd
     · rename_i blk hb
       split at hrd
       · rename_i hle
         cases hrd
         rw [er]
         revert v0 v1
         generalize rargs[0] = r0
         generalize rargs[1] = r1
         intro v0 v1
         cases v1
         cases v0 with
         | @slice b o2 L _ _ c' hL hc hroom =>
           have hl : xs.length = l := by rw [hlen]; simp; simp at hle; omega
           subst hl
           refine Calls.mono ((hL0 fr hno).2 w hMR.kept L.B (L.O + o2) c' xs s (fun j x hj => ?_) (hMR.bound _ _ hL) hn1 (by omega) hn2) ?_
           · have h3 := hat j x hj
             have hj2 := (List.getElem?_eq_some_iff.1 hj).1
             rw [List.getElem?_take_of_lt hj2, List.getElem?_drop] at h3
             obtain ⟨r, hr1, hr2⟩ := hMR.cells b blk L hb hL _ _ h3
             cases hr2
             rw [Nat.add_assoc]
             exact hr1
           · rintro e w' ⟨rfl, hbl⟩
             exact ⟨_, β, rfl, .string _, Ext.refl .., hMR.grow hbl, ⟨hbl.os, hbl.tape, hbl.output, hbl.size, fun B hB _ => hbl.block B hB⟩⟩
         | empty => simp at hsp
       · cases hrd
     · cases hrd
 | @drop bs T m n r m1 n1 m2 h1 hsub ih =>
   intro ho hT hM
   have s1 := ih ho hT hM
   cases T with
   | code c tm =>
     cases r with
     | ret => trivial
     | exit e tm1 =>
       obtain ⟨k0, s1⟩ := s1
       refine show SemC .. from ⟨k0, fun nt code β w a Q hc hβ hF hMR hQ => ?_⟩
       exact s1 nt code β w a Q hc hβ hF hMR fun β1 a' w' he hF1 hM1 hf => hQ β1 a' w' he hF1 (hM1.mono hsub) hf
   | ops l tm =>
     cases r with
     | ret => trivial
     | exit e tm1 =>
       obtain ⟨he, m3, htr, hs⟩ := s1
       exact ⟨he, m3, htr, fun b x hb => hs b x (hsub b x hb)⟩
   | opsH h X l tm =>
     cases r with
     | ret => trivial
     | exit e tm1 =>
       intro hd
       obtain ⟨he, m3, htr, hs⟩ := s1 hd
       exact ⟨he, m3, htr, fun b x hb => hs b x (hsub b x hb)⟩
   | call f args =>
     cases r with
     | exit => trivial
     | ret v =>
       intro β w rargs fr hno hβ hMR hsz hrel
       refine Calls.mono (s1 β w rargs fr hno hβ hMR hsz hrel) ?_
       rintro e w' ⟨rv, β1, rfl, hv1, he, hM1, hf⟩
       exact ⟨rv, β1, rfl, hv1, he, hM1.mono hsub, hf⟩
 | @rst bs c tm m n e tm1 m1 n1 tm2 h1 hsub h ih =>
   intro ho hT hM
   obtain ⟨k0, s1⟩ := ih ho hT hM
   refine show SemC .. from ⟨k0, fun nt code β w a Q hc hβ hF hMR hQ => ?_⟩
   refine s1 nt code β w a Q hc hβ hF hMR fun β1 a' w' he hF1 hM1 hf => ?_
   refine hQ β a' w' (Ext.refl ..) ⟨hF1.size, hF1.defers, fun t => ?_⟩ (hMR.back hM1 hsub he.old) hf
   rcases (h t).2 with h2 | ⟨h2, h3 | h3⟩
   · rw [h2]; exact .junk
   · rw [h2, h3]
     have := hF1.slots t
     rw [h3] at this
     exact (hF.slots t).back he.old this
   · rw [h2]; exact (hF1.slots t).ofFlat h3
 | @jk bs c tm m n e tm1 m1 n1 tm2 h1 h ih =>
   intro ho hT hM
   obtain ⟨k0, s1⟩ := ih ho hT hM
   refine show SemC .. from ⟨k0, fun nt code β w a Q hc hβ hF hMR hQ => ?_⟩
   exact s1 nt code β w a Q hc hβ hF hMR fun β1 a' w' he hF1 hM1 hf => hQ β1 a' w' he (hF1.less fun t => (h t).2) hM1 hf
 | @wk bs c tm m n r m1 n1 tm2 h1 h ih =>
   intro ho hT hM
   have s1 := ih ho (fun t => by
    rcases (h t).2 with h4 | h4
    · rw [h4]; exact .junk
    · rw [h4]; exact hT t) hM
   cases r with
   | ret => trivial
   | exit e tm1 =>
     obtain ⟨k0, s1⟩ := s1
     refine show SemC .. from ⟨k0, fun nt code β w a Q hc hβ hF hMR hQ => ?_⟩
     exact s1 nt code β w a Q hc hβ (hF.less fun t => (h t).2) hMR hQ
end Go.Proofs.YtoppcdecolponaaDoor.AL
