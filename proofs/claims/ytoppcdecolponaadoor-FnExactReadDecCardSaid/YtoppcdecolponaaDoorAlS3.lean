/- Each step of the small language is a step of the model's. -/
import Derived.Test.YtoppcdecolponaaDoorAlS2
import Derived.Laws.MakeOwn
import Derived.Laws.AppendOwn
namespace Go.Proofs.YtoppcdecolponaaDoor.AL
open Go
set_option linter.unusedVariables false
set_option linter.unusedSimpArgs false
variable {no : No}
structure FRel (no : No) (nt : Nat) (β : Inj) (tm : Tm) (a : Act) : Prop where
 size : nt ≤ a.tmps.size
 defers : a.defers = []
 slots : ∀ t, VRel no β (tm t) (a.tmps.getD t undef)
theorem FRel.mono {nt β β1 tm a} (h : FRel no nt β tm a) (e : Ext0 β β1) : FRel no nt β1 tm a := ⟨h.size, h.defers, fun t => (h.slots t).mono e⟩
theorem FRel.put {nt β tm a} {d : Option Nat} {v r : Value} (h : FRel no nt β tm a) (hd : ∀ x, d = some x → x < nt) (hv : VRel no β v r) : FRel no nt β (put tm d v) (a.put d r) := by
 cases d with
 | none => exact h
 | some d =>
   refine ⟨by simpa [Act.put] using h.size, h.defers, fun t => ?_⟩
   have hlt := Nat.lt_of_lt_of_le (hd d rfl) h.size
   by_cases e : t = d
   · subst e; simp [AL.put, upd, Act.put, hlt]; exact hv
   · have := h.slots t
     simp only [AL.put, upd, if_neg e, Act.put]
     rw [show (a.tmps.setIfInBounds d r).getD t undef = a.tmps.getD t undef by simp [Array.getElem?_setIfInBounds, Ne.symm e]]
     exact this
theorem E.sim {nt β tm a} {x : Operand} {e : E} (hF : FRel no nt β tm a) (h : cE no x = some e) : VRel no β (e.ev tm) (a.eval x) := by
 cases x with
 | tmp t => cases h; exact hF.slots t
 | const v =>
   simp only [cE] at h
   split at h
   · rename_i hf
     cases h
     simp only [Bool.and_eq_true] at hf
     refine VRel.const hf.1 ?_
     rintro f a b rfl
     cases hf.2
   · cases h
 | global g => cases h
 | func f =>
   simp only [cE, Option.map_eq_some_iff] at h
   obtain ⟨g, hg, rfl⟩ := h
   exact .func hg rfl fun i x y hx hy => by simp at hx
theorem Es.sim {nt β tm a} (hF : FRel no nt β tm a) : ∀ {xs : List Operand} {es : List E}, xs.mapM (cE no) = some es →
 es.length = xs.length ∧ ∀ (i : Nat) v r, (es.map (·.ev tm))[i]? = some v → (xs.map a.eval)[i]? = some r → VRel no β v r
 | [], es, h => by simp at h; subst h; simp
 | x :: xs, es, h => by
   simp only [List.mapM_cons, Option.bind_eq_bind, Option.bind_eq_some_iff, Option.pure_def, Option.some.injEq] at h
   obtain ⟨e, he, es', hes, rfl⟩ := h
   obtain ⟨hl, ih⟩ := Es.sim hF hes
   refine ⟨by simp [hl], fun i v r hv hr => ?_⟩
   cases i with
   | zero => simp at hv hr; subst hv; subst hr; exact E.sim hF he
   | succ i => simp at hv hr; exact ih i v r (by simpa using hv) (by simpa using hr)
variable {P : Program}
def Runs (P : Program) (no : No) (β : Inj) (m : Mem) (bs n n1 : Nat) (w : World) (x : Sem Next) (v : Value) (m1 : Mem) : Prop :=
 ∃ nx rv w' β1, x.run P w = .ok nx w' ∧ (nx = .value rv ∨ (nx = .skip ∧ rv = undef)) ∧ VRel no β1 v rv ∧ Ext β β1 m bs n n1 w ∧ MRel no β1 m1 w' ∧ Frm β m bs n w w'
theorem Runs.quiet {β : Inj} {bs n : Nat} {w : World} {x : Sem Next} {v rv : Value} {m : Mem} (hM : MRel no β m w) (hrun : x.run P w = .ok (.value rv) w) (hv : VRel no β v rv) :
 Runs P no β m bs n n w x v m := ⟨_, rv, w, β, hrun, .inl rfl, hv, Ext.refl .., hM, Frm.refl ..⟩
section
variable {nt : Nat} {β : Inj} {tm : Tm} {a : Act} {m m1 : Mem} {w : World} {bs n n1 : Nat} {v : Value} {o : Oper}
theorem run_newRow (t : TypeId) (cs : Array Value) (w : World) : (newRow t cs).run P w = .ok ⟨w.heap.size, 0, none⟩ (w.alloc (.cells cs t)) := rfl
theorem VRel.inv_slice {ad : Addr} {l c : Nat} {r : Value} (h : VRel no β (.slice (some ad) l c) r) (hs : ad.spot = none) :
 ∃ L c', β ad.block = some L ∧ r = .slice (some ⟨L.B, L.O + ad.off, none⟩) l c' ∧ c ≤ c' ∧ ∀ k N, L.room = some (k, N) → L.O + ad.off + c' * k ≤ N := by
 cases h with
 | @slice b o L l c c' hL hc hr => exact ⟨L, c', hL, rfl, hc, hr⟩
 | empty => cases hs
theorem VRel.inv_func {g : Nat} {x1 x2 : Array Value} {r : Value} (h : VRel no β (.func (.func g) x1 x2) r) :
 ∃ f ys, no f = some g ∧ x1 = #[] ∧ r = .func (.func f) #[] ys ∧ x2.size = ys.size ∧ ∀ (i : Nat) x y, x2[i]? = some x → ys[i]? = some y → VRel no β x y := by
 cases h with
 | @func g f xs ys hf hs hr => exact ⟨f, ys, hf, rfl, rfl, hs, hr⟩
theorem s_move {x : Operand} {e : E} (ho : o.op = .move x ∨ o.op = .assign x) (hx : cE no x = some e) (hF : FRel no nt β tm a) (hM : MRel no β m w)
 (hs : stepO bs (.mv e) tm m n = some (v, m1, n1)) : Runs P no β m bs n n1 w (execOp a.eval o) v m1 := by
 simp only [stepO, Option.some.injEq, Prod.mk.injEq] at hs
 obtain ⟨rfl, rfl, rfl⟩ := hs
 refine .quiet hM (rv := a.eval x) ?_ (E.sim hF hx)
 rcases ho with ho | ho <;> simp [execOp, ho]
theorem s_pick {c x y : Operand} {ec ex ey : E} (ho : o.op = .pick c x y) (hc : cE no c = some ec) (hx : cE no x = some ex) (hy : cE no y = some ey) (hF : FRel no nt β tm a) (hM : MRel no β m w)
 (hs : stepO bs (.pick ec ex ey) tm m n = some (v, m1, n1)) : Runs P no β m bs n n1 w (execOp a.eval o) v m1 := by
 have h1 := E.sim hF hc
 simp only [stepO] at hs
 split at hs
 · rename_i t ht
   simp only [Option.some.injEq, Prod.mk.injEq] at hs
   obtain ⟨rfl, rfl, rfl⟩ := hs
   rw [ht] at h1
   cases hr : a.eval c <;> rw [hr] at h1 <;> cases h1
   cases t
   · refine .quiet hM (rv := a.eval y) ?_ (E.sim hF hy)
     simp [execOp, ho, hr, asBool]
   · refine .quiet hM (rv := a.eval x) ?_ (E.sim hF hx)
     simp [execOp, ho, hr, asBool]
 · cases hs
theorem run_sizeT {t : TypeId} {k : Nat} (h : sizeT P t = some k) (w : World) : (sizeOf t).run P w = .ok k w := by
 simp only [sizeT, Option.map_eq_some_iff] at h
 obtain ⟨i, hi, rfl⟩ := h
 simp [sizeOf, typeInfo, hi]
theorem run_zeroOf {t : TypeId} {z : List Value} (h : zeroOf P t = some z) (w : World) : ∃ v, (zeroValue t).run P w = .ok v w ∧ v.cells = z.toArray ∧ (∀ x ∈ z, flatW x = true) ∧ sizeT P t = some z.length := by
 simp only [zeroOf, Option.bind_eq_bind, Option.bind_eq_some_iff] at h
 obtain ⟨i, hi, v, hv, h⟩ := h
 split at h
 · rename_i hc
   cases h
   simp only [Bool.and_eq_true, beq_iff_eq] at hc
   refine ⟨v, by simp [zeroValue, typeInfo, hi, hv], by simp, fun x hx => ?_, by simp [sizeT, hi, ← hc.2]⟩
   exact List.all_eq_true.1 hc.1 x hx
 · cases h
theorem s_new {t : TypeId} {z : List Value} (ho : o.op = .alloc t) (hz : zeroOf P t = some z) (hF : FRel no nt β tm a) (hM : MRel no β m w) (hfr : Fresh m n)
 (hs : stepO bs (.new z) tm m n = some (v, m1, n1)) (hd : ∀ b, n ≤ b → b < n1 → β b = none) : Runs P no β m bs n n1 w (execOp a.eval o) v m1 := by
 simp only [stepO, Option.some.injEq, Prod.mk.injEq] at hs
 obtain ⟨rfl, rfl, rfl⟩ := hs
 obtain ⟨zv, hrun, hzc, hflat, _⟩ := run_zeroOf hz w
 have hn := hd n (Nat.le_refl _) (by omega)
 obtain ⟨e1, e2, e3⟩ := alloc_sim bs hM hfr hn z zv.cells t 1 (by simp [hzc]) fun i x hx => ⟨x, by simp [hzc, hx], VRel.constW (hflat x (List.mem_of_getElem? hx))⟩
 refine ⟨_, .pointer (some ⟨w.heap.size, 0, none⟩), _, _, ?_, .inl rfl, ?_, e1, e2, e3⟩
 · simp [execOp, ho, Instr.alloc, hrun, newVar, run_newRow]
 · have : upd β n (some (⟨w.heap.size, 0, some (1, zv.cells.size)⟩ : Loc)) n = some ⟨w.heap.size, 0, some (1, zv.cells.size)⟩ := by simp [upd]
   exact VRel.ptr (o := 0) this
theorem cells_rel {β : Inj} {v r : Value} (hj : isJunk v = false) (hv : VRel no β v r) : v.cells.size = r.cells.size ∧ ∀ (i : Nat) x y, v.cells[i]? = some x → r.cells[i]? = some y → VRel no β x y := by
 cases hv with
 | junk => cases hj
 | agg hs h => exact ⟨hs, h⟩
 | _ =>
   refine ⟨rfl, fun i x y hx hy => ?_⟩
   simp only [Value.cells] at hx hy
   cases i with
   | zero => simp at hx hy; subst hx; subst hy; constructor <;> assumption
   | succ i => simp at hx
theorem s_box {t : TypeId} {x : Operand} {e : E} (ho : o.op = .box t x) (hx : cE no x = some e) (hF : FRel no nt β tm a) (hM : MRel no β m w) (hfr : Fresh m n)
 (hs : stepO bs (.box e) tm m n = some (v, m1, n1)) (hd : ∀ b, n ≤ b → b < n1 → β b = none) : Runs P no β m bs n n1 w (execOp a.eval o) v m1 := by
 simp only [stepO] at hs
 split at hs
 · cases hs
 · rename_i hj
   simp only [Option.some.injEq, Prod.mk.injEq] at hs
   obtain ⟨rfl, rfl, rfl⟩ := hs
   have hn := hd n (Nat.le_refl _) (by omega)
   obtain ⟨hsz, hc⟩ := cells_rel (by simpa using hj) (E.sim hF hx)
   obtain ⟨e1, e2, e3⟩ := alloc_sim bs hM hfr hn (e.ev tm).cells.toList (a.eval x).cells t 1 (by simp [hsz]) (by
    intro i y hy
    have hlt := (List.getElem?_eq_some_iff.1 hy).1
    simp at hlt
    exact ⟨_, Array.getElem?_eq_getElem (by omega), hc i y _ (by simpa using hy) (Array.getElem?_eq_getElem (by omega))⟩)
   refine ⟨_, .pointer (some ⟨w.heap.size, 0, none⟩), _, _, ?_, .inl rfl, ?_, e1, e2, e3⟩
   · simp [execOp, ho, Instr.box, newVar, run_newRow]
   · have : upd β n (some (⟨w.heap.size, 0, some (1, (a.eval x).cells.size)⟩ : Loc)) n = some ⟨w.heap.size, 0, some (1, (a.eval x).cells.size)⟩ := by simp [upd]
     exact VRel.ptr (o := 0) this
theorem run_aggT {t : TypeId} {b : Bool} (h : aggT P t = some b) (w : World) : (Go.isAgg t).run P w = .ok b w := by
 unfold aggT at h
 cases hu : P.underlying t with
 | none => rw [hu] at h; cases h
 | some d =>
   rw [hu] at h
   simp only [Go.isAgg, Sem.run_bind, run_underlying hu, Result.andThen_ok]
   cases d <;> simp at h <;> subst h <;> simp
theorem ptr_of {β : Inj} {a : Addr} {r : Value} (h : VRel no β (.pointer (some a)) r) : ∃ ra, r = .pointer (some ra) := by
 cases h with
 | ptr e => exact ⟨_, rfl⟩
theorem s_ld {t : TypeId} {x : Operand} {e : E} (ho : o.op = .load t x) (hx : cE no x = some e) (hagg : aggT P t = some false) (hF : FRel no nt β tm a) (hM : MRel no β m w)
 (hs : stepO bs (.ld e) tm m n = some (v, m1, n1)) : Runs P no β m bs n n1 w (execOp a.eval o) v m1 := by
 have h1 := E.sim hF hx
 simp only [stepO] at hs
 split at hs
 · rename_i ad he
   split at hs
   · rename_i u hu
     simp only [Option.some.injEq, Prod.mk.injEq] at hs
     obtain ⟨rfl, rfl, rfl⟩ := hs
     rw [he] at h1
     obtain ⟨ra, hra⟩ := ptr_of h1
     rw [hra] at h1
     obtain ⟨r, hr, hv⟩ := rd_sim hM h1 hu
     refine .quiet hM (rv := r) ?_ hv
     simp [execOp, ho, Instr.loadAt, hra, Instr.sureAddr, loadVar, run_aggT hagg, hr]
   · cases hs
 · cases hs
theorem s_ldn {t : TypeId} {x : Operand} {e : E} {k : Nat} (ho : o.op = .load t x) (hx : cE no x = some e) (hagg : aggT P t = some true) (hk : sizeT P t = some k) (hF : FRel no nt β tm a) (hM : MRel no β m w)
 (hs : stepO bs (.ldn k e) tm m n = some (v, m1, n1)) : Runs P no β m bs n n1 w (execOp a.eval o) v m1 := by
 have h1 := E.sim hF hx
 simp only [stepO] at hs
 split at hs
 · rename_i ad he
   split at hs
   · rename_i us hu
     simp only [Option.some.injEq, Prod.mk.injEq] at hs
     obtain ⟨rfl, rfl, rfl⟩ := hs
     rw [he] at h1
     obtain ⟨ra, hra⟩ := ptr_of h1
     rw [hra] at h1
     obtain ⟨rs, hrun, hl, hs, hv⟩ := rdn_sim P hM h1 hu
     refine .quiet hM (rv := .agg rs) ?_ (.agg (by simp [hl, hs]) fun i x y hx hy => hv i x y (by simpa using hx) hy)
     simp [execOp, ho, Instr.loadAt, hra, Instr.sureAddr, loadVar, run_aggT hagg, run_sizeT hk, hrun]
   · cases hs
 · cases hs
theorem s_st {t : TypeId} {x y : Operand} {ex ey : E} (ho : o.op = .store t x y) (hx : cE no x = some ex) (hy : cE no y = some ey) (hk : sizeT P t = some 1) (hF : FRel no nt β tm a) (hM : MRel no β m w) (hfr : Fresh m n)
 (hs : stepO bs (.st ex ey) tm m n = some (v, m1, n1)) : Runs P no β m bs n n1 w (execOp a.eval o) v m1 := by
 have h1 := E.sim hF hx
 have h2 := E.sim hF hy
 simp only [stepO] at hs
 split at hs
 · rename_i ad he
   split at hs
   · cases hs
   · rename_i hag
     split at hs
     · rename_i m2 hw
       simp only [Option.some.injEq, Prod.mk.injEq] at hs
       obtain ⟨rfl, rfl, rfl⟩ := hs
       rw [he] at h1
       obtain ⟨ra, hra⟩ := ptr_of h1
       rw [hra] at h1
       have hag' : wideV (ey.ev tm) = false := by simpa using hag
       obtain ⟨hone, hcells⟩ := oneCell_of hag' h2
       obtain ⟨w1, hrun, hM1, hF1⟩ := wrn_sim P hM hfr h1 (wr_eq_wrn hw) (rs := [a.eval y]) (by simpa using hag') rfl (by
        intro i u r hu hr
        cases i with
        | zero => simp at hu hr; subst hu; subst hr; exact h2
        | succ i => simp at hu)
       refine ⟨.skip, undef, w1, β, ?_, .inr ⟨rfl, rfl⟩, .junk, Ext.refl .., hM1, hF1⟩
       simp [execOp, ho, Instr.storeAt, hra, Instr.sureAddr, storeVar, run_sizeT hk, hcells, hrun]
     · cases hs
 · cases hs
theorem s_stn {t : TypeId} {x y : Operand} {ex ey : E} {k : Nat} (ho : o.op = .store t x y) (hx : cE no x = some ex) (hy : cE no y = some ey) (hk : sizeT P t = some k) (hF : FRel no nt β tm a) (hM : MRel no β m w) (hfr : Fresh m n)
 (hs : stepO bs (.stn k ex ey) tm m n = some (v, m1, n1)) : Runs P no β m bs n n1 w (execOp a.eval o) v m1 := by
 have h1 := E.sim hF hx
 have h2 := E.sim hF hy
 simp only [stepO] at hs
 split at hs
 · rename_i ad vs he hvs
   split at hs
   · rename_i hc
     split at hs
     · rename_i m2 hw
       simp only [Option.some.injEq, Prod.mk.injEq] at hs
       obtain ⟨rfl, rfl, rfl⟩ := hs
       rw [he] at h1
       obtain ⟨ra, hra⟩ := ptr_of h1
       rw [hra] at h1
       rw [hvs] at h2
       cases hr : a.eval y <;> rw [hr] at h2 <;> cases h2
       rename_i rs hsz hrel
       obtain ⟨w1, hrun, hM1, hF1⟩ := wrn_sim P hM hfr h1 hw (rs := rs.toList) (by
        intro u hu
        have := List.all_eq_true.1 hc.2 u hu
        simpa using this) (by simp [hsz]) (by
        intro i u r hu hr
        exact hrel i u r (by simpa using hu) (by simpa using hr))
       refine ⟨.skip, undef, w1, β, ?_, .inr ⟨rfl, rfl⟩, .junk, Ext.refl .., hM1, hF1⟩
       have hk' : rs.size = k := by rw [← hsz]; exact hc.1
       simp [execOp, ho, Instr.storeAt, hra, Instr.sureAddr, storeVar, run_sizeT hk, hr, Value.cells, hk', hrun]
     · cases hs
   · cases hs
 · cases hs
theorem s_fa {s : TypeId} {x : Operand} {e : E} {f : Nat} {fd : Field} {k : Nat} (ho : o.op = .fieldAddr s x f) (hx : cE no x = some e) (hfd : fieldT P s f = some fd) (hk : sizeT P fd.type = some k) (hk0 : k ≠ 0)
 (hF : FRel no nt β tm a) (hM : MRel no β m w)
 (hs : stepO bs (.fa fd.offset e) tm m n = some (v, m1, n1)) : Runs P no β m bs n n1 w (execOp a.eval o) v m1 := by
 have h1 := E.sim hF hx
 simp only [stepO] at hs
 split at hs
 · rename_i ad he
   split at hs
   · cases hs
   · rename_i hsp
     simp only [Option.some.injEq, Prod.mk.injEq] at hs
     obtain ⟨rfl, rfl, rfl⟩ := hs
     rw [he] at h1
     cases hr : a.eval x <;> rw [hr] at h1 <;> cases h1
     rename_i b of L hL
     refine .quiet hM (rv := .pointer (some ⟨L.B, L.O + of + fd.offset, none⟩)) ?_ (by rw [Nat.add_assoc]; exact VRel.ptr hL)
     unfold fieldT at hfd
     split at hfd
     · rename_i fs hfs
       simp [execOp, ho, Instr.fieldAt, run_underlying hfs, hfd, hr, Instr.sureAddr, fieldPlace, run_sizeT hk, hk0, addr_add]
     · cases hfd
 · cases hs
theorem elemT_eq {t e : TypeId} (h : elemT P t = some e) : P.underlying t = some (.slice e) := by
 unfold elemT at h
 split at h
 · rename_i e' he; cases h; exact he
 · cases h
theorem s_ia {t e : TypeId} {x i : Operand} {ex ei : E} {k : Nat} (ho : o.op = .indexAddr t x i) (hx : cE no x = some ex) (hi : cE no i = some ei) (hu : elemT P t = some e) (hk : sizeT P e = some k)
 (hF : FRel no nt β tm a) (hM : MRel no β m w)
 (hs : stepO bs (.ia k ex ei) tm m n = some (v, m1, n1)) : Runs P no β m bs n n1 w (execOp a.eval o) v m1 := by
 have h1 := E.sim hF hx
 have h2 := E.sim hF hi
 simp only [stepO] at hs
 split at hs
 · rename_i ad len cap kd j he hj
   split at hs
   · cases hs
   · rename_i hsp
     split at hs
     · rename_i hb
       simp only [Option.some.injEq, Prod.mk.injEq] at hs
       obtain ⟨rfl, rfl, rfl⟩ := hs
       rw [he] at h1
       rw [hj] at h2
       obtain ⟨L, c', hL, hr, hc, hroom⟩ := h1.inv_slice (by simpa using hsp)
       cases hr2 : a.eval i <;> rw [hr2] at h2 <;> cases h2
       refine .quiet hM (rv := .pointer (some ⟨L.B, L.O + ad.off + j.toNat * k, none⟩)) ?_ (by rw [Nat.add_assoc]; exact VRel.ptr hL)
       simp [execOp, ho, Instr.indexAt, run_underlying (elemT_eq hu), hr, hr2, asIntOf, run_sizeT hk, hb, addr_add]
     · cases hs
 · cases hs
theorem s_not {t : TypeId} {x : Operand} {e : E} (ho : o.op = .unOp .not t x) (hx : cE no x = some e) (hF : FRel no nt β tm a) (hM : MRel no β m w)
 (hs : stepO bs (.not e) tm m n = some (v, m1, n1)) : Runs P no β m bs n n1 w (execOp a.eval o) v m1 := by
 have h1 := E.sim hF hx
 simp only [stepO] at hs
 split at hs
 · rename_i b he
   simp only [Option.some.injEq, Prod.mk.injEq] at hs
   obtain ⟨rfl, rfl, rfl⟩ := hs
   rw [he] at h1
   cases hr : a.eval x <;> rw [hr] at h1 <;> cases h1
   refine .quiet hM (rv := .bool !b) ?_ (.bool _)
   simp [execOp, ho, Op.unary, hr]
 · cases hs
theorem s_neg {t : TypeId} {x : Operand} {e : E} (ho : o.op = .unOp .neg t x) (hx : cE no x = some e) (hF : FRel no nt β tm a) (hM : MRel no β m w)
 (hs : stepO bs (.neg e) tm m n = some (v, m1, n1)) : Runs P no β m bs n n1 w (execOp a.eval o) v m1 := by
 have h1 := E.sim hF hx
 simp only [stepO] at hs
 split at hs
 · rename_i k i he
   simp only [Option.some.injEq, Prod.mk.injEq] at hs
   obtain ⟨rfl, rfl, rfl⟩ := hs
   rw [he] at h1
   cases hr : a.eval x <;> rw [hr] at h1 <;> cases h1
   refine .quiet hM (rv := .int k (k.wrap (0 - i))) ?_ (.int _ _)
   simp [execOp, ho, Op.unary, hr, Op.intArith]
 · cases hs
theorem s_ext {x : Operand} {e : E} {i : Nat} (ho : o.op = .extract x i) (hx : cE no x = some e) (hF : FRel no nt β tm a) (hM : MRel no β m w)
 (hs : stepO bs (.ext i e) tm m n = some (v, m1, n1)) : Runs P no β m bs n n1 w (execOp a.eval o) v m1 := by
 have h1 := E.sim hF hx
 simp only [stepO] at hs
 split at hs
 · rename_i vs he
   split at hs
   · rename_i u hu
     simp only [Option.some.injEq, Prod.mk.injEq] at hs
     obtain ⟨rfl, rfl, rfl⟩ := hs
     rw [he] at h1
     cases hr : a.eval x <;> rw [hr] at h1 <;> cases h1
     rename_i rs hsz hrel
     have hlt := (Array.getElem?_eq_some_iff.1 hu).1
     have hri : rs[i]? = some (rs[i]'(by omega)) := Array.getElem?_eq_getElem _
     refine .quiet hM (rv := rs[i]'(by omega)) ?_ (hrel i u _ hu hri)
     simp [execOp, ho, Instr.extract, hr, hri]
   · cases hs
 · cases hs
theorem s_cvi {src dst : TypeId} {x : Operand} {e : E} {k k0 : IntKind} (ho : o.op = .convert src dst x) (hx : cE no x = some e) (hsrc : P.underlying src = some (.int k0)) (hdst : P.underlying dst = some (.int k))
 (hF : FRel no nt β tm a) (hM : MRel no β m w)
 (hs : stepO bs (.cvi k e) tm m n = some (v, m1, n1)) : Runs P no β m bs n n1 w (execOp a.eval o) v m1 := by
 have h1 := E.sim hF hx
 simp only [stepO] at hs
 split at hs
 · rename_i kd i he
   simp only [Option.some.injEq, Prod.mk.injEq] at hs
   obtain ⟨rfl, rfl, rfl⟩ := hs
   rw [he] at h1
   cases hr : a.eval x <;> rw [hr] at h1 <;> cases h1
   refine .quiet hM (rv := .int k (k.wrap i)) ?_ (.int _ _)
   simp [execOp, ho, convert, run_underlying hsrc, run_underlying hdst, hr, Conv.intToInt]
 · cases hs
theorem s_nilc {x : Operand} {e : E} (ho : o.op = .nilCheck x) (hx : cE no x = some e) (hF : FRel no nt β tm a) (hM : MRel no β m w)
 (hs : stepO bs (.nilc e) tm m n = some (v, m1, n1)) : Runs P no β m bs n n1 w (execOp a.eval o) v m1 := by
 have h1 := E.sim hF hx
 simp only [stepO] at hs
 split at hs
 · rename_i ad he
   simp only [Option.some.injEq, Prod.mk.injEq] at hs
   obtain ⟨rfl, rfl, rfl⟩ := hs
   rw [he] at h1
   obtain ⟨ra, hra⟩ := ptr_of h1
   refine .quiet hM (rv := .pointer (some ra)) ?_ (by rw [← hra]; exact h1)
   simp [execOp, ho, hra]
 · rename_i f x1 x2 he
   simp only [Option.some.injEq, Prod.mk.injEq] at hs
   obtain ⟨rfl, rfl, rfl⟩ := hs
   rw [he] at h1
   obtain ⟨f', ys, hf, rfl, hr, hsz, hrel⟩ := h1.inv_func
   refine .quiet hM (rv := .func (.func f') #[] ys) ?_ (.func hf hsz hrel)
   simp [execOp, ho, hr]
 · cases hs
theorem s_fn {f g : Nat} {first captured : Array Operand} {es : List E} (ho : o.op = .makeFunc (.func f) first captured) (h0 : first.size = 0) (hg : no f = some g) (hx : cEs no captured = some es) (hF : FRel no nt β tm a) (hM : MRel no β m w)
 (hs : stepO bs (.fn g es) tm m n = some (v, m1, n1)) : Runs P no β m bs n n1 w (execOp a.eval o) v m1 := by
 obtain ⟨hl, hrel⟩ := Es.sim hF hx
 simp only [stepO, Option.some.injEq, Prod.mk.injEq] at hs
 obtain ⟨rfl, rfl, rfl⟩ := hs
 have h0' : first = #[] := Array.eq_empty_of_size_eq_zero h0
 refine .quiet hM (rv := .func (.func f) #[] (captured.map a.eval)) ?_ (.func hg (by simp [hl]) fun i x y hx hy => hrel i x y (by simpa using hx) ?_)
 · simp [execOp, ho, Instr.makeFunc, h0']
 · simpa [Array.getElem?_map] using hy
end
end Go.Proofs.YtoppcdecolponaaDoor.AL
