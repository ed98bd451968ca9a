/- Each step of the small language is a step of the model's: numbers, comparisons, slices. -/
import Derived.Test.YtoppcdecolponaaDoorAlS3
import Derived.Laws.StructEq
import Derived.Laws.Append
import Derived.Laws.Cover3
namespace Go.Proofs.YtoppcdecolponaaDoor.AL
open Go
set_option linter.unusedVariables false
set_option linter.unusedSimpArgs false
variable {no : No} {P : Program}
section
variable {nt : Nat} {β : Inj} {tm : Tm} {a : Act} {m m1 : Mem} {w : World} {bs n n1 : Nat} {v : Value} {o : Oper}
theorem s_bin {op : BinOp} {t yt : TypeId} {x y : Operand} {ex ey : E} (ho : o.op = .binOp op t x y yt) (hx : cE no x = some ex) (hy : cE no y = some ey) (hF : FRel no nt β tm a) (hM : MRel no β m w)
 (hs : stepO bs (.bin op ex ey) tm m n = some (v, m1, n1)) : Runs P no β m bs n n1 w (execOp a.eval o) v m1 := by
 have h1 := E.sim hF hx
 have h2 := E.sim hF hy
 simp only [stepO] at hs
 split at hs
 · rename_i u hu
   simp only [Option.some.injEq, Prod.mk.injEq] at hs
   obtain ⟨rfl, rfl, rfl⟩ := hs
   unfold binv at hu
   split at hu
   · rename_i j i k i2 e1 e2
     rw [e1] at h1
     rw [e2] at h2
     cases hr1 : a.eval x <;> rw [hr1] at h1 <;> cases h1
     cases hr2 : a.eval y <;> rw [hr2] at h2 <;> cases h2
     refine .quiet hM (rv := u) ?_ ?_
     · cases op <;> simp only at hu <;> (try split at hu) <;> (try split at hu) <;> (try (cases hu; done)) <;>
        (try (rename_i hjk; subst hjk)) <;> cases hu <;>
        simp [execOp, ho, hr1, hr2, eqGuard, binOp, Op.intArith, Op.intDiv, Op.intBits, Op.intCmp, Op.shift, *] <;> omega
     · cases op <;> simp only at hu <;> (try split at hu) <;> (try split at hu) <;> cases hu <;> constructor
   · rename_i s1 s2 e1 e2
     rw [e1] at h1
     rw [e2] at h2
     cases hr1 : a.eval x <;> rw [hr1] at h1 <;> cases h1
     cases hr2 : a.eval y <;> rw [hr2] at h2 <;> cases h2
     refine .quiet hM (rv := u) ?_ ?_
     · cases op <;> simp only at hu <;> (try split at hu) <;> cases hu <;>
        (try (rename_i hsz; simp only [Int.not_lt, gt_iff_lt] at hsz; have hsz' : (s1.size : Int) + (s2.size : Int) ≤ 9223372036854775807 := by (have : IntKind.max .i64 = 9223372036854775807 := by decide); omega)) <;>
        simp [execOp, ho, hr1, hr2, eqGuard, binOp, Op.stringOp, *]
     · cases op <;> simp only at hu <;> (try split at hu) <;> cases hu <;> constructor
   · cases hu
 · cases hs
theorem s_eqb {neg : Bool} {op : BinOp} {t yt : TypeId} {x y : Operand} {ex ey : E} (ho : o.op = .binOp op t x y yt) (hop : op = if neg then .neq else .eql) (ht : P.underlying t = some .bool) (hx : cE no x = some ex) (hy : cE no y = some ey)
 (hF : FRel no nt β tm a) (hM : MRel no β m w)
 (hs : stepO bs (.eqb neg ex ey) tm m n = some (v, m1, n1)) : Runs P no β m bs n n1 w (execOp a.eval o) v m1 := by
 have h1 := E.sim hF hx
 have h2 := E.sim hF hy
 simp only [stepO] at hs
 split at hs
 · rename_i b1 b2 e1 e2
   simp only [Option.some.injEq, Prod.mk.injEq] at hs
   obtain ⟨rfl, rfl, rfl⟩ := hs
   rw [e1] at h1
   rw [e2] at h2
   cases hr1 : a.eval x <;> rw [hr1] at h1 <;> cases h1
   cases hr2 : a.eval y <;> rw [hr2] at h2 <;> cases h2
   subst hop
   refine .quiet hM (rv := .bool _) ?_ (.bool _)
   have e1 : (binOp .eql t (.bool b1) (.bool b2)).run P w = .ok (.bool (b1 == b2)) w := by
    simp only [binOp, Op.equal, Op.maxDepth, Sem.run_bind, run_equalIn_bool' w 9999 t b1 b2 ht, Result.andThen_ok, Sem.run_pure]
   have e2 : (binOp .neq t (.bool b1) (.bool b2)).run P w = .ok (.bool (!(b1 == b2))) w := by
    simp only [binOp, Op.equal, Op.maxDepth, Sem.run_bind, run_equalIn_bool' w 9999 t b1 b2 ht, Result.andThen_ok, Sem.run_pure]
   cases neg
   · simp only [Bool.false_eq_true, if_false] at ho
     simp only [execOp, ho, hr1, hr2, eqGuard, Sem.run_bind, Result.andThen_ok, Sem.run_pure, Bool.false_eq_true, if_false]
     simp [e1]
   · simp only [if_true] at ho
     simp only [execOp, ho, hr1, hr2, eqGuard, Sem.run_bind, Result.andThen_ok, Sem.run_pure, if_true]
     simp [e2]
 · cases hs
theorem s_eqnil {neg : Bool} {op : BinOp} {t yt e : TypeId} {x y : Operand} {ex : E} (ho : o.op = .binOp op t x y yt) (hop : op = if neg then .neq else .eql) (ht : P.underlying t = some (.slice e)) (hx : cE no x = some ex)
 (hy : nilSlice y = true) (hF : FRel no nt β tm a) (hM : MRel no β m w)
 (hs : stepO bs (.eqnil neg ex) tm m n = some (v, m1, n1)) : Runs P no β m bs n n1 w (execOp a.eval o) v m1 := by
 have h1 := E.sim hF hx
 have hy' : a.eval y = .slice none 0 0 := by
  unfold nilSlice at hy
  split at hy
  · rfl
  · cases hy
 simp only [stepO] at hs
 split at hs
 · rename_i ad l c e1
   simp only [Option.some.injEq, Prod.mk.injEq] at hs
   obtain ⟨rfl, rfl, rfl⟩ := hs
   rw [e1] at h1
   have : ∃ ra l' c', a.eval x = .slice ra l' c' ∧ ra.isSome = ad.isSome := by
    generalize a.eval x = rv at h1
    cases h1 with
    | snil => exact ⟨_, _, _, rfl, rfl⟩
    | slice => exact ⟨_, _, _, rfl, rfl⟩
    | empty => exact ⟨_, _, _, rfl, rfl⟩
   obtain ⟨ra, l', c', hr, hsome⟩ := this
   subst hop
   refine .quiet hM (rv := .bool _) ?_ (.bool _)
   have e0 : ra.isNone = ad.isNone := by cases ra <;> cases ad <;> first | rfl | cases hsome
   have e1 : (binOp .eql t (.slice ra l' c') (.slice none 0 0)).run P w = .ok (.bool ad.isNone) w := by
    simp only [binOp, Sem.run_bind, run_equal_slice_nil w t e ra l' c' ht, Result.andThen_ok, Sem.run_pure, e0]
   have e2 : (binOp .neq t (.slice ra l' c') (.slice none 0 0)).run P w = .ok (.bool ad.isSome) w := by
    simp only [binOp, Sem.run_bind, run_equal_slice_nil w t e ra l' c' ht, Result.andThen_ok, Sem.run_pure, e0]
    cases ad <;> rfl
   cases neg
   · simp only [Bool.false_eq_true, if_false] at ho
     simp only [execOp, ho, hr, hy', eqGuard, Sem.run_bind, Result.andThen_ok, Sem.run_pure, Bool.false_eq_true, if_false]
     simp [e1]
   · simp only [if_true] at ho
     simp only [execOp, ho, hr, hy', eqGuard, Sem.run_bind, Result.andThen_ok, Sem.run_pure, if_true]
     simp [e2]
 · cases hs
theorem eqv_run {k : BK} {t : TypeId} {x y : Value} {b : Bool} (hk : basicK P t = some k) (h : eqv k x y = some b) (d : Nat) : (Op.equalIn (d + 1) t x y).run P w = .ok b w := by
 unfold basicK at hk
 split at hk <;> cases hk
 · rename_i ht
   cases x <;> cases y <;> simp only [eqv] at h <;> cases h
   exact run_equalIn_bool' w d t _ _ ht
 · rename_i k0 ht
   cases x <;> cases y <;> simp only [eqv] at h <;> try cases h
   split at h
   · rename_i e; subst e; cases h; exact run_equalIn_int w d t _ k0 _ _ ht
   · cases h
 · rename_i ht
   cases x <;> cases y <;> simp only [eqv] at h <;> cases h
   exact run_equalIn_string w d t _ _ ht
theorem basic_size {k : BK} {t : TypeId} (hk : basicK P t = some k) : (Go.isAgg t).run P w = .ok false w := by
 unfold basicK at hk
 split at hk <;> cases hk <;> rename_i ht <;> simp [Go.isAgg, run_underlying ht]
theorem eqvs_run {xs ys : Array Value} (d : Nat) : ∀ (fs : List Field) (ks : List BK) (i : Nat) (b : Bool), (∀ j f, fs[j]? = some f → f.offset = i + j ∧ (f.name == "_") = false) →
 fs.mapM (fun f => basicK P f.type) = some ks → eqvs ks (xs.toList.drop i) (ys.toList.drop i) = some b → (Op.eqFields (d + 1) xs ys fs).run P w = .ok b w
 | [], ks, i, b, _, hk, h => by
   simp at hk; subst hk
   generalize xs.toList.drop i = l1 at h
   generalize ys.toList.drop i = l2 at h
   cases l1 <;> cases l2 <;> simp [eqvs] at h
   subst h
   simp [Op.eqFields]
 | f :: fs, ks, i, b, hf, hk, h => by
   simp only [List.mapM_cons, Option.bind_eq_bind, Option.bind_eq_some_iff, Option.pure_def, Option.some.injEq] at hk
   obtain ⟨k, hk1, ks', hk2, rfl⟩ := hk
   obtain ⟨ho, hn⟩ := hf 0 f rfl
   have hn' : f.name ≠ "_" := by simpa using hn
   cases hx : xs.toList.drop i with
   | nil => rw [hx] at h; simp [eqvs] at h
   | cons x l =>
     cases hy : ys.toList.drop i with
     | nil => rw [hx, hy] at h; simp [eqvs] at h
     | cons y r =>
       rw [hx, hy] at h
       simp only [eqvs] at h
       split at h
       · rename_i b1 b2 h1 h2
         cases h
         have hxi : xs[i]? = some x := by
          have : (xs.toList.drop i)[0]? = some x := by rw [hx]; rfl
          simpa using this
         have hyi : ys[i]? = some y := by
          have : (ys.toList.drop i)[0]? = some y := by rw [hy]; rfl
          simpa using this
         have el : xs.toList.drop (i + 1) = l := by rw [← List.drop_drop, hx]; rfl
         have er : ys.toList.drop (i + 1) = r := by rw [← List.drop_drop, hy]; rfl
         have ih := eqvs_run (xs := xs) (ys := ys) d fs ks' (i + 1) b2 (fun j g hg => by have := hf (j + 1) g hg; exact ⟨by omega, this.2⟩) hk2 (by rw [el, er]; exact h2)
         have px : (part f.type xs f.offset).run P w = .ok x w := by simp [part, basic_size hk1, ho, hxi]
         have py : (part f.type ys f.offset).run P w = .ok y w := by simp [part, basic_size hk1, ho, hyi]
         rw [Op.eqFields]
         simp only [if_pos hn', Sem.run_bind, px, py, eqv_run hk1 h1 d, Result.andThen_ok]
         cases b1
         · simp
         · simpa using ih
       · cases h
theorem agg_of {β : Inj} {xs : Array Value} {r : Value} (h : VRel no β (.agg xs) r) : ∃ ys, r = .agg ys ∧ xs.size = ys.size ∧ ∀ (i : Nat) x y, xs[i]? = some x → ys[i]? = some y → VRel no β x y := by
 cases h with
 | agg hs h => exact ⟨_, rfl, hs, h⟩
theorem eqv_rel {β : Inj} {k : BK} {x y x' y' : Value} {b : Bool} (h : eqv k x y = some b) (hx : VRel no β x x') (hy : VRel no β y y') : eqv k x' y' = some b := by
 cases k <;> cases x <;> cases y <;> simp only [eqv] at h <;> (try cases h; done) <;> cases hx <;> cases hy <;> exact h
theorem eqvs_rel {β : Inj} : ∀ {ks : List BK} {l r l' r' : List Value} {b : Bool}, eqvs ks l r = some b → l.length = l'.length → r.length = r'.length →
 (∀ (i : Nat) x y, l[i]? = some x → l'[i]? = some y → VRel no β x y) → (∀ (i : Nat) x y, r[i]? = some x → r'[i]? = some y → VRel no β x y) → eqvs ks l' r' = some b
 | [], [], [], l', r', b, h, h1, h2, _, _ => by
   cases l' with
   | nil =>
     cases r' with
     | nil => exact h
     | cons => simp at h2
   | cons => simp at h1
 | k :: ks, x :: l, y :: r, l', r', b, h, h1, h2, h3, h4 => by
   cases l' with
   | nil => cases h1
   | cons x' l' =>
     cases r' with
     | nil => cases h2
     | cons y' r' =>
       simp only [eqvs] at h ⊢
       split at h
       · rename_i b1 b2 e1 e2
         cases h
         rw [eqv_rel e1 (h3 0 x x' rfl rfl) (h4 0 y y' rfl rfl), eqvs_rel e2 (by simpa using h1) (by simpa using h2) (fun i u v hu hv => h3 (i + 1) u v hu hv) (fun i u v hu hv => h4 (i + 1) u v hu hv)]
       · cases h
 | [], _ :: _, _, _, _, _, h, _, _, _, _ => by simp [eqvs] at h
 | [], [], _ :: _, _, _, _, h, _, _, _, _ => by simp [eqvs] at h
 | _ :: _, [], _, _, _, _, h, _, _, _, _ => by simp [eqvs] at h
 | _ :: _, _ :: _, [], _, _, _, h, _, _, _, _ => by simp [eqvs] at h
theorem s_eqs {neg : Bool} {op : BinOp} {t yt : TypeId} {x y : Operand} {ex ey : E} {ks : List BK} (ho : o.op = .binOp op t x y yt) (hop : op = if neg then .neq else .eql) (ht : plainStruct P t = some ks) (hx : cE no x = some ex) (hy : cE no y = some ey)
 (hF : FRel no nt β tm a) (hM : MRel no β m w)
 (hs : stepO bs (.eqs neg ks ex ey) tm m n = some (v, m1, n1)) : Runs P no β m bs n n1 w (execOp a.eval o) v m1 := by
 have h1 := E.sim hF hx
 have h2 := E.sim hF hy
 simp only [stepO] at hs
 split at hs
 · rename_i xs ys e1 e2
   split at hs
   · rename_i b hb
     simp only [Option.some.injEq, Prod.mk.injEq] at hs
     obtain ⟨rfl, rfl, rfl⟩ := hs
     rw [e1] at h1
     rw [e2] at h2
     obtain ⟨rx, hr1, hs1, hc1⟩ := agg_of h1
     obtain ⟨ry, hr2, hs2, hc2⟩ := agg_of h2
     unfold plainStruct at ht
     split at ht
     · rename_i fs hfs
       split at ht
       · rename_i hcond
         simp only [Bool.and_eq_true, Bool.not_eq_true'] at hcond
         obtain ⟨⟨hall, hstood⟩, hguard⟩ := hcond
         have hb' := eqvs_rel (l' := rx.toList) (r' := ry.toList) hb (by rw [Array.length_toList, Array.length_toList]; exact hs1) (by rw [Array.length_toList, Array.length_toList]; exact hs2) (fun i u v hu hv => hc1 i u v (by simpa using hu) (by simpa using hv)) (fun i u v hu hv => hc2 i u v (by simpa using hu) (by simpa using hv))
         have hfe : P.fieldsOf t = fs := by simp [Program.fieldsOf, hfs]
         have hrun : (Op.equalIn 10000 t (.agg rx) (.agg ry)).run P w = .ok b w := by
          rw [run_equalIn_struct (P := P) w 9999 t rx ry (by rw [hfe]; exact hfs) hstood, hfe]
          refine eqvs_run (w := w) 9998 fs.toList ks 0 b (fun j f hf => ?_) ht (by simpa using hb')
          have hm : (f, j) ∈ fs.toList.zipIdx := by
           rw [List.mem_zipIdx_iff_getElem?]; exact hf
          have := List.all_eq_true.1 hall _ hm
          simp only [Bool.and_eq_true, beq_iff_eq, bne_iff_ne] at this
          exact ⟨by omega, by simpa using this.2⟩
         subst hop
         refine .quiet hM (rv := .bool _) ?_ (.bool _)
         have hg : (eqGuard (if neg then .neq else .eql) t x y (.agg rx) (.agg ry)).run P w = .ok () w := by
          cases neg <;> simp [eqGuard, hguard]
         cases neg
         · simp only [Bool.false_eq_true, if_false] at ho hg
           simp only [execOp, ho, hr1, hr2, Sem.run_bind, hg, Result.andThen_ok, run_eql_struct, hrun, Bool.false_eq_true, if_false]
           simp
         · simp only [if_true] at ho hg
           simp only [execOp, ho, hr1, hr2, Sem.run_bind, hg, Result.andThen_ok, run_neq_struct, hrun, if_true]
           simp
       · cases ht
     · cases ht
   · cases hs
 · cases hs
end
end Go.Proofs.YtoppcdecolponaaDoor.AL
