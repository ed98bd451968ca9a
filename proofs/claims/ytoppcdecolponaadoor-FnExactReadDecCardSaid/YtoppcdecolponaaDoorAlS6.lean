/- Each step of the small language is a step of the model's: rows made, appended to; least and greatest. -/
import Derived.Test.YtoppcdecolponaaDoorAlS5
namespace Go.Proofs.YtoppcdecolponaaDoor.AL
open Go
set_option linter.unusedVariables false
set_option linter.unusedSimpArgs false
variable {no : No} {P : Program}
theorem rep_get (z : List Value) : ∀ (n i : Nat) v, (List.replicate n z).flatten[i]? = some v → i < n * z.length ∧ z[i % z.length]? = some v
 | 0, i, v, h => by simp at h
 | n + 1, i, v, h => by
   rw [List.replicate_succ, List.flatten_cons] at h
   by_cases hi : i < z.length
   · rw [List.getElem?_append_left hi] at h
     refine ⟨?_, by rw [Nat.mod_eq_of_lt hi]; exact h⟩
     calc i < 1 * z.length := by omega
      _ ≤ (n + 1) * z.length := Nat.mul_le_mul_right _ (by omega)
   · rw [List.getElem?_append_right (by omega)] at h
     obtain ⟨h1, h2⟩ := rep_get z n _ v h
     refine ⟨by rw [Nat.add_mul]; omega, ?_⟩
     rw [Nat.mod_eq_sub_mod (by omega)]
     exact h2
theorem rep_len (z : List Value) (n : Nat) : (List.replicate n z).flatten.length = n * z.length := by simp
section
variable {nt : Nat} {β : Inj} {tm : Tm} {a : Act} {m m1 : Mem} {w : World} {bs n n1 : Nat} {v : Value} {o : Oper}
theorem new_slice {β1 : Inj} {w0 : World} {k l c c' : Nat} {sz : Nat} (h : β1 n = some ⟨w0.heap.size, 0, some (sz, k)⟩) (hc : c ≤ c') (hk : c' * sz ≤ k) :
 VRel no β1 (slc n 0 l c) (.slice (some ⟨w0.heap.size, 0, none⟩) l c') := by
 have := VRel.slice (no := no) (b := n) (o := 0) (l := l) h hc (by intro k0 N0 h0; simp at h0; obtain ⟨rfl, rfl⟩ := h0; simpa using hk)
 unfold slc
 simpa using this
theorem upd_self {α : Type} (f : Nat → α) (i : Nat) (x : α) : upd f i x i = x := by simp [upd]
theorem s_mk {t e : TypeId} {i : TypeInfo} {z : List Value} {l c : Operand} {el ec : E} (ho : o.op = .makeSlice t l c) (ht : P.underlying t = some (.slice e)) (hi : P.info? e = some i) (hz : zeroOf P e = some z)
 (hl : cE no l = some el) (hc : cE no c = some ec) (hF : FRel no nt β tm a) (hM : MRel no β m w) (hfr : Fresh m n)
 (hs : stepO bs (.mk i.size i.bytes z el ec) tm m n = some (v, m1, n1)) (hd : ∀ b, n ≤ b → b < n1 → β b = none) : Runs P no β m bs n n1 w (execOp a.eval o) v m1 := by
 have h1 := E.sim hF hl
 have h2 := E.sim hF hc
 simp only [stepO] at hs
 split at hs
 · rename_i x y hx hy
   split at hs
   · rename_i hcond
     obtain ⟨h0, hxy, hb1, hb2, hzl⟩ := hcond
     simp only [Option.some.injEq, Prod.mk.injEq] at hs
     obtain ⟨rfl, rfl, rfl⟩ := hs
     rw [hx] at h1
     rw [hy] at h2
     have hn := hd n (Nat.le_refl _) (by omega)
     obtain ⟨zv, hzrun, hzc, hflat, hsz⟩ := run_zeroOf hz w
     have hzi : i.zero = some zv := by
      unfold zeroOf at hz
      simp only [hi, Option.bind_eq_bind, Option.bind_some, Option.bind_eq_some_iff] at hz
      obtain ⟨z0, hz0, _⟩ := hz
      have : zv = z0 := by
       simp [zeroValue, typeInfo, hi, hz0] at hzrun
       exact hzrun.symm
      rw [this]; exact hz0
     have hbytes : (i.bytes : Int) * y ≤ 281474976710656 := by
      have e1 : ((y.toNat * i.bytes : Nat) : Int) = y * i.bytes := by rw [Int.natCast_mul, Int.toNat_of_nonneg (by omega)]
      have : ((y.toNat * i.bytes : Nat) : Int) ≤ (2 ^ 44 : Nat) := by exact_mod_cast hb1
      rw [Int.mul_comm]; rw [e1] at this
      have e2 : ((2 ^ 44 : Nat) : Int) = 17592186044416 := by decide
      omega
     have e2 : ((roomy : Nat) : Int) = 17592186044416 := by decide
     have hrun := run_make (P := P) w t e i zv ht hi hzi .i64 .i64 x y h0 hxy hbytes (by rw [e2] at hb2; omega)
     have hrel : ∀ (j : Nat) u, (List.replicate y.toNat z).flatten[j]? = some u → ∃ r, (madeCells zv.cells (y.toNat * i.size))[j]? = some r ∧ VRel no β u r := by
      intro j u hu
      obtain ⟨hj, hu'⟩ := rep_get z _ _ _ hu
      refine ⟨u, ?_, .constW (hflat u (List.mem_of_getElem? hu'))⟩
      rw [hzl] at hj
      unfold madeCells
      have hlt : j % zv.cells.size < zv.cells.size := by
       have := (List.getElem?_eq_some_iff.1 hu').1
       rw [hzc]; simpa using this
      have : zv.cells[j % zv.cells.size]? = some u := by rw [hzc]; simpa using hu'
      simp [hj]
      rw [getElem!_pos zv.cells _ hlt]
      rw [Array.getElem?_eq_getElem hlt] at this
      exact Option.some.inj this
     obtain ⟨e1', e2', e3'⟩ := alloc_sim bs hM hfr hn (List.replicate y.toNat z).flatten (madeCells zv.cells (y.toNat * i.size)) e i.size (by rw [rep_len, hzl]; simp [madeCells]) hrel
     refine ⟨_, .slice (some ⟨w.heap.size, 0, none⟩) x.toNat y.toNat, _, _, ?_, .inl rfl, ?_, e1', e2', e3'⟩
     · simp [execOp, ho, h1.inv_int, h2.inv_int, hrun]
     · exact new_slice (upd_self _ _ _) (Nat.le_refl _) (by simp [madeCells])
   · cases hs
 · cases hs
theorem splice_get (cs : Array Value) (vs : Array Value) (off : Nat) (h : off + vs.size ≤ cs.size) :
 (vs.zipIdx.foldl (fun cs (x : Value × Nat) => cs.setIfInBounds (off + x.2) x.1) cs).size = cs.size ∧
 ∀ i, (vs.zipIdx.foldl (fun cs (x : Value × Nat) => cs.setIfInBounds (off + x.2) x.1) cs)[i]? = if off ≤ i ∧ i < off + vs.size then vs[i - off]? else cs[i]? := by
 have key : ∀ (l : List Value) (k : Nat) (cs : Array Value), off + k + l.length ≤ cs.size →
  ((l.zipIdx k).foldl (fun cs (x : Value × Nat) => cs.setIfInBounds (off + x.2) x.1) cs).size = cs.size ∧
  ∀ i, ((l.zipIdx k).foldl (fun cs (x : Value × Nat) => cs.setIfInBounds (off + x.2) x.1) cs)[i]? = if off + k ≤ i ∧ i < off + k + l.length then l[i - off - k]? else cs[i]? := by
  intro l
  induction l with
  | nil => intro k cs _; simp; intro i h1 h2; omega
  | cons x l ih =>
    intro k cs hk
    simp only [List.zipIdx_cons, List.foldl_cons]
    simp only [List.length_cons] at hk
    obtain ⟨h1, h2⟩ := ih (k + 1) (cs.setIfInBounds (off + k) x) (by simp; omega)
    refine ⟨by rw [h1]; simp, fun i => ?_⟩
    rw [h2 i]
    simp only [List.length_cons]
    by_cases e : i = off + k
    · subst e
      rw [if_neg (by omega), if_pos (by omega), Array.getElem?_setIfInBounds_self_of_lt (by omega)]
      have : off + k - off - k = 0 := by omega
      rw [this]; rfl
    · by_cases e2 : off + k ≤ i ∧ i < off + k + (l.length + 1)
      · rw [if_pos (by omega), if_pos e2]
        have : i - off - k = (i - off - (k + 1)) + 1 := by omega
        rw [this, List.getElem?_cons_succ]
      · rw [if_neg (by omega), if_neg e2, Array.getElem?_setIfInBounds_ne (by omega)]
 have := key vs.toList 0 cs (by simpa using h)
 rw [← Array.foldl_toList, Array.toList_zipIdx]
 refine ⟨this.1, fun i => ?_⟩
 rw [this.2 i]
 simp
theorem lay_get (l vs : List Value) (i j : Nat) (h : i + vs.length ≤ l.length) : (l.take i ++ vs ++ l.drop (i + vs.length))[j]? = if i ≤ j ∧ j < i + vs.length then vs[j - i]? else l[j]? := by
 by_cases h1 : j < i
 · rw [if_neg (by omega), List.append_assoc, List.getElem?_append_left (by simp; omega), List.getElem?_take_of_lt h1]
 · by_cases h2 : j < i + vs.length
   · rw [if_pos (by omega), List.getElem?_append_left (by simp; omega), List.getElem?_append_right (by simp; omega)]
     congr 1; simp; omega
   · rw [if_neg (by omega), List.getElem?_append_right (by simp; omega), List.getElem?_drop]
     congr 1; simp; omega
theorem fill_sim {β : Inj} (place : Nat → Option (Nat × Nat)) : ∀ (ps : List (Nat × Value)) (qs : List (Nat × List Value)) (cells : Array Value) (l : List Value), l.length = cells.size →
 (∀ (i : Nat) x y, l[i]? = some x → cells[i]? = some y → VRel no β x y) → ps.length = qs.length →
 (∀ (j : Nat) p q, ps[j]? = some p → qs[j]? = some q → ∃ sz, place p.1 = some (q.1, sz) ∧ p.2.cells.size = sz ∧ q.2.length = sz ∧ q.1 + sz ≤ l.length ∧ ∀ (i : Nat) x y, q.2[i]? = some x → p.2.cells[i]? = some y → VRel no β x y) →
 ∃ out, Instr.fill place cells ps = some out ∧ out.size = cells.size ∧ (fill l qs).length = l.length ∧ ∀ (i : Nat) x y, (fill l qs)[i]? = some x → out[i]? = some y → VRel no β x y
 | [], qs, cells, l, hl, hrel, hlen, _ => by
   cases qs with
   | nil => exact ⟨cells, rfl, rfl, rfl, hrel⟩
   | cons => simp at hlen
 | (i, v) :: ps, qs, cells, l, hl, hrel, hlen, hp => by
   cases qs with
   | nil => simp at hlen
   | cons q qs =>
     obtain ⟨off, vs⟩ := q
     obtain ⟨sz, hpl, h1, h2, h3, h4⟩ := hp 0 (i, v) (off, vs) rfl rfl
     simp only at hpl h1 h2 h3 h4
     obtain ⟨g1, g2⟩ := splice_get cells v.cells off (by omega)
     simp only [Instr.fill, hpl]
     rw [if_neg (by simp; omega)]
     have hnl : (l.take off ++ vs ++ l.drop (off + vs.length)).length = l.length := by simp; omega
     obtain ⟨out, r1, r2, r3, r4⟩ := fill_sim place ps qs _ (l.take off ++ vs ++ l.drop (off + vs.length)) (by rw [hnl, g1, hl]) (by
      intro j x y hx hy
      rw [lay_get l vs off j (by omega)] at hx
      rw [g2 j] at hy
      by_cases e : off ≤ j ∧ j < off + vs.length
      · rw [if_pos e] at hx
        rw [if_pos (by omega)] at hy
        exact h4 _ x y hx hy
      · rw [if_neg e] at hx
        rw [if_neg (by omega)] at hy
        exact hrel _ x y hx hy) (by simpa using hlen) (by
      intro j p q hj hq
      obtain ⟨sz', k1, k2, k3, k4, k5⟩ := hp (j + 1) p q hj hq
      exact ⟨sz', k1, k2, k3, by rw [hnl]; exact k4, k5⟩)
     exact ⟨out, r1, by rw [r2, g1], by simp only [fill]; rw [r3, hnl], by simpa only [fill] using r4⟩
theorem parts_mapM {α β' : Type} (f : α → Option β') : ∀ {l : List α} {r : List β'}, l.mapM f = some r → r.length = l.length ∧ ∀ (i : Nat) x y, l[i]? = some x → r[i]? = some y → f x = some y
 | [], r, h => by simp at h; subst h; simp
 | x :: l, r, h => by
   simp only [List.mapM_cons, Option.bind_eq_bind, Option.bind_eq_some_iff, Option.pure_def, Option.some.injEq] at h
   obtain ⟨y, hy, r', hr, rfl⟩ := h
   obtain ⟨h1, h2⟩ := parts_mapM f hr
   refine ⟨by simp [h1], fun i u v hu hv => ?_⟩
   cases i with
   | zero => simp at hu hv; subst hu; subst hv; exact hy
   | succ i => exact h2 i u v (by simpa using hu) (by simpa using hv)
theorem s_bs {t e : TypeId} {k : Nat} {z : List Value} {parts : Array (Nat × Operand)} {ps : List (Nat × E)} (ho : o.op = .buildSlice t k parts) (ht : P.underlying t = some (.slice e)) (hz : zeroOf P e = some z)
 (hk : k * z.length ≤ 2 ^ 24) (hz0 : z.length ≠ 0) (hp : parts.toList.mapM (fun p => (cE no p.2).bind fun x => some (p.1, x)) = some ps) (hF : FRel no nt β tm a) (hM : MRel no β m w) (hfr : Fresh m n)
 (hs : stepO bs (.bs z.length k z ps) tm m n = some (v, m1, n1)) (hd : ∀ b, n ≤ b → b < n1 → β b = none) : Runs P no β m bs n n1 w (execOp a.eval o) v m1 := by
 obtain ⟨zv, hzrun, hzc, hflat, hsz⟩ := run_zeroOf hz w
 obtain ⟨hpl, hpp⟩ := parts_mapM _ hp
 simp only [stepO] at hs
 split at hs
 · rename_i hcond
   obtain ⟨_, hj, hb⟩ := hcond
   simp only [Option.some.injEq, Prod.mk.injEq] at hs
   obtain ⟨rfl, rfl, rfl⟩ := hs
   have hn := hd n (Nat.le_refl _) (by omega)
   let cells0 : Array Value := (Array.range (k * z.length)).map (zv.cells[· % zv.cells.size]!)
   have hc0 : cells0.size = k * z.length := by simp [cells0]
   have hrel0 : ∀ (i : Nat) x y, (List.replicate k z).flatten[i]? = some x → cells0[i]? = some y → VRel no β x y := by
    intro i x y hx hy
    obtain ⟨hi, hx'⟩ := rep_get z _ _ _ hx
    have hlt : i % zv.cells.size < zv.cells.size := by
     have := (List.getElem?_eq_some_iff.1 hx').1
     rw [hzc]; simpa using this
    have h2 : zv.cells[i % zv.cells.size]? = some x := by rw [hzc]; simpa using hx'
    have : y = x := by
     simp [cells0, hi] at hy
     rw [getElem!_pos zv.cells _ hlt] at hy
     rw [Array.getElem?_eq_getElem hlt] at h2
     rw [← hy]; exact Option.some.inj h2
    subst this
    exact .constW (hflat y (List.mem_of_getElem? hx'))
   obtain ⟨out, r1, r2, r3, r4⟩ := fill_sim (no := no) (β := β) (fun i => some (i * z.length, z.length)) (parts.toList.map fun p => (p.1, a.eval p.2)) (ps.map fun p => (p.1 * z.length, (p.2.ev tm).cells.toList)) cells0 (List.replicate k z).flatten
    (by rw [rep_len, hc0]) hrel0 (by simp [hpl]) (by
      intro j p q hpj hqj
      simp only [List.getElem?_map, Option.map_eq_some_iff] at hpj hqj
      obtain ⟨p0, hp0, rfl⟩ := hpj
      obtain ⟨q0, hq0, rfl⟩ := hqj
      have hpq := hpp j p0 q0 hp0 hq0
      simp only [Option.bind_eq_some_iff, Option.some.injEq] at hpq
      obtain ⟨x, hx, rfl⟩ := hpq
      have hjj := List.all_eq_true.1 hj _ (List.mem_of_getElem? hq0)
      have hbb := List.all_eq_true.1 hb _ (List.mem_map.2 ⟨_, List.mem_of_getElem? hq0, rfl⟩)
      simp only [Bool.and_eq_true, beq_iff_eq, decide_eq_true_eq] at hbb
      obtain ⟨c1, c2⟩ := cells_rel (by simpa using hjj) (E.sim hF hx)
      have hb2 : p0.1 * z.length + (x.ev tm).cells.toList.length ≤ k * z.length := hbb.2
      have hb1 : (x.ev tm).cells.toList.length = z.length := hbb.1
      refine ⟨z.length, rfl, by rw [← c1]; simpa using hb1, hb1, by rw [rep_len]; show p0.1 * z.length + z.length ≤ _; omega, fun i x y hx hy => c2 i x y (by simpa using hx) hy⟩)
   have hal := alloc_sim (t := e) (sz := z.length) bs hM hfr hn (fill (List.replicate k z).flatten (ps.map fun p => (p.1 * z.length, (p.2.ev tm).cells.toList))) out (by rw [r3, r2, rep_len, hc0]; exact Nat.le_refl _) (by
    intro i x hx
    have hlt := (List.getElem?_eq_some_iff.1 hx).1
    rw [r3, rep_len] at hlt
    exact ⟨_, Array.getElem?_eq_getElem (by omega), r4 i x _ hx (Array.getElem?_eq_getElem (by omega))⟩)
   obtain ⟨e1, e2, e3⟩ := hal
   refine ⟨_, .slice (some ⟨w.heap.size, 0, none⟩) k k, _, _, ?_, .inl rfl, ?_, e1, e2, e3⟩
   · have hne : ¬ (k * z.length > 2 ^ 24) := by omega
     by_cases h0 : k * z.length = 0
     · have e0 : ∀ f : Nat → Value, (Array.range (k * z.length)).map f = #[] := by intro f; simp [h0]
       have : cells0 = #[] := e0 _
       rw [this] at r1
       simp only [execOp, ho, Instr.buildSlice, Sem.run_bind, run_underlying ht, Result.andThen_ok, run_sizeT hsz, if_neg hne, if_pos h0, Sem.run_pure, e0, Array.toList_map, r1, run_newRow]
     · simp only [execOp, ho, Instr.buildSlice, Sem.run_bind, run_underlying ht, Result.andThen_ok, run_sizeT hsz, if_neg hne, if_neg h0, Sem.run_pure, hzrun, Array.toList_map]
       have r1' := r1
       simp only [cells0] at r1'
       simp only [r1', run_newRow, Sem.run_bind, Sem.run_pure, Result.andThen_ok]
   · exact new_slice (upd_self _ _ _) (Nat.le_refl _) (by rw [r2, hc0]; exact Nat.le_refl _)
 · cases hs
theorem s_bd {t : TypeId} {fs : Array Field} {z : List Value} {parts : Array (Nat × Operand)} {ps : List (Nat × Nat × E)} (ho : o.op = .build t parts) (ht : P.underlying t = some (.struct fs)) (hz : zeroOf P t = some z)
 (hfs : ∀ f ∈ fs.toList, (sizeT P f.type).isSome = true)
 (hp : parts.toList.mapM (fun p => (fs[p.1]?).bind fun f => (sizeT P f.type).bind fun k => (cE no p.2).bind fun x => some (f.offset, k, x)) = some ps) (hF : FRel no nt β tm a) (hM : MRel no β m w)
 (hs : stepO bs (.bd z ps) tm m n = some (v, m1, n1)) : Runs P no β m bs n n1 w (execOp a.eval o) v m1 := by
 obtain ⟨zv, hzrun, hzc, hflat, hsz⟩ := run_zeroOf hz w
 obtain ⟨hpl, hpp⟩ := parts_mapM _ hp
 simp only [stepO] at hs
 split at hs
 · rename_i hcond
   simp only [Option.some.injEq, Prod.mk.injEq] at hs
   obtain ⟨rfl, rfl, rfl⟩ := hs
   -- the places of the fields
   have hplaces : ∃ pl : Array (Nat × Nat), (fs.mapM (fun f => do pure (f.offset, ← sizeOf f.type) : Field → Sem (Nat × Nat))).run P w = .ok pl w ∧ ∀ (i : Nat) (f : Field) k, fs[i]? = some f → sizeT P f.type = some k → pl[i]? = some (f.offset, k) := by
    have key : ∀ l : List Field, (∀ f ∈ l, (sizeT P f.type).isSome = true) → ∃ pl : List (Nat × Nat), (l.mapM (fun f => do pure (f.offset, ← sizeOf f.type) : Field → Sem (Nat × Nat))).run P w = .ok pl w ∧
     ∀ (i : Nat) (f : Field) k, l[i]? = some f → sizeT P f.type = some k → pl[i]? = some (f.offset, k) := by
     intro l
     induction l with
     | nil => intro _; exact ⟨[], by simp, fun i f k h => by simp at h⟩
     | cons f l ih =>
       intro hl
       obtain ⟨pl, h1, h2⟩ := ih (fun g hg => hl g (List.mem_cons_of_mem _ hg))
       obtain ⟨k, hk⟩ := Option.isSome_iff_exists.1 (hl f (List.mem_cons_self ..))
       refine ⟨(f.offset, k) :: pl, ?_, fun i g j hg hj => ?_⟩
       · simp only [List.mapM_cons, Sem.run_bind, run_sizeT hk, Result.andThen_ok, Sem.run_pure, h1]
       · cases i with
         | zero => simp at hg; subst hg; rw [hk] at hj; cases hj; rfl
         | succ i => exact h2 i g j (by simpa using hg) hj
    obtain ⟨pl, h1, h2⟩ := key fs.toList hfs
    refine ⟨pl.toArray, ?_, fun i f k hf hk => by simpa using h2 i f k (by simpa using hf) hk⟩
    rw [← Array.toArray_toList (xs := fs), List.mapM_toArray]
    simp only [map_eq_pure_bind, Sem.run_bind, h1, Result.andThen_ok, Sem.run_pure]
   obtain ⟨pl, hplr, hpl2⟩ := hplaces
   obtain ⟨out, r1, r2, r3, r4⟩ := fill_sim (no := no) (β := β) (pl[·]?) (parts.toList.map fun p => (p.1, a.eval p.2)) (ps.map fun p => (p.1, (p.2.2.ev tm).cells.toList)) zv.cells z
    (by rw [hzc]; simp) (fun i x y hx hy => by
      rw [hzc] at hy
      simp at hy
      rw [hx] at hy; cases hy
      exact .constW (hflat x (List.mem_of_getElem? hx))) (by simp [hpl]) (by
      intro j p q hpj hqj
      simp only [List.getElem?_map, Option.map_eq_some_iff] at hpj hqj
      obtain ⟨p0, hp0, rfl⟩ := hpj
      obtain ⟨q0, hq0, rfl⟩ := hqj
      have hpq := hpp j p0 q0 hp0 hq0
      simp only [Option.bind_eq_some_iff, Option.some.injEq] at hpq
      obtain ⟨f, hf, k, hk, x, hx, rfl⟩ := hpq
      have hcc := List.all_eq_true.1 hcond _ (List.mem_of_getElem? hq0)
      simp only [Bool.and_eq_true, Bool.not_eq_true', beq_iff_eq, decide_eq_true_eq] at hcc
      obtain ⟨⟨hj, hsz1⟩, hle⟩ := hcc
      obtain ⟨c1, c2⟩ := cells_rel hj (E.sim hF hx)
      exact ⟨k, hpl2 _ f k hf hk, by rw [← c1]; exact hsz1, by simpa using hsz1, hle, fun i x y hx hy => c2 i x y (by simpa using hx) hy⟩)
   refine .quiet hM (rv := .agg out) ?_ (.agg (by rw [r2, hzc]; simp [r3]) fun i x y hx hy => r4 i x y (by simpa using hx) hy)
   simp only [execOp, ho, Instr.build, Sem.run_bind, hzrun, Result.andThen_ok, run_underlying ht, hplr, Array.toList_map, r1, Sem.run_pure]
 · cases hs
theorem fold_run {f : Value → Value → Option Value} {g : Value → Value → Sem Value} (h : ∀ x y z, f x y = some z → (g x y).run P w = .ok z w) :
 ∀ (l : List Value) (x z : Value), foldv f x l = some z → (l.foldlM g x).run P w = .ok z w
 | [], x, z, e => by simp [foldv] at e; subst e; simp
 | y :: l, x, z, e => by
   simp only [foldv] at e
   split at e
   · rename_i u hu
     simp only [List.foldlM_cons, Sem.run_bind, h x y u hu, Result.andThen_ok]
     exact fold_run h l u z e
   · cases e
theorem foldv_rel {f : Value → Value → Option Value} (hf : ∀ x y z x' y', f x y = some z → VRel no β x x' → VRel no β y y' → f x' y' = some z ∧ VRel no β z z) :
 ∀ (l l' : List Value) (x x' z : Value), foldv f x l = some z → VRel no β x x' → l.length = l'.length → (∀ (i : Nat) u v, l[i]? = some u → l'[i]? = some v → VRel no β u v) →
   ∃ z', foldv f x' l' = some z' ∧ VRel no β z z'
 | [], l', x, x', z, e, hx, hl, _ => by
   cases l' with
   | nil => simp [foldv] at e; subst e; exact ⟨x', rfl, hx⟩
   | cons => simp at hl
 | y :: l, l', x, x', z, e, hx, hl, h => by
   cases l' with
   | nil => simp at hl
   | cons y' l' =>
     simp only [foldv] at e ⊢
     split at e
     · rename_i u hu
       obtain ⟨h1, h2⟩ := hf x y u x' y' hu hx (h 0 y y' rfl rfl)
       rw [h1]
       exact foldv_rel hf l l' u u z e h2 (by simpa using hl) fun i a b ha hb => h (i + 1) a b ha hb
     · cases e
theorem min2v_rel (x y z x' y' : Value) (h : min2v x y = some z) (hx : VRel no β x x') (hy : VRel no β y y') : min2v x' y' = some z ∧ VRel no β z z := by
 unfold min2v at h
 split at h
 · rw [hx.inv_int, hy.inv_int]
   refine ⟨h, ?_⟩
   split at h
   · cases h; exact .int _ _
   · cases h
 · cases h
theorem max2v_rel (x y z x' y' : Value) (h : max2v x y = some z) (hx : VRel no β x x') (hy : VRel no β y y') : max2v x' y' = some z ∧ VRel no β z z := by
 unfold max2v at h
 split at h
 · rw [hx.inv_int, hy.inv_int]
   refine ⟨h, ?_⟩
   split at h
   · cases h; exact .int _ _
   · cases h
 · cases h
theorem s_mn {args : Array Operand} {ts : Array TypeId} {es : List E} (ho : o.op = .call { callee := .builtin .min, args, argTypes := ts }) (hx : cEs no args = some es) (hF : FRel no nt β tm a) (hM : MRel no β m w)
 (hs : stepO bs (.mn es) tm m n = some (v, m1, n1)) : Runs P no β m bs n n1 w (execOp a.eval o) v m1 := by
 obtain ⟨hl, hrel⟩ := Es.sim hF hx
 simp only [stepO] at hs
 cases hes : es.map (·.ev tm) with
 | nil => rw [hes] at hs; cases hs
 | cons x l =>
   rw [hes] at hs
   simp only at hs
   split at hs
   · rename_i u hu
     simp only [Option.some.injEq, Prod.mk.injEq] at hs
     obtain ⟨rfl, rfl, rfl⟩ := hs
     cases hra : args.toList.map a.eval with
     | nil =>
       have h1 := congrArg List.length hes
       have h2 := congrArg List.length hra
       simp only [List.length_map, List.length_cons, List.length_nil] at h1 h2
       omega
     | cons x' l' =>
       rw [hes, hra] at hrel
       have hlen : l.length = l'.length := by
        have h1 := congrArg List.length hes
        have h2 := congrArg List.length hra
        simp only [List.length_map, List.length_cons] at h1 h2
        omega
       obtain ⟨z', hz, hr⟩ := foldv_rel min2v_rel l l' x x' u hu (hrel 0 x x' rfl rfl) hlen fun i a b ha hb => hrel (i + 1) a b ha hb
       refine .quiet hM (rv := z') ?_ hr
       rw [run_bltn _ ho]
       have hf := fold_run (P := P) (w := w) (f := min2v) (g := Builtin.min2) (by
        intro x y z h
        unfold min2v at h
        split at h
        · split at h
          · cases h; simp [Builtin.min2]
          · cases h
        · cases h) l' x' z' hz
       simp only [builtin, Builtin.min_, Array.toList_map, hra, Sem.run_bind, hf, Result.andThen_ok, Sem.run_pure]
   · cases hs
theorem s_mx {args : Array Operand} {ts : Array TypeId} {es : List E} (ho : o.op = .call { callee := .builtin .max, args, argTypes := ts }) (hx : cEs no args = some es) (hF : FRel no nt β tm a) (hM : MRel no β m w)
 (hs : stepO bs (.mx es) tm m n = some (v, m1, n1)) : Runs P no β m bs n n1 w (execOp a.eval o) v m1 := by
 obtain ⟨hl, hrel⟩ := Es.sim hF hx
 simp only [stepO] at hs
 cases hes : es.map (·.ev tm) with
 | nil => rw [hes] at hs; cases hs
 | cons x l =>
   rw [hes] at hs
   simp only at hs
   split at hs
   · rename_i u hu
     simp only [Option.some.injEq, Prod.mk.injEq] at hs
     obtain ⟨rfl, rfl, rfl⟩ := hs
     cases hra : args.toList.map a.eval with
     | nil =>
       have h1 := congrArg List.length hes
       have h2 := congrArg List.length hra
       simp only [List.length_map, List.length_cons, List.length_nil] at h1 h2
       omega
     | cons x' l' =>
       rw [hes, hra] at hrel
       have hlen : l.length = l'.length := by
        have h1 := congrArg List.length hes
        have h2 := congrArg List.length hra
        simp only [List.length_map, List.length_cons] at h1 h2
        omega
       obtain ⟨z', hz, hr⟩ := foldv_rel max2v_rel l l' x x' u hu (hrel 0 x x' rfl rfl) hlen fun i a b ha hb => hrel (i + 1) a b ha hb
       refine .quiet hM (rv := z') ?_ hr
       rw [run_bltn _ ho]
       have hf := fold_run (P := P) (w := w) (f := max2v) (g := Builtin.max2) (by
        intro x y z h
        unfold max2v at h
        split at h
        · split at h
          · cases h; simp [Builtin.max2]
          · cases h
        · cases h) l' x' z' hz
       simp only [builtin, Builtin.max_, Array.toList_map, hra, Sem.run_bind, hf, Result.andThen_ok, Sem.run_pure]
   · cases hs
end
end Go.Proofs.YtoppcdecolponaaDoor.AL
