/- Append is a step of the model's. -/
import Derived.Test.YtoppcdecolponaaDoorAlS6
namespace Go.Proofs.YtoppcdecolponaaDoor.AL
open Go
set_option linter.unusedVariables false
set_option linter.unusedSimpArgs false
variable {no : No} {P : Program}
theorem regrow_sim {β : Inj} {m : Mem} {w : World} {bs n b : Nat} {blk : Blk} {L : Loc} (hM : MRel no β m w) (hfr : Fresh m n) (hβ : β n = none) (hb : m b = some blk) (ho : blk.own = true) (hbs : bs ≤ b)
 (hL : β b = some L) (off : Nat) (cells : List Value) (cs0 cs : Array Value) (t : TypeId) (hw0 : w.heap[L.B]? = some (.cells cs0 t (0, 0))) (hsz : cs.size = cs0.size)
 (hroom : L.O + off + cells.length ≤ cs.size)
 (hrel : ∀ (i : Nat) v, cells[i]? = some v → ∃ r, cs[L.O + off + i]? = some r ∧ VRel no β v r) :
 let β1 := upd β n (some ⟨L.B, L.O + off, L.room⟩)
 let w1 := w.setRow L.B cs
 Ext β β1 m bs n (n + 1) w ∧ MRel no β1 (upd (upd m b none) n (some ⟨cells, true, blk.sz⟩)) w1 ∧ Frm β m bs n w w1 := by
 intro β1 w1
 have hlt : b < n := by
  rcases Nat.lt_or_ge b n with h | h
  · exact h
  · rw [hfr b h] at hb; cases hb
 have hold : Ext0 β β1 := by
  intro b' L' e
  simp only [β1, upd]
  split
  · rename_i h; rw [h, hβ] at e; cases e
  · exact e
 have hheap : ∀ B, B ≠ L.B → w1.heap[B]? = w.heap[B]? := fun B hB => setRow_other w L.B B cs hB
 have hnew : w1.heap[L.B]? = some (.cells cs t (0, 0)) := setRow_heap w L.B cs0 cs t (0, 0) hw0
 obtain ⟨cs1, t1, hw1, hroom0, hle⟩ := hM.own b blk L hb hL ho
 rw [hw0] at hw1; cases hw1
 have hβ1 : ∀ b' L', β1 b' = some L' → (b' = n ∧ L' = ⟨L.B, L.O + off, L.room⟩) ∨ (b' ≠ n ∧ β b' = some L') := by
  intro b' L' e
  simp only [β1, upd] at e
  split at e
  · rename_i h; cases e; exact .inl ⟨h, rfl⟩
  · rename_i h; exact .inr ⟨h, e⟩
 have hmold : ∀ b' k', b' ≠ n → upd (upd m b none) n (some (⟨cells, true, blk.sz⟩ : Blk)) b' = some k' → b' ≠ b ∧ m b' = some k' := by
  intro b' k' h e
  simp only [upd, if_neg h] at e
  split at e
  · cases e
  · rename_i h2; exact ⟨h2, e⟩
 refine ⟨⟨hold, ?_, ?_⟩, ⟨?_, ?_, ?_, ?_, ?_, ?_, ?_⟩, ⟨rfl, rfl, rfl, by simp [w1], fun B hB hne => hheap B (Ne.symm (hne b L hL ⟨_, hb, ho⟩ hbs hlt))⟩⟩
 · intro b' e
   by_cases h : b' = n
   · omega
   · exact absurd (by simp [β1, upd, h]) e
 · intro b' L' e e0
   rcases hβ1 b' L' e with ⟨h, rfl⟩ | ⟨h, h1⟩
   · exact .inr ⟨b, L, hL, ⟨_, hb, ho⟩, hbs, hlt, rfl⟩
   · rw [e0] at h1; cases h1
 · intro b' L' e
   have : w1.heap.size = w.heap.size := by simp [w1]
   rw [this]
   rcases hβ1 b' L' e with ⟨h, rfl⟩ | ⟨h, h1⟩
   · exact hM.bound b L hL
   · exact hM.bound b' L' h1
 · intro b' blk' L' hb' e i v hv
   rcases hβ1 b' L' e with ⟨rfl, rfl⟩ | ⟨h, h1⟩
   · simp [upd] at hb'
     subst hb'
     obtain ⟨r, hr, hvr⟩ := hrel i v hv
     exact ⟨r, by simp [World.cell?, hnew, hr], hvr.mono hold⟩
   · obtain ⟨hne, hb2⟩ := hmold b' blk' h hb'
     obtain ⟨r, hr, hvr⟩ := hM.cells b' blk' L' hb2 h1 i v hv
     have hne' := hM.apart b b' blk blk' L L' hb ho hL hb2 h1 (Ne.symm hne)
     exact ⟨r, by rw [World.cell?_of_block (w := w) (hheap _ (Ne.symm hne'))]; exact hr, hvr.mono hold⟩
 · intro b' blk' L' hb' e ho'
   rcases hβ1 b' L' e with ⟨rfl, rfl⟩ | ⟨h, h1⟩
   · simp [upd] at hb'
     subst hb'
     exact ⟨cs, t, hnew, by rw [hsz]; exact hroom0, hroom⟩
   · obtain ⟨hne, hb2⟩ := hmold b' blk' h hb'
     have hne' := hM.apart b b' blk blk' L L' hb ho hL hb2 h1 (Ne.symm hne)
     rw [hheap _ (Ne.symm hne')]
     exact hM.own b' blk' L' hb2 h1 ho'
 · intro b' blk' L' hb' e ho'
   rcases hβ1 b' L' e with ⟨rfl, rfl⟩ | ⟨h, h1⟩
   · simp [upd] at hb'
     subst hb'
     cases ho'
   · obtain ⟨hne, hb2⟩ := hmold b' blk' h hb'
     exact hM.ro b' blk' L' hb2 h1 ho'
 · intro b1 b2 k1 k2 L1 L2 h1 ho1 e1 h2 e2 hne
   rcases hβ1 b1 L1 e1 with ⟨rfl, rfl⟩ | ⟨g1, f1⟩ <;> rcases hβ1 b2 L2 e2 with ⟨rfl, rfl⟩ | ⟨g2, f2⟩
   · exact absurd rfl hne
   · obtain ⟨hn2, hm2⟩ := hmold b2 k2 g2 h2
     exact hM.apart b b2 blk k2 L L2 hb ho hL hm2 f2 (Ne.symm hn2)
   · obtain ⟨hn1, hm1⟩ := hmold b1 k1 g1 h1
     exact hM.apart b1 b k1 blk L1 L hm1 ho1 f1 hb hL hn1
   · obtain ⟨hn1, hm1⟩ := hmold b1 k1 g1 h1
     obtain ⟨hn2, hm2⟩ := hmold b2 k2 g2 h2
     exact hM.apart b1 b2 k1 k2 L1 L2 hm1 ho1 f1 hm2 f2 hne
 · exact ⟨by simpa [w1] using hM.kept.1, fun B hB => by rw [hheap B (fun e => by have := hM.ownS b blk L hb hL ho; omega)]; exact hM.kept.2 B hB⟩
 · intro b' blk' L' hb' e ho'
   rcases hβ1 b' L' e with ⟨rfl, rfl⟩ | ⟨h, h1⟩
   · exact hM.ownS b blk L hb hL ho
   · obtain ⟨hne, hb2⟩ := hmold b' blk' h hb'
     exact hM.ownS b' blk' L' hb2 h1 ho'
theorem MRel.drew {β : Inj} {m : Mem} {w : World} (h : MRel no β m w) : MRel no β m w.drew :=
 ⟨h.bound, h.cells, h.own, h.ro, h.apart, h.kept, h.ownS⟩
theorem own_upd {m : Mem} {c : Nat} (b : Nat) (h : Own (upd m c none) b) : Own m b := by
 obtain ⟨x, h1, h2⟩ := h
 simp only [upd] at h1
 split at h1
 · cases h1
 · exact ⟨x, h1, h2⟩
theorem Frm.drewL {β : Inj} {m : Mem} {bs n : Nat} {w w1 : World} (h : Frm β m bs n w.drew w1) : Frm β m bs n w w1 := ⟨h.os, h.tape, h.output, h.size, h.block⟩
theorem Ext.drewL {β β1 : Inj} {m : Mem} {bs n n1 : Nat} {w : World} (h : Ext β β1 m bs n n1 w.drew) : Ext β β1 m bs n n1 w := ⟨h.old, h.only, h.fresh⟩
section
variable {nt : Nat} {β : Inj} {tm : Tm} {a : Act} {m m1 : Mem} {w : World} {bs n n1 : Nat} {v : Value} {o : Oper}
theorem cut_cap (need old : Nat) (e : TypeId) (t : Nat) : need ≤ (Question.appendCap need old e).cut t := by
 simp [Question.cut]
theorem s_app {t e t2 e2 : TypeId} {i : TypeInfo} {args : Array Operand} {ts : Array TypeId} {s x : Operand} {es ex : E} (ho : o.op = .call { callee := .builtin .append, args, argTypes := ts }) (ha : args = #[s, x])
 (h0 : ts[0]? = some t) (h1 : ts[1]? = some t2) (ht : P.underlying t = some (.slice e)) (ht2 : P.underlying t2 = some (.slice e2)) (hi : P.info? e = some i) (hb0 : i.bytes ≠ 0) (hsz0 : i.size ≠ 0) (hbm : i.bytes ≤ 1048576)
 (hz : (zeroOf P e).isSome = true) (hxs : cE no s = some es) (hxx : cE no x = some ex) (hF : FRel no nt β tm a) (hM : MRel no β m w) (hfr : Fresh m n)
 (hs : stepO bs (.app i.size i.bytes es ex) tm m n = some (v, m1, n1)) (hd : ∀ b, n ≤ b → b < n1 → β b = none) : Runs P no β m bs n n1 w (execOp a.eval o) v m1 := by
 obtain ⟨z, hz⟩ := Option.isSome_iff_exists.1 hz
 have hzi : ∃ zv, i.zero = some zv ∧ zv.cells.size = i.size := by
  unfold zeroOf at hz
  simp only [hi, Option.bind_eq_bind, Option.bind_some, Option.bind_eq_some_iff] at hz
  obtain ⟨z0, hz0, hz1⟩ := hz
  split at hz1
  · rename_i hc
    simp only [Bool.and_eq_true, beq_iff_eq] at hc
    exact ⟨z0, hz0, hc.2⟩
  · cases hz1
 obtain ⟨zv, hzi, hzs⟩ := hzi
 have r1 := E.sim hF hxs
 have r2 := E.sim hF hxx
 simp only [stepO] at hs
 split at hs
 case h_2 => cases hs
 rename_i base len cap xb xl xc e1 e2
 split at hs
 case isFalse => cases hs
 rename_i hcond
 obtain ⟨hby, hro, hlc⟩ := hcond
 rw [e1] at r1
 rw [e2] at r2
 obtain ⟨rb, rc, hr1, hcc, hnil1⟩ := slice_of r1
 obtain ⟨xa, xc', hr2, _, hnil2⟩ := slice_of r2
 have e44 : roomy = 17592186044416 := by decide
 rw [e44] at hby hro
 split at hs
 · -- nothing is appended
   rename_i hx0
   simp only [Option.some.injEq, Prod.mk.injEq] at hs
   obtain ⟨rfl, rfl, rfl⟩ := hs
   refine .quiet hM (rv := a.eval s) ?_ (by rw [hr1] at r1 ⊢; exact r1)
   rw [run_bltn _ ho, hr1]
   have hle : len ≤ rc := by omega
   have hff : (Builtin.firstCells i.size xl (.slice xa xl xc')).run P w = .ok #[] w := by
    rw [hx0]
    cases xa with
    | none => exact run_firstCells_none w _ _ _ _
    | some ad =>
      have := run_firstCells_some (P := P) w i.size 0 ad 0 xc' [] (by simp) (by intro j v h; simp at h)
      simpa using this
   subst hx0
   cases rb <;> simp [ha, builtin, Builtin.append_, h0, h1, hr1, hr2, run_underlying ht, run_underlying ht2, sizeOf, typeInfo, hi, Builtin.lenOf, hle, hff, storeCells]
 · rename_i hx0
   split at hs
   · cases hs
   · rename_i xad
     split at hs
     · cases hs
     · rename_i new hnew
       split at hs
       case isFalse => cases hs
       rename_i hone
       -- the elements that are appended, in the world
       have hxsp : xad.spot = none := by
        unfold rdn at hnew
        split at hnew
        · cases hnew
        · rename_i h; simpa using h
       obtain ⟨XL, xc2, hXL, hrx, _, _⟩ := r2.inv_slice hxsp
       rw [hr2] at hrx
       cases hrx
       have hptr : VRel no β (.pointer (some xad)) (.pointer (some ⟨XL.B, XL.O + xad.off, none⟩)) := by
        have : xad = ⟨xad.block, xad.off, none⟩ := by cases xad; simp at hxsp; simp [hxsp]
        rw [this]; exact .ptr hXL
       obtain ⟨rs, hload, hnl, hrl, hrel⟩ := rdn_sim P hM hptr hnew
       have hload' : (loadCells ⟨XL.B, XL.O + xad.off, none⟩ (xl * i.size)).run P w.drew = .ok rs w.drew := by
        obtain ⟨rs', hload2, _, hrl', hrel'⟩ := rdn_sim P hM.drew hptr hnew
        have hc : ∀ j, j < xl * i.size → ∃ r, w.cell? ((⟨XL.B, XL.O + xad.off, none⟩ : Addr).add j) = some r := by
         intro j hj
         unfold rdn at hnew
         rw [if_neg (by simp [hxsp])] at hnew
         split at hnew
         · rename_i blk hblk
           split at hnew
           · rename_i hle
             have hv : blk.cells[xad.off + j]? = some (blk.cells[xad.off + j]'(by omega)) := List.getElem?_eq_getElem _
             obtain ⟨r, hr, _⟩ := hM.cells xad.block blk XL hblk hXL _ _ hv
             exact ⟨r, by rw [addr_add, Nat.add_assoc]; exact hr⟩
           · cases hnew
         · cases hnew
        let f : Nat → Value := fun j => if h : j < xl * i.size then (hc j h).choose else undef
        have hf : ∀ j, j < xl * i.size → w.cell? ((⟨XL.B, XL.O + xad.off, none⟩ : Addr).add j) = some (f j) := by
         intro j hj; simp only [f, dif_pos hj]; exact (hc j hj).choose_spec
        have q1 := run_loadCells (P := P) w ⟨XL.B, XL.O + xad.off, none⟩ (xl * i.size) f hf
        have q2 := run_loadCells (P := P) w.drew ⟨XL.B, XL.O + xad.off, none⟩ (xl * i.size) f hf
        rw [hload] at q1
        cases q1
        exact q2
       have honer : ∀ r ∈ rs.toList, r.oneCell' = true := by
        intro r hr
        obtain ⟨j, hj⟩ := List.getElem?_of_mem hr
        have hlt := (List.getElem?_eq_some_iff.1 hj).1
        simp at hlt
        have hv : new[j]? = some (new[j]'(by omega)) := List.getElem?_eq_getElem _
        have := List.all_eq_true.1 hone _ (List.getElem_mem (h := (by omega : j < new.length)))
        exact (oneCell_of (by simpa using this) (hrel j _ r hv (by simpa using hj))).1
       have hgrown : ∀ old : Nat, old < len + xl → Builtin.nextslicecap (len + xl) old * i.bytes ≤ 281474976710656 := fun old h => growslice_fits h (Nat.le_trans hby (by decide))
       cases base with
       | none =>
         simp only at hs
         split at hs
         case isFalse => cases hs
         rename_i hcap
         have hl0 : len = 0 := by omega
         subst hcap; subst hl0
         simp only [Option.some.injEq, Prod.mk.injEq] at hs
         obtain ⟨rfl, rfl, rfl⟩ := hs
         obtain ⟨rfl, rfl⟩ := hnil1 rfl
         have hn := hd n (Nat.le_refl _) (by omega)
         let nc := (Question.appendCap xl 0 e).cut (w.tape w.drawn (.appendCap xl 0 e))
         have hnc : xl ≤ nc := cut_cap _ _ _ _
         let cs := rs ++ Builtin.zeroCells zv.cells (nc - xl)
         have hcs : cs.size = nc * i.size := by
          simp only [cs, Array.size_append, size_zeroCells, hrl, hzs]
          rw [← Nat.add_mul]; congr 1; omega
         obtain ⟨x1, x2, x3⟩ := alloc_sim (t := e) (sz := i.size) bs hM.drew hfr hn new cs (by rw [hcs, hnl]; exact Nat.mul_le_mul_right _ hnc) (by
          intro j u hu
          have hlt := (List.getElem?_eq_some_iff.1 hu).1
          have hj : rs[j]? = some (rs[j]'(by omega)) := Array.getElem?_eq_getElem _
          exact ⟨_, by simp only [cs]; rw [Array.getElem?_append_left (by omega)]; exact hj, hrel j u _ hu hj⟩)
         refine ⟨_, .slice (some ⟨w.heap.size, 0, none⟩) xl nc, _, _, ?_, .inl rfl, ?_, x1.drewL, x2, x3.drewL⟩
         · rw [run_bltn _ ho]
           have g1 : ¬ (xl ≤ 0) := by omega
           have g2 : ¬ (9223372036854775807 < (xl : Int)) := by omega
           have g3 : ¬ (281474976710656 < Builtin.nextslicecap xl 0 * i.bytes) := by have := hgrown 0 (by omega); simp at this; omega
           simp [ha, builtin, Builtin.append_, h0, h1, hr1, hr2, run_underlying ht, run_underlying ht2, sizeOf, typeInfo, hi, Builtin.lenOf, hx0, g2, g3, Question.forced, run_firstCells_none, Builtin.firstCells, hload', zeroValue, hzi, run_newRow, cs, nc]
         · exact new_slice (w0 := w.drew) (upd_self _ _ _) hnc (by rw [hcs]; exact Nat.le_refl _)
       | some ad =>
         simp only at hs
         split at hs
         · cases hs
         rename_i hsp
         split at hs
         · cases hs
         rename_i blk hblk
         split at hs
         case isFalse => cases hs
         rename_i hc2
         obtain ⟨hbs, hown, hbsz, hend, hcl⟩ := hc2
         simp only [Option.some.injEq, Prod.mk.injEq] at hs
         obtain ⟨rfl, rfl, rfl⟩ := hs
         have hn := hd n (Nat.le_refl _) (by omega)
         have hsp' : ad.spot = none := by simpa using hsp
         obtain ⟨L, c2, hL, hrs, hcc2, hroom⟩ := r1.inv_slice hsp'
         rw [hr1] at hrs
         cases hrs
         obtain ⟨cur, tt, hcur, hroom0, hfit⟩ := hM.own _ blk L hblk hL hown
         rw [hbsz] at hroom0
         have hrm := hroom i.size cur.size hroom0
         have hlen1 : len * i.size ≤ cap * i.size := Nat.mul_le_mul_right _ hlc
         -- the elder elements, in the world
         have hcell : ∀ j u, blk.cells[j]? = some u → ∃ r, cur[L.O + j]? = some r ∧ VRel no β u r := by
          intro j u hu
          obtain ⟨r, hr, hvr⟩ := hM.cells _ blk L hblk hL j u hu
          exact ⟨r, by simpa [World.cell?, hcur] using hr, hvr⟩
         by_cases hfits : len + xl ≤ rc
         · -- there is room: it is written in its place
           have hfit2 : L.O + ad.off + len * i.size + rs.toList.length ≤ cur.size := by
            have h7 : (len + xl) * i.size ≤ rc * i.size := Nat.mul_le_mul_right _ hfits
            rw [Nat.add_mul] at h7
            simp only [Array.length_toList, hrl]
            omega
           have hst := run_storeCells_at P L.B (L.O + ad.off + len * i.size) tt rs.toList 0 cur w hcur (by omega) honer
           simp only [Nat.add_zero] at hst
           let cs : Array Value := (cur.toList.take (L.O + ad.off + len * i.size) ++ rs.toList ++ cur.toList.drop (L.O + ad.off + len * i.size + rs.toList.length)).toArray
           have hcs : cs.size = cur.size := by simp [cs]; simp at hfit2; omega
           have hget := lay_get cur.toList rs.toList (L.O + ad.off + len * i.size)
           have hx := regrow_sim hM hfr hn hblk hown hbs hL ad.off ((blk.cells.drop ad.off).take (len * i.size) ++ new) cur cs tt hcur hcs (by
            rw [hcs]
            simp only [List.length_append, List.length_take, List.length_drop, hnl]
            simp only [Array.length_toList, hrl] at hfit2
            omega) (by
            intro j u hu
            have hlt := (List.getElem?_eq_some_iff.1 hu).1
            simp only [List.length_append, List.length_take, List.length_drop, hnl] at hlt
            by_cases hj : j < len * i.size
            · rw [List.getElem?_append_left (by simp; omega), List.getElem?_take_of_lt hj, List.getElem?_drop] at hu
              obtain ⟨r, hr, hvr⟩ := hcell _ _ hu
              refine ⟨r, ?_, hvr⟩
              simp only [cs, List.getElem?_toArray]
              rw [hget _ (by simp at hfit2 ⊢; omega), if_neg (by omega)]
              rw [← Nat.add_assoc] at hr
              simpa using hr
            · rw [List.getElem?_append_right (by simp; omega)] at hu
              have e5 : j - (List.take (len * i.size) (List.drop ad.off blk.cells)).length = j - len * i.size := by simp; omega
              rw [e5] at hu
              have hj2 := (List.getElem?_eq_some_iff.1 hu).1
              have hjr : rs[j - len * i.size]? = some (rs[j - len * i.size]'(by omega)) := Array.getElem?_eq_getElem _
              refine ⟨_, ?_, hrel _ u _ hu hjr⟩
              simp only [cs, List.getElem?_toArray]
              rw [hget _ (by simp at hfit2 ⊢; omega), if_pos (by simp; omega)]
              have e6 : L.O + ad.off + j - (L.O + ad.off + len * i.size) = j - len * i.size := by omega
              rw [e6]
              simp)
           obtain ⟨x1, x2, x3⟩ := hx
           rw [hbsz] at x2
           refine ⟨_, .slice (some ⟨L.B, L.O + ad.off, none⟩) (len + xl) rc, _, _, ?_, .inl rfl, ?_, x1, x2, x3⟩
           · rw [run_bltn _ ho]
             simp [ha, builtin, Builtin.append_, h0, h1, hr1, hr2, run_underlying ht, run_underlying ht2, sizeOf, typeInfo, hi, Builtin.lenOf, hfits, Builtin.firstCells, hload, addr_add, hst, cs]
           · have := VRel.slice (no := no) (β := upd β n (some ⟨L.B, L.O + ad.off, L.room⟩)) (b := n) (o := 0) (l := len + xl) (c := len + xl) (c' := rc) (upd_self _ _ _) hfits (by
              intro k0 N0 h00
              have := hroom k0 N0 h00
              simpa using this)
             unfold slc
             simpa using this
         · -- a new row
           let nc := (Question.appendCap (len + xl) rc e).cut (w.tape w.drawn (.appendCap (len + xl) rc e))
           have hnc : len + xl ≤ nc := cut_cap _ _ _ _
           have hpo : VRel no β (.pointer (some ad)) (.pointer (some ⟨L.B, L.O + ad.off, none⟩)) := by
            have : ad = ⟨ad.block, ad.off, none⟩ := by cases ad; simp at hsp'; simp [hsp']
            rw [this]; exact .ptr hL
           have hrdo : rdn m ad (len * i.size) = some ((blk.cells.drop ad.off).take (len * i.size)) := by
            unfold rdn
            rw [if_neg (by simp [hsp']), hblk]
            simp only
            rw [if_pos (by omega)]
           obtain ⟨os, holoads, hol, hosl, horel⟩ := rdn_sim P hM.drew hpo hrdo
           let cs := os ++ rs ++ Builtin.zeroCells zv.cells (nc - (len + xl))
           have hcs : cs.size = nc * i.size := by
            simp only [cs, Array.size_append, size_zeroCells, hrl, hosl, hzs]
            rw [← Nat.add_mul, ← Nat.add_mul]; congr 1; omega
           have hMd : MRel no β (upd m ad.block none) w.drew := hM.drew.mono (by
            intro b' k' e'
            simp only [upd] at e'
            split at e'
            · cases e'
            · exact e')
           have hfr' : Fresh (upd m ad.block none) n := by
            intro b' hb'
            simp only [upd]
            split
            · rfl
            · exact hfr b' hb'
           obtain ⟨x1, x2, x3⟩ := alloc_sim (t := e) (sz := i.size) bs hMd hfr' hn ((blk.cells.drop ad.off).take (len * i.size) ++ new) cs (by
            rw [hcs]
            simp only [List.length_append, hol, hnl]
            rw [← Nat.add_mul]; exact Nat.mul_le_mul_right _ hnc) (by
            intro j u hu
            have hlt := (List.getElem?_eq_some_iff.1 hu).1
            simp only [List.length_append, hol, hnl] at hlt
            by_cases hj : j < len * i.size
            · rw [List.getElem?_append_left (by omega)] at hu
              have hjr : os[j]? = some (os[j]'(by omega)) := Array.getElem?_eq_getElem _
              refine ⟨_, ?_, horel j u _ hu hjr⟩
              simp only [cs]
              rw [Array.getElem?_append_left (by simp; omega), Array.getElem?_append_left (by omega)]
              exact hjr
            · rw [List.getElem?_append_right (by omega), hol] at hu
              have hjr : rs[j - len * i.size]? = some (rs[j - len * i.size]'(by omega)) := Array.getElem?_eq_getElem _
              refine ⟨_, ?_, hrel _ u _ hu hjr⟩
              simp only [cs]
              rw [Array.getElem?_append_left (by simp; omega), Array.getElem?_append_right (by omega), hosl]
              exact hjr)
           refine ⟨_, .slice (some ⟨w.heap.size, 0, none⟩) (len + xl) nc, _, _, ?_, .inl rfl, ?_, x1.drewL.less own_upd, x2, x3.drewL.less own_upd⟩
           · rw [run_bltn _ ho]
             have g2 : ¬ (9223372036854775807 < (len : Int) + (xl : Int)) := by omega
             have g3 : ¬ (281474976710656 < Builtin.nextslicecap (len + xl) rc * i.bytes) := by have := hgrown rc (by omega); omega
             simp [ha, builtin, Builtin.append_, h0, h1, hr1, hr2, run_underlying ht, run_underlying ht2, sizeOf, typeInfo, hi, Builtin.lenOf, hfits, g2, g3, Question.forced, Builtin.firstCells, hload', holoads, zeroValue, hzi, run_newRow, cs, nc]
           · exact new_slice (w0 := w.drew) (upd_self _ _ _) hnc (by rw [hcs]; exact Nat.le_refl _)
end
end Go.Proofs.YtoppcdecolponaaDoor.AL
