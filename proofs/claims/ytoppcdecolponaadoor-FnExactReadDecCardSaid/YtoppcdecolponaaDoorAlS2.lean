/- Memory: new rows, stores, reads, in the small language and in the model's world. -/
import Derived.Test.YtoppcdecolponaaDoorAlS1
import Derived.Laws.CopyRow
namespace Go.Proofs.YtoppcdecolponaaDoor.AL
open Go
set_option linter.unusedVariables false
variable {no : No}
theorem alloc_sim {β : Inj} {m : Mem} {w : World} {n : Nat} (bs : Nat) (hM : MRel no β m w) (hfr : Fresh m n) (hβ : β n = none) (cells : List Value) (cs : Array Value) (t : TypeId) (sz : Nat)
 (hlen : cells.length ≤ cs.size) (hrel : ∀ (i : Nat) v, cells[i]? = some v → ∃ r, cs[i]? = some r ∧ VRel no β v r) :
 let β1 := upd β n (some ⟨w.heap.size, 0, some (sz, cs.size)⟩)
 let w1 := w.alloc (.cells cs t)
 Ext β β1 m bs n (n + 1) w ∧ MRel no β1 (upd m n (some ⟨cells, true, sz⟩)) w1 ∧ Frm β m bs n w w1 := by
 intro β1 w1
 have hold : Ext0 β β1 := by
  intro b L e
  simp only [β1, upd]
  split
  · rename_i h; rw [h, hβ] at e; cases e
  · exact e
 have hheap : ∀ B, B < w.heap.size → w1.heap[B]? = w.heap[B]? := by
  intro B hB
  show (w.heap.push _)[B]? = _
  rw [Array.getElem?_push, if_neg (by omega)]
 have hnew : w1.heap[w.heap.size]? = some (.cells cs t (0, 0)) := by
  show (w.heap.push _)[_]? = _
  rw [Array.getElem?_push, if_pos rfl]
 have hβ1 : ∀ b L, β1 b = some L → (b = n ∧ L = ⟨w.heap.size, 0, some (sz, cs.size)⟩) ∨ (b ≠ n ∧ β b = some L) := by
  intro b L e
  simp only [β1, upd] at e
  split at e
  · rename_i h; cases e; exact .inl ⟨h, rfl⟩
  · rename_i h; exact .inr ⟨h, e⟩
 refine ⟨⟨hold, ?_, ?_⟩, ⟨?_, ?_, ?_, ?_, ?_, ?_, ?_⟩, ⟨rfl, rfl, rfl, by show _ ≤ (w.heap.push _).size; simp, fun B hB _ => hheap B hB⟩⟩
 · intro b e
   by_cases h : b = n
   · omega
   · exact absurd (by simp [β1, upd, h]) e
 · intro b L e e0
   rcases hβ1 b L e with ⟨h, rfl⟩ | ⟨h, h1⟩
   · exact .inl (Nat.le_refl _)
   · rw [e0] at h1; cases h1
 · intro b L e
   show L.B < (w.heap.push _).size
   rcases hβ1 b L e with ⟨h, rfl⟩ | ⟨h, h1⟩
   · simp
   · have := hM.bound b L h1; simp; omega
 · intro b blk L hb e i v hv
   rcases hβ1 b L e with ⟨rfl, rfl⟩ | ⟨h, h1⟩
   · simp [upd] at hb
     subst hb
     obtain ⟨r, hr, hvr⟩ := hrel i v hv
     exact ⟨r, by simp [World.cell?, hnew, hr], hvr.mono hold⟩
   · simp only [upd, if_neg h] at hb
     obtain ⟨r, hr, hvr⟩ := hM.cells b blk L hb h1 i v hv
     exact ⟨r, by rw [World.cell?_of_block (w := w) (hheap _ (hM.bound b L h1))]; exact hr, hvr.mono hold⟩
 · intro b blk L hb e ho
   rcases hβ1 b L e with ⟨rfl, rfl⟩ | ⟨h, h1⟩
   · simp [upd] at hb
     subst hb
     exact ⟨cs, t, hnew, rfl, by simpa using hlen⟩
   · simp only [upd, if_neg h] at hb
     rw [hheap _ (hM.bound b L h1)]
     exact hM.own b blk L hb h1 ho
 · intro b blk L hb e ho
   rcases hβ1 b L e with ⟨rfl, rfl⟩ | ⟨h, h1⟩
   · simp [upd] at hb
     subst hb
     cases ho
   · simp only [upd, if_neg h] at hb
     exact hM.ro b blk L hb h1 ho
 · intro b b' blk blk' L L' hb ho e hb' e' hne
   rcases hβ1 b L e with ⟨rfl, rfl⟩ | ⟨h, h1⟩ <;> rcases hβ1 b' L' e' with ⟨rfl, rfl⟩ | ⟨h', h1'⟩
   · exact absurd rfl hne
   · have := hM.bound b' L' h1'; simp; omega
   · have := hM.bound b L h1; simp; omega
   · simp only [upd, if_neg h] at hb
     simp only [upd, if_neg h'] at hb'
     exact hM.apart b b' blk blk' L L' hb ho h1 hb' h1' hne
 · exact ⟨by have := hM.kept.1; show _ ≤ (w.heap.push _).size; simp; omega, fun B hB => by rw [hheap B (Nat.lt_of_lt_of_le hB hM.kept.1)]; exact hM.kept.2 B hB⟩
 · intro b blk L hb e ho
   rcases hβ1 b L e with ⟨rfl, rfl⟩ | ⟨h, h1⟩
   · exact hM.kept.1
   · simp only [upd, if_neg h] at hb; exact hM.ownS b blk L hb h1 ho
theorem write_sim {β : Inj} {m : Mem} {w w1 : World} {bs n b : Nat} {blk : Blk} {L : Loc} (hM : MRel no β m w) (hfr : Fresh m n) (hb : m b = some blk) (ho : blk.own = true) (hbs : bs ≤ b)
 (hL : β b = some L) (cells : List Value) (hlen : cells.length = blk.cells.length) (cs0 cs : Array Value) (t : TypeId) (hw0 : w.heap[L.B]? = some (.cells cs0 t (0, 0)))
 (hw : w1 = w.setRow L.B cs) (hsz : cs.size = cs0.size) (hrel : ∀ (i : Nat) v, cells[i]? = some v → ∃ r, cs[L.O + i]? = some r ∧ VRel no β v r) :
 MRel no β (upd m b (some ⟨cells, true, blk.sz⟩)) w1 ∧ Frm β m bs n w w1 := by
 subst hw
 have hheap : ∀ B, B ≠ L.B → (w.setRow L.B cs).heap[B]? = w.heap[B]? := fun B hB => setRow_other w L.B B cs hB
 have hnew := setRow_heap w L.B cs0 cs t (0, 0) hw0
 have hlt : b < n := by
  rcases Nat.lt_or_ge b n with h | h
  · exact h
  · rw [hfr b h] at hb; cases hb
 obtain ⟨cs1, t1, hw1, hroom, hle⟩ := hM.own b blk L hb hL ho
 rw [hw0] at hw1; cases hw1
 refine ⟨⟨?_, ?_, ?_, ?_, ?_, ?_, ?_⟩, ⟨rfl, rfl, rfl, by simp, fun B hB hne => hheap B (Ne.symm (hne b L hL ⟨_, hb, ho⟩ hbs hlt))⟩⟩
 · intro b' L' e; simpa using hM.bound b' L' e
 · intro b' blk' L' hb' e i v hv
   by_cases h : b' = b
   · subst h
     simp [upd] at hb'
     subst hb'
     rw [hL] at e; cases e
     obtain ⟨r, hr, hvr⟩ := hrel i v hv
     exact ⟨r, by simp [World.cell?, hnew, hr], hvr⟩
   · simp only [upd, if_neg h] at hb'
     obtain ⟨r, hr, hvr⟩ := hM.cells b' blk' L' hb' e i v hv
     have hne := hM.apart b b' blk blk' L L' hb ho hL hb' e (Ne.symm h)
     exact ⟨r, by rw [World.cell?_of_block (w := w) (hheap _ (Ne.symm hne))]; exact hr, hvr⟩
 · intro b' blk' L' hb' e ho'
   by_cases h : b' = b
   · subst h
     simp [upd] at hb'
     subst hb'
     rw [hL] at e; cases e
     exact ⟨cs, t, hnew, by rw [hsz]; exact hroom, by rw [hsz]; simp only [hlen]; exact hle⟩
   · simp only [upd, if_neg h] at hb'
     have hne := hM.apart b b' blk blk' L L' hb ho hL hb' e (Ne.symm h)
     rw [hheap _ (Ne.symm hne)]
     exact hM.own b' blk' L' hb' e ho'
 · intro b' blk' L' hb' e ho'
   by_cases h : b' = b
   · subst h
     simp [upd] at hb'
     subst hb'
     cases ho'
   · simp only [upd, if_neg h] at hb'
     exact hM.ro b' blk' L' hb' e ho'
 · intro b1 b2 k1 k2 L1 L2 h1 ho1 e1 h2 e2 hne
   have old : ∀ b' k', upd m b (some (⟨cells, true, blk.sz⟩ : Blk)) b' = some k' → ∃ k, m b' = some k ∧ k.own = k'.own := by
    intro b' k' h
    by_cases e : b' = b
    · subst e; simp [upd] at h; subst h; exact ⟨blk, hb, ho⟩
    · simp only [upd, if_neg e] at h; exact ⟨k', h, rfl⟩
   obtain ⟨k1', h1', ho1'⟩ := old b1 k1 h1
   obtain ⟨k2', h2', _⟩ := old b2 k2 h2
   exact hM.apart b1 b2 k1' k2' L1 L2 h1' (by rw [ho1']; exact ho1) e1 h2' e2 hne
 · exact ⟨by simpa using hM.kept.1, fun B hB => by rw [hheap B (fun e => by have := hM.ownS b blk L hb hL ho; omega)]; exact hM.kept.2 B hB⟩
 · intro b' blk' L' hb' e ho'
   by_cases h : b' = b
   · subst h
     rw [hL] at e; cases e
     exact hM.ownS _ blk _ hb hL ho
   · simp only [upd, if_neg h] at hb'; exact hM.ownS b' blk' L' hb' e ho'
theorem oneCell_of {β : Inj} {v r : Value} (h : wideV v = false) (hv : VRel no β v r) : r.oneCell' = true ∧ r.cells = #[r] := by
 cases hv <;> first | exact ⟨rfl, rfl⟩ | cases h
theorem addr_add (b o i : Nat) : (⟨b, o, none⟩ : Addr).add i = ⟨b, o + i, none⟩ := by
 unfold Addr.add; split <;> simp_all
theorem wrn_sim (P : Program) {β : Inj} {m m1 : Mem} {w : World} {bs n : Nat} {a : Addr} {vs : List Value} {rs : List Value} {ra : Addr} (hM : MRel no β m w) (hfr : Fresh m n)
 (ha : VRel no β (.pointer (some a)) (.pointer (some ra))) (hw : wrn bs m a vs = some m1) (hone : ∀ v ∈ vs, wideV v = false) (hl : rs.length = vs.length)
 (hrel : ∀ (i : Nat) v r, vs[i]? = some v → rs[i]? = some r → VRel no β v r) :
 ∃ w1, (storeCells ra rs).run P w = .ok () w1 ∧ MRel no β m1 w1 ∧ Frm β m bs n w w1 := by
 cases ha with
 | @ptr b o L hL =>
   unfold wrn at hw
   simp only [Option.isSome_none, Bool.false_eq_true, if_false] at hw
   split at hw
   · rename_i blk hb
     split at hw
     · rename_i hc
       obtain ⟨hbs, ho, hle⟩ := hc
       cases hw
       obtain ⟨cs, t, hw0, hroom, hsz⟩ := hM.own b blk L hb hL ho
       have hr1 : ∀ r ∈ rs, r.oneCell' = true := by
        intro r hr
        obtain ⟨i, hi⟩ := List.getElem?_of_mem hr
        have hlt := (List.getElem?_eq_some_iff.1 hi).1
        have hv : vs[i]? = some vs[i] := List.getElem?_eq_getElem (by omega)
        exact (oneCell_of (hone _ (List.getElem_mem _)) (hrel i _ _ hv hi)).1
       have hrun := run_storeCells_at (P := P) L.B (L.O + o) t rs 0 cs w hw0 (by omega) hr1
       refine ⟨_, hrun, ?_⟩
       simp only [Nat.add_zero] at *
       have hnl : (blk.cells.take o ++ vs ++ blk.cells.drop (o + vs.length)).length = blk.cells.length := by simp; omega
       refine write_sim hM hfr hb ho hbs hL _ hnl cs _ t hw0 rfl (by simp; omega) ?_
       intro i v hv
       have hcell : ∀ j u, blk.cells[j]? = some u → ∃ r, cs[L.O + j]? = some r ∧ VRel no β u r := by
        intro j u hu
        obtain ⟨r, hr, hvr⟩ := hM.cells b blk L hb hL j u hu
        refine ⟨r, ?_, hvr⟩
        simpa [World.cell?, hw0] using hr
       have hi : i < blk.cells.length := by rw [← hnl]; exact (List.getElem?_eq_some_iff.1 hv).1
       simp only [List.getElem?_toArray]
       by_cases h1 : i < o
       · have e : (blk.cells.take o ++ vs ++ blk.cells.drop (o + vs.length))[i]? = blk.cells[i]? := by
          rw [List.append_assoc, List.getElem?_append_left (by simp; omega), List.getElem?_take_of_lt h1]
         rw [e] at hv
         obtain ⟨r, hr, hvr⟩ := hcell i v hv
         refine ⟨r, ?_, hvr⟩
         rw [List.append_assoc, List.getElem?_append_left (by simp; omega), List.getElem?_take_of_lt (by omega)]
         simpa using hr
       · by_cases h2 : i < o + vs.length
         · have e : (blk.cells.take o ++ vs ++ blk.cells.drop (o + vs.length))[i]? = vs[i - o]? := by
            rw [List.getElem?_append_left (by simp; omega), List.getElem?_append_right (by simp; omega)]
            congr 1; simp; omega
           rw [e] at hv
           have hr : rs[i - o]? = some (rs[i - o]'(by omega)) := List.getElem?_eq_getElem _
           refine ⟨_, ?_, hrel _ _ _ hv hr⟩
           rw [List.getElem?_append_left (by simp; omega), List.getElem?_append_right (by simp; omega), ← hr]
           congr 1; simp; omega
         · have e : (blk.cells.take o ++ vs ++ blk.cells.drop (o + vs.length))[i]? = blk.cells[i]? := by
            rw [List.getElem?_append_right (by simp; omega), List.getElem?_drop]
            congr 1; simp; omega
           rw [e] at hv
           obtain ⟨r, hr, hvr⟩ := hcell i v hv
           refine ⟨r, ?_, hvr⟩
           rw [List.getElem?_append_right (by simp; omega), List.getElem?_drop]
           have : L.O + o + rs.length + (L.O + i - (cs.toList.take (L.O + o) ++ rs).length) = L.O + i := by simp; omega
           rw [this]
           simpa using hr
     · cases hw
   · cases hw
theorem wr_eq_wrn {bs : Nat} {m : Mem} {a : Addr} {v : Value} {m1 : Mem} (h : wr bs m a v = some m1) : wrn bs m a [v] = some m1 := by
 unfold wr at h
 unfold wrn
 split at h
 · cases h
 · rename_i hs
   rw [if_neg hs]
   split at h
   · rename_i b hb
     split at h
     · rename_i hc
       rw [if_pos ⟨hc.1, hc.2.1, by simp; omega⟩]
       cases h
       congr 4
       rw [List.set_eq_take_append_cons_drop, if_pos hc.2.2]
       simp
     · cases h
   · cases h
theorem rdn_sim (P : Program) {β : Inj} {m : Mem} {w : World} {a : Addr} {vs : List Value} {ra : Addr} {k : Nat} (hM : MRel no β m w)
 (ha : VRel no β (.pointer (some a)) (.pointer (some ra))) (h : rdn m a k = some vs) :
 ∃ rs : Array Value, (loadCells ra k).run P w = .ok rs w ∧ vs.length = k ∧ rs.size = k ∧ ∀ (i : Nat) v r, vs[i]? = some v → rs[i]? = some r → VRel no β v r := by
 cases ha with
 | @ptr b o L hL =>
   unfold rdn at h
   simp only [Option.isSome_none, Bool.false_eq_true, if_false] at h
   split at h
   · rename_i blk hb
     split at h
     · rename_i hle
       cases h
       have hc : ∀ j, j < k → ∃ r, w.cell? ⟨L.B, L.O + (o + j), none⟩ = some r ∧ ∀ v, blk.cells[o + j]? = some v → VRel no β v r := by
        intro j hj
        have hv : blk.cells[o + j]? = some (blk.cells[o + j]'(by omega)) := List.getElem?_eq_getElem _
        obtain ⟨r, hr, hvr⟩ := hM.cells b blk L hb hL _ _ hv
        exact ⟨r, hr, fun v h => by rw [hv] at h; cases h; exact hvr⟩
       let f : Nat → Value := fun j => if h : j < k then (hc j h).choose else undef
       have hf : ∀ j, j < k → w.cell? ((⟨L.B, L.O + o, none⟩ : Addr).add j) = some (f j) := by
        intro j hj
        rw [addr_add, Nat.add_assoc]
        simp only [f, dif_pos hj]
        exact (hc j hj).choose_spec.1
       refine ⟨_, run_loadCells w _ k f hf, by simp; omega, by simp, fun i v r hv hr => ?_⟩
       have hi : i < k := by
        have := (List.getElem?_eq_some_iff.1 hv).1
        simp at this; omega
       simp [hi] at hr
       subst hr
       simp only [f, dif_pos hi]
       refine (hc i hi).choose_spec.2 v ?_
       rw [← hv, List.getElem?_take_of_lt hi, List.getElem?_drop]
     · cases h
   · cases h
theorem rd_sim {β : Inj} {m : Mem} {w : World} {a : Addr} {v : Value} {ra : Addr} (hM : MRel no β m w)
 (ha : VRel no β (.pointer (some a)) (.pointer (some ra))) (h : rd m a = some v) : ∃ r, w.cell? ra = some r ∧ VRel no β v r := by
 cases ha with
 | @ptr b o L hL =>
   unfold rd at h
   simp only [Option.isSome_none, Bool.false_eq_true, if_false] at h
   split at h
   · rename_i blk hb
     exact hM.cells b blk L hb hL o v h
   · cases h
end Go.Proofs.YtoppcdecolponaaDoor.AL
