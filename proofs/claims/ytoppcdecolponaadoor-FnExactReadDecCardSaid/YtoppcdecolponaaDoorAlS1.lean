/- How a memory of the small language lies in the model's world. -/
import Derived.Test.YtoppcdecolponaaDoorAlC
import Derived.Orders
import Derived.Tactics
import Derived.Below
import Derived.Laws.Entries
import Derived.Laws.Cells
import Derived.Laws.IdiomCopy
namespace Go.Proofs.YtoppcdecolponaaDoor.AL
open Go
set_option linter.unusedVariables false
structure No where
 f : Nat → Option Nat
 S : Nat
 W : World
instance : CoeFun No (fun _ => Nat → Option Nat) := ⟨No.f⟩
instance : Coe No (Nat → Option Nat) := ⟨No.f⟩
structure Loc where
 B : Nat
 O : Nat
 room : Option (Nat × Nat)
abbrev Inj := Nat → Option Loc
inductive VRel (no : No) (β : Inj) : Value → Value → Prop
 | junk {r} : VRel no β .nilIface r
 | bool (b) : VRel no β (.bool b) (.bool b)
 | int (k n) : VRel no β (.int k n) (.int k n)
 | string (s) : VRel no β (.string s) (.string s)
 | pnil : VRel no β (.pointer none) (.pointer none)
 | ptr {b o L} : β b = some L → VRel no β (.pointer (some ⟨b, o, none⟩)) (.pointer (some ⟨L.B, L.O + o, none⟩))
 | snil (l c) : VRel no β (.slice none l c) (.slice none l c)
 | slice {b o L l c c'} : β b = some L → c ≤ c' → (∀ k N, L.room = some (k, N) → L.O + o + c' * k ≤ N) →
    VRel no β (.slice (some ⟨b, o, none⟩) l c) (.slice (some ⟨L.B, L.O + o, none⟩) l c')
 | empty {r c'} : VRel no β (.slice (some ⟨0, 0, some 0⟩) 0 0) (.slice (some r) 0 c')
 | nilFunc : VRel no β .nilFunc .nilFunc
 | func {g f} {xs ys : Array Value} : no f = some g → xs.size = ys.size → (∀ (i : Nat) x y, xs[i]? = some x → ys[i]? = some y → VRel no β x y) →
    VRel no β (.func (.func g) #[] xs) (.func (.func f) #[] ys)
 | agg {xs ys : Array Value} : xs.size = ys.size → (∀ (i : Nat) x y, xs[i]? = some x → ys[i]? = some y → VRel no β x y) → VRel no β (.agg xs) (.agg ys)
 | tuple {xs ys : Array Value} : xs.size = ys.size → (∀ (i : Nat) x y, xs[i]? = some x → ys[i]? = some y → VRel no β x y) → VRel no β (.tuple xs) (.tuple ys)
def Ext0 (β β1 : Inj) : Prop := ∀ b L, β b = some L → β1 b = some L
variable {no : No}
theorem VRel.inv_int {β : Inj} {k : IntKind} {i : Int} {r : Value} (h : VRel no β (.int k i) r) : r = .int k i := by cases h; rfl
theorem VRel.mono {β β1 : Inj} (h : Ext0 β β1) {v r : Value} (hv : VRel no β v r) : VRel no β1 v r := by
 induction hv with
 | ptr e => exact .ptr (h _ _ e)
 | slice e a b => exact .slice (h _ _ e) a b
 | func a b _ ih => exact .func a b ih
 | agg b _ ih => exact .agg b ih
 | tuple b _ ih => exact .tuple b ih
 | junk => exact .junk
 | bool b => exact .bool b
 | int k n => exact .int k n
 | string s => exact .string s
 | pnil => exact .pnil
 | snil l c => exact .snil l c
 | empty => exact .empty
 | nilFunc => exact .nilFunc
theorem VRel.back {β β1 : Inj} (h : Ext0 β β1) {v r0 : Value} (hv : VRel no β v r0) : ∀ {r : Value}, VRel no β1 v r → VRel no β v r := by
 induction hv with
 | junk => intro r hr; exact .junk
 | ptr e => intro r hr; cases hr with | ptr e1 => rw [h _ _ e] at e1; cases e1; exact .ptr e
 | slice e a b => intro r hr; cases hr with | slice e1 a1 b1 => rw [h _ _ e] at e1; cases e1; exact .slice e a1 b1
 | @func g f xs ys a b _ ih =>
   intro r hr
   cases hr with
   | func a1 b1 c1 =>
     refine .func a1 b1 fun i x y hx hy => ?_
     obtain ⟨y0, hy0⟩ : ∃ y0, ys[i]? = some y0 := ⟨_, Array.getElem?_eq_getElem (by have := (Array.getElem?_eq_some_iff.1 hx).1; omega)⟩
     exact ih i x y0 hx hy0 (c1 i x y hx hy)
 | @agg xs ys b _ ih =>
   intro r hr
   cases hr with
   | agg b1 c1 =>
     refine .agg b1 fun i x y hx hy => ?_
     obtain ⟨y0, hy0⟩ : ∃ y0, ys[i]? = some y0 := ⟨_, Array.getElem?_eq_getElem (by have := (Array.getElem?_eq_some_iff.1 hx).1; omega)⟩
     exact ih i x y0 hx hy0 (c1 i x y hx hy)
 | @tuple xs ys b _ ih =>
   intro r hr
   cases hr with
   | tuple b1 c1 =>
     refine .tuple b1 fun i x y hx hy => ?_
     obtain ⟨y0, hy0⟩ : ∃ y0, ys[i]? = some y0 := ⟨_, Array.getElem?_eq_getElem (by have := (Array.getElem?_eq_some_iff.1 hx).1; omega)⟩
     exact ih i x y0 hx hy0 (c1 i x y hx hy)
 | bool b => intro r hr; cases hr; exact .bool b
 | int k n => intro r hr; cases hr; exact .int k n
 | string s => intro r hr; cases hr; exact .string s
 | pnil => intro r hr; cases hr; exact .pnil
 | snil l c => intro r hr; cases hr; exact .snil l c
 | empty => intro r hr; cases hr with | empty => exact .empty
 | nilFunc => intro r hr; cases hr; exact .nilFunc
theorem VRel.ofFlatW {β β1 : Inj} {v r : Value} (hf : flatW v = true) (hv : VRel no β1 v r) : VRel no β v r := by
 cases hv with
 | bool b => exact .bool b
 | int k n => exact .int k n
 | string s => exact .string s
 | pnil => exact .pnil
 | snil l c => exact .snil l c
 | _ => cases hf
theorem VRel.ofFlatA {β β1 : Inj} {v r : Value} (hf : flatA v = true) (hv : VRel no β1 v r) : VRel no β v r := by
 cases hv with
 | @agg xs ys hs h =>
   refine .agg hs fun i x y hx hy => ?_
   have hm : x ∈ xs.toList := Array.mem_toList_iff.2 (Array.mem_of_getElem? hx)
   exact (h i x y hx hy).ofFlatW (List.all_eq_true.1 hf x hm)
 | bool b => exact .bool b
 | int k n => exact .int k n
 | string s => exact .string s
 | pnil => exact .pnil
 | snil l c => exact .snil l c
 | _ => cases hf
theorem VRel.ofFlat {β β1 : Inj} {v r : Value} (hf : flat v = true) (hv : VRel no β1 v r) : VRel no β v r := by
 cases hv with
 | nilFunc => exact .nilFunc
 | @func g f xs ys a b c =>
   have hz : xs.size = 0 := by
    simp only [AL.flat, Bool.and_eq_true, beq_iff_eq] at hf
    exact hf.2
   exact .func a b fun i x y hx hy => by
    have := (Array.getElem?_eq_some_iff.1 hx).1
    omega
 | @tuple xs ys b c =>
   refine .tuple b fun i x y hx hy => ?_
   have hm : x ∈ xs.toList := Array.mem_toList_iff.2 (Array.mem_of_getElem? hx)
   exact (c i x y hx hy).ofFlatA (List.all_eq_true.1 hf x hm)
 | agg b c => exact VRel.ofFlatA hf (.agg b c)
 | bool b => exact .bool b
 | int k n => exact .int k n
 | string s => exact .string s
 | pnil => exact .pnil
 | snil l c => exact .snil l c
 | _ => cases hf
theorem VRel.constW {β : Inj} {v : Value} (hf : flatW v = true) : VRel no β v v := by
 cases v with
 | bool b => exact .bool b
 | int k n => exact .int k n
 | string s => exact .string s
 | pointer a => cases a; exact .pnil; cases hf
 | slice a l c => cases a; exact .snil l c; cases hf
 | _ => cases hf
theorem VRel.constA {β : Inj} {v : Value} (hf : flatA v = true) : VRel no β v v := by
 cases v with
 | agg xs =>
   refine .agg rfl fun i x y hx hy => ?_
   rw [hx] at hy; cases hy
   exact .constW (List.all_eq_true.1 hf x (Array.mem_toList_iff.2 (Array.mem_of_getElem? hx)))
 | bool b => exact .bool b
 | int k n => exact .int k n
 | string s => exact .string s
 | pointer a => cases a; exact .pnil; cases hf
 | slice a l c => cases a; exact .snil l c; cases hf
 | _ => cases hf
theorem VRel.const {β : Inj} {v : Value} (hf : flat v = true) (hn : ∀ f a b, v ≠ .func f a b) : VRel no β v v := by
 cases v with
 | nilFunc => exact .nilFunc
 | func f a b => exact absurd rfl (hn f a b)
 | tuple xs =>
   refine .tuple rfl fun i x y hx hy => ?_
   rw [hx] at hy; cases hy
   exact .constA (List.all_eq_true.1 hf x (Array.mem_toList_iff.2 (Array.mem_of_getElem? hx)))
 | agg xs => exact .constA hf
 | bool b => exact .bool b
 | int k n => exact .int k n
 | string s => exact .string s
 | pointer a => cases a; exact .pnil; cases hf
 | slice a l c => cases a; exact .snil l c; cases hf
 | _ => cases hf
structure MRel (no : No) (β : Inj) (m : Mem) (w : World) : Prop where
 bound : ∀ b L, β b = some L → L.B < w.heap.size
 cells : ∀ b blk L, m b = some blk → β b = some L → ∀ (i : Nat) v, blk.cells[i]? = some v → ∃ r, w.cell? ⟨L.B, L.O + i, none⟩ = some r ∧ VRel no β v r
 own : ∀ b blk L, m b = some blk → β b = some L → blk.own = true → ∃ cs t, w.heap[L.B]? = some (.cells cs t (0, 0)) ∧ L.room = some (blk.sz, cs.size) ∧ L.O + blk.cells.length ≤ cs.size
 ro : ∀ b blk L, m b = some blk → β b = some L → blk.own = false → L.room = none
 apart : ∀ b b' blk blk' L L', m b = some blk → blk.own = true → β b = some L → m b' = some blk' → β b' = some L' → b ≠ b' → L.B ≠ L'.B
 kept : no.S ≤ w.heap.size ∧ ∀ B, B < no.S → w.heap[B]? = no.W.heap[B]?
 ownS : ∀ b blk L, m b = some blk → β b = some L → blk.own = true → no.S ≤ L.B
theorem MRel.mono {β : Inj} {m m1 : Mem} {w : World} (h : MRel no β m w) (hs : sub m1 m) : MRel no β m1 w :=
 ⟨h.bound, fun b blk L hb => h.cells b blk L (hs _ _ hb), fun b blk L hb => h.own b blk L (hs _ _ hb), fun b blk L hb => h.ro b blk L (hs _ _ hb),
   fun b b' blk blk' L L' hb ho hL hb' => h.apart b b' blk blk' L L' (hs _ _ hb) ho hL (hs _ _ hb'), h.kept, fun b blk L hb => h.ownS b blk L (hs _ _ hb)⟩
structure Frm (β : Inj) (m : Mem) (bs n : Nat) (w w' : World) : Prop where
 os : w'.os = w.os
 tape : w'.tape = w.tape
 output : w'.output = w.output
 size : w.heap.size ≤ w'.heap.size
 block : ∀ B, B < w.heap.size → (∀ b L, β b = some L → Own m b → bs ≤ b → b < n → L.B ≠ B) → w'.heap[B]? = w.heap[B]?
theorem Frm.refl (β : Inj) (m : Mem) (bs n : Nat) (w : World) : Frm β m bs n w w := ⟨rfl, rfl, rfl, Nat.le_refl _, fun _ _ _ => rfl⟩
theorem Frm.less {β : Inj} {m m1 : Mem} {bs n : Nat} {w w' : World} (h : Frm β m1 bs n w w') (hs : ∀ b, Own m1 b → Own m b) : Frm β m bs n w w' :=
 ⟨h.os, h.tape, h.output, h.size, fun B hB hne => h.block B hB fun b L e hm => hne b L e (hs b hm)⟩
structure Ext (β β1 : Inj) (m : Mem) (bs n n1 : Nat) (w : World) : Prop where
 old : Ext0 β β1
 only : ∀ b, β1 b ≠ β b → n ≤ b ∧ b < n1
 fresh : ∀ b L, β1 b = some L → β b = none → w.heap.size ≤ L.B ∨ ∃ b0 L0, β b0 = some L0 ∧ Own m b0 ∧ bs ≤ b0 ∧ b0 < n ∧ L0.B = L.B
theorem Ext.refl (β : Inj) (m : Mem) (bs n n1 : Nat) (w : World) : Ext β β m bs n n1 w :=
 ⟨fun _ _ h => h, fun _ h => absurd rfl h, fun _ _ h h' => by rw [h'] at h; cases h⟩
theorem Ext.less {β β1 : Inj} {m m1 : Mem} {bs n n1 : Nat} {w : World} (h : Ext β β1 m1 bs n n1 w) (hs : ∀ b, Own m1 b → Own m b) : Ext β β1 m bs n n1 w :=
 ⟨h.old, h.only, fun b L e e0 => by
   rcases h.fresh b L e e0 with h1 | ⟨b0, L0, h2, h3, h4⟩
   · exact .inl h1
   · exact .inr ⟨b0, L0, h2, hs b0 h3, h4⟩⟩
theorem Ext.trans {β β1 β2 : Inj} {m m1 : Mem} {bs n n1 n2 : Nat} {w w1 : World} (h : Ext β β1 m bs n n1 w) (k : Ext β1 β2 m1 bs n1 n2 w1) (hdm : ∀ b, b < n → Own m1 b → Own m b) (hn : n ≤ n1) (hn2 : n1 ≤ n2) (hs : w.heap.size ≤ w1.heap.size)
 (hd : ∀ b, n ≤ b → b < n2 → β b = none) : Ext β β2 m bs n n2 w := by
 refine ⟨fun b L e => k.old _ _ (h.old _ _ e), fun b e => ?_, fun b L e e0 => ?_⟩
 · by_cases e1 : β1 b = β b
   · have := k.only b (by rw [e1]; exact e); omega
   · have := h.only b e1; omega
 · cases e1 : β1 b with
   | some L1 =>
     have := k.old _ _ e1
     rw [e] at this; cases this
     exact h.fresh b L e1 e0
   | none =>
     rcases k.fresh b L e e1 with h1 | ⟨b0, L0, hb0, hm1, hbs, hlt, hB⟩
     · exact .inl (by omega)
     · cases e2 : β b0 with
       | some L2 =>
         have := h.old _ _ e2
         rw [hb0] at this; cases this
         have h3 : b0 < n := by
          rcases Nat.lt_or_ge b0 n with h3 | h3
          · exact h3
          · rw [hd b0 h3 (by omega)] at e2; cases e2
         exact .inr ⟨b0, L0, e2, hdm b0 h3 hm1, hbs, h3, hB⟩
       | none =>
         rcases h.fresh b0 L0 hb0 e2 with h3 | ⟨b1, L1, hb1, hm2, h4, h5, h6⟩
         · exact .inl (by omega)
         · exact .inr ⟨b1, L1, hb1, hm2, h4, h5, by rw [h6, hB]⟩
theorem Frm.trans {β β1 : Inj} {m m1 : Mem} {bs n n1 : Nat} {w w1 w2 : World} (h : Frm β m bs n w w1) (he : Ext β β1 m bs n n1 w) (k : Frm β1 m1 bs n1 w1 w2) (hdm : ∀ b, b < n → Own m1 b → Own m b)
 (hd : ∀ b, n ≤ b → b < n1 → β b = none) : Frm β m bs n w w2 := by
 refine ⟨k.os.trans h.os, k.tape.trans h.tape, k.output.trans h.output, Nat.le_trans h.size k.size, fun B hB hne => ?_⟩
 rw [k.block B (Nat.lt_of_lt_of_le hB h.size) ?_, h.block B hB hne]
 intro b L e hm1 hbs hlt heq
 cases e0 : β b with
 | some L0 =>
   have := he.old _ _ e0
   rw [e] at this; cases this
   by_cases e1 : b < n
   · exact hne b L e0 (hdm b e1 hm1) hbs e1 heq
   · rw [hd b (by omega) hlt] at e0; cases e0
 | none =>
   rcases he.fresh b L e e0 with h1 | ⟨b0, L0, hb0, hm2, h2, h3, h4⟩
   · omega
   · exact hne b0 L0 hb0 hm2 h2 h3 (by rw [h4]; exact heq)
end Go.Proofs.YtoppcdecolponaaDoor.AL
