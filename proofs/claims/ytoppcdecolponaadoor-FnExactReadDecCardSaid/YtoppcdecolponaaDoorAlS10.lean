/- A list of steps, in whatever order the model draws. -/
import Derived.Test.YtoppcdecolponaaDoorAlS9
namespace Go.Proofs.YtoppcdecolponaaDoor.AL
open Go
set_option linter.unusedVariables false
set_option linter.unusedSimpArgs false
variable {no : No} {P : Program}
def cut (β : Inj) (n : Nat) : Inj := fun b => if b < n then β b else none
theorem VRel.cut {β : Inj} {n : Nat} {v r : Value} (h : VRel no β v r) : VLt n v → VRel no (cut β n) v r := by
 induction h with
 | junk => intro _; exact .junk
 | bool b => intro _; exact .bool b
 | int k n => intro _; exact .int k n
 | string s => intro _; exact .string s
 | pnil => intro _; exact .pnil
 | snil l c => intro _; exact .snil l c
 | empty => intro _; exact .empty
 | nilFunc => intro _; exact .nilFunc
 | @ptr b o L e =>
   intro hl
   have : b < n := ptr_lt hl
   exact .ptr (by simp [AL.cut, this, e])
 | @slice b o L l c c' e hc hr =>
   intro hl
   have : b < n := slice_lt hl rfl
   exact .slice (by simp [AL.cut, this, e]) hc hr
 | @func g f xs ys hg hs _ ih =>
   intro hl
   cases hl with
   | word h => cases h
   | func h1 h2 => exact .func hg hs fun i x y hx hy => ih i x y hx hy (h2 x (Array.mem_toList_iff.2 (Array.mem_of_getElem? hx)))
 | @agg xs ys hs _ ih =>
   intro hl
   cases hl with
   | word h => cases h
   | agg h1 => exact .agg hs fun i x y hx hy => ih i x y hx hy (h1 x (Array.mem_toList_iff.2 (Array.mem_of_getElem? hx)))
 | @tuple xs ys hs _ ih =>
   intro hl
   cases hl with
   | word h => cases h
   | tuple h1 => exact .tuple hs fun i x y hx hy => ih i x y hx hy (h1 x (Array.mem_toList_iff.2 (Array.mem_of_getElem? hx)))
theorem MRel.cut {β : Inj} {m : Mem} {n : Nat} {w : World} (h : MRel no β m w) (hM : MLt m n) : MRel no (AL.cut β n) m w := by
 have sub : ∀ b L, AL.cut β n b = some L → β b = some L := by
  intro b L e
  simp only [AL.cut] at e
  split at e
  · exact e
  · cases e
 refine ⟨fun b L e => h.bound b L (sub b L e), fun b blk L hb e i v hv => ?_, fun b blk L hb e => h.own b blk L hb (sub b L e), fun b blk L hb e => h.ro b blk L hb (sub b L e),
  fun b b' blk blk' L L' hb ho e hb' e' => h.apart b b' blk blk' L L' hb ho (sub b L e) hb' (sub b' L' e'), h.kept, fun b blk L hb e => h.ownS b blk L hb (sub b L e)⟩
 obtain ⟨r, hr, hvr⟩ := h.cells b blk L hb (sub b L e) i v hv
 exact ⟨r, hr, hvr.cut ((hM b blk hb).2 v (List.mem_of_getElem? hv))⟩
theorem MRel.ofDom {β : Inj} {m m1 : Mem} {w : World} (h : MRel no β m w) (hs : ∀ b L blk, β b = some L → m1 b = some blk → m b = some blk) : MRel no β m1 w :=
 ⟨h.bound, fun b blk L hb e => h.cells b blk L (hs b L blk e hb) e, fun b blk L hb e => h.own b blk L (hs b L blk e hb) e, fun b blk L hb e => h.ro b blk L (hs b L blk e hb) e,
   fun b b' blk blk' L L' hb ho e hb' e' => h.apart b b' blk blk' L L' (hs b L blk e hb) ho e (hs b' L' blk' e' hb') e', h.kept, fun b blk L hb e => h.ownS b blk L (hs b L blk e hb) e⟩
structure Stps (P : Program) (no : No) (bs : Nat) (l : List IOp) (TM : Nat → Tm) (MM : Nat → Mem) (NN : Nat → Nat) (VV : Nat → Value) (HH : Nat → Nat → Prop) (XX : Nat → Xs) (tgt : Nat → List Nat) : Prop where
 tm : ∀ i io, l[i]? = some io → TM (i + 1) = put (TM i) io.d (VV i)
 tlt : ∀ i, i ≤ l.length → TLt (TM i) (NN i)
 mlt : ∀ i, i ≤ l.length → MLt (MM i) (NN i)
 mono : ∀ i, i < l.length → NN i ≤ NN (i + 1)
 nx : ∀ i io, l[i]? = some io → Nx io.q (NN i) (HH i) (XX i) (HH (i + 1)) (XX (i + 1))
 act : ∀ i io, l[i]? = some io →
  ((∃ g b, io.g = some (g, b) ∧ ((∃ c, TM i g = .bool c ∧ c ≠ b) ∨ ∃ vs, TM i g = .tuple vs)) ∧ tgt i = [] ∧ VV i = nov ∧ MM (i + 1) = MM i ∧ NN (i + 1) = NN i) ∨
  ((∀ g b, io.g = some (g, b) → TM i g = .bool b) ∧ tgt i = [] ∧ ∃ mi mi', OpS P no (if io.q then NN i else bs) io.o (TM i) mi (NN i) (VV i) mi' (NN (i + 1)) ∧ Qt io.q (NN i) (HH i) (MM i) mi mi' (MM (i + 1))) ∨
  ((∀ g b, io.g = some (g, b) → TM i g = .bool b) ∧ io.q = true ∧ (∀ b, b ∈ tgt i → (b, io.o.isCall) ∈ XX (i + 1)) ∧ ∃ mh mh', OpS P no bs io.o (TM i) mh (NN i) (VV i) mh' (NN (i + 1)) ∧ Hv io.o (TM i) (NN i) (HH i) (XX i) (tgt i) (MM i) mh mh' (MM (i + 1)))
def cs {α : Type} (x : α) (f : Nat → α) : Nat → α
 | 0 => x
 | i + 1 => f i
theorem Stps.cons {bs n : Nat} {H : Nat → Prop} {X : Xs} {o : IOp} {l : List IOp} {tm : Tm} {m : Mem} {v : Value} {t : List Nat} {TM : Nat → Tm} {MM : Nat → Mem} {NN : Nat → Nat} {VV : Nat → Value} {HH : Nat → Nat → Prop} {XX : Nat → Xs} {tgt : Nat → List Nat}
 (hS : Stps P no bs l TM MM NN VV HH XX tgt) (htm : TM 0 = put tm o.d v) (hT : TLt tm n) (hM : MLt m n) (hn : n ≤ NN 0) (hx : Nx o.q n H X (HH 0) (XX 0))
 (hact : ((∃ g b, o.g = some (g, b) ∧ ((∃ c, tm g = .bool c ∧ c ≠ b) ∨ ∃ vs, tm g = .tuple vs)) ∧ t = [] ∧ v = nov ∧ MM 0 = m ∧ NN 0 = n) ∨
   ((∀ g b, o.g = some (g, b) → tm g = .bool b) ∧ t = [] ∧ ∃ mi mi', OpS P no (if o.q then n else bs) o.o tm mi n v mi' (NN 0) ∧ Qt o.q n H m mi mi' (MM 0)) ∨
   ((∀ g b, o.g = some (g, b) → tm g = .bool b) ∧ o.q = true ∧ (∀ b, b ∈ t → (b, o.o.isCall) ∈ XX 0) ∧ ∃ mh mh', OpS P no bs o.o tm mh n v mh' (NN 0) ∧ Hv o.o tm n H X t m mh mh' (MM 0))) :
 Stps P no bs (o :: l) (cs tm TM) (cs m MM) (cs n NN) (cs v VV) (cs H HH) (cs X XX) (cs t tgt) := by
 refine ⟨?_, ?_, ?_, ?_, ?_, ?_⟩
 · intro i io hi
   cases i with
   | zero => simp at hi; subst hi; exact htm
   | succ i => exact hS.tm i io (by simpa using hi)
 · intro i hi
   cases i with
   | zero => exact hT
   | succ i => exact hS.tlt i (by simpa using hi)
 · intro i hi
   cases i with
   | zero => exact hM
   | succ i => exact hS.mlt i (by simpa using hi)
 · intro i hi
   cases i with
   | zero => exact hn
   | succ i => exact hS.mono i (by simpa using hi)
 · intro i io hi
   cases i with
   | zero => simp at hi; subst hi; exact hx
   | succ i => exact hS.nx i io (by simpa using hi)
 · intro i io hi
   cases i with
   | zero => simp at hi; subst hi; exact hact
   | succ i => exact hS.act i io (by simpa using hi)
theorem tr_steps {bs n n1 : Nat} {H : Nat → Prop} {X : Xs} {l : List IOp} {tm tm1 : Tm} {m m1 : Mem} (h : TrL P no bs H X l tm m n tm1 m1 n1) :
 ∃ TM MM NN VV HH XX tgt, TM 0 = tm ∧ MM 0 = m ∧ NN 0 = n ∧ HH 0 = H ∧ XX 0 = X ∧ TM l.length = tm1 ∧ MM l.length = m1 ∧ NN l.length = n1 ∧ Stps P no bs l TM MM NN VV HH XX tgt := by
 induction h with
 | @nil H X tm m n hT hM =>
   exact ⟨fun _ => tm, fun _ => m, fun _ => n, fun _ => nov, fun _ => H, fun _ => X, fun _ => [], rfl, rfl, rfl, rfl, rfl, rfl, rfl, rfl,
    ⟨fun i io h => by simp at h, fun i _ => hT, fun i _ => hM, fun i h => by simp at h, fun i io h => by simp at h, fun i io h => by simp at h⟩⟩
 | @skip H X H' X' o l tm m n g b tm1 m1 n1 hg hsk hT hM hx _ ih =>
   obtain ⟨TM, MM, NN, VV, HH, XX, tgt, h1, h2, h3, h4, h5, h6, h7, h8, hS⟩ := ih
   exact ⟨cs tm TM, cs m MM, cs n NN, cs nov VV, cs H HH, cs X XX, cs [] tgt, rfl, rfl, rfl, rfl, rfl, h6, h7, h8,
    hS.cons h1 hT hM (by omega) (by rw [h4, h5]; exact hx) (.inl ⟨⟨g, b, hg, hsk⟩, rfl, rfl, h2, h3⟩)⟩
 | @step H X H' X' o l tm m n v mi mi' m2 n2 tm1 m1 n1 hg hop hn hq hT hM hx _ ih =>
   obtain ⟨TM, MM, NN, VV, HH, XX, tgt, h1, h2, h3, h4, h5, h6, h7, h8, hS⟩ := ih
   exact ⟨cs tm TM, cs m MM, cs n NN, cs v VV, cs H HH, cs X XX, cs [] tgt, rfl, rfl, rfl, rfl, rfl, h6, h7, h8,
    hS.cons h1 hT hM (by omega) (by rw [h4, h5]; exact hx) (.inr (.inl ⟨hg, rfl, mi, mi', by rw [h3]; exact hop, by rw [h2]; exact hq⟩))⟩
 | @heavy H X H' X' T o l tm m n v mh mh' m2 n2 tm1 m1 n1 hq hg hop hn hv hT hM hx hTX _ ih =>
   obtain ⟨TM, MM, NN, VV, HH, XX, tgt, h1, h2, h3, h4, h5, h6, h7, h8, hS⟩ := ih
   exact ⟨cs tm TM, cs m MM, cs n NN, cs v VV, cs H HH, cs X XX, cs T tgt, rfl, rfl, rfl, rfl, rfl, h6, h7, h8,
    hS.cons h1 hT hM (by omega) (by rw [h4, h5]; exact hx) (.inr (.inr ⟨hg, hq, by rw [h5]; exact hTX, mh, mh', by rw [h3]; exact hop, by rw [h2]; exact hv⟩))⟩
def bstep (acc : Array Nat) (o : Oper) : Array Nat :=
 acc.push (o.after.foldl (fun s e => if Region.binds .any e then s ||| 2 ^ e.on ||| acc.getD e.on 0 else s) 0)
theorem before_eq (ops : Array Oper) : Region.before ops = ops.toList.foldl bstep #[] := by
 unfold Region.before
 rw [← Array.foldl_toList]
 rfl
theorem fold_bits (acc : Array Nat) (k : Nat) : ∀ (es : List Edge) (s : Nat), (es.foldl (fun s e => if Region.binds .any e then s ||| 2 ^ e.on ||| acc.getD e.on 0 else s) s).testBit k = true →
 s.testBit k = true ∨ ∃ e ∈ es, Region.binds .any e = true ∧ (e.on = k ∨ (acc.getD e.on 0).testBit k = true)
 | [], s, h => .inl h
 | e :: es, s, h => by
   simp only [List.foldl_cons] at h
   rcases fold_bits acc k es _ h with h1 | ⟨e', he', hb, hk⟩
   · split at h1
     · rename_i hb
       simp only [Nat.testBit_or, Bool.or_eq_true, Nat.testBit_two_pow, decide_eq_true_eq] at h1
       rcases h1 with (h1 | h1) | h1
       · exact .inl h1
       · exact .inr ⟨e, List.mem_cons_self .., hb, .inl h1⟩
       · exact .inr ⟨e, List.mem_cons_self .., hb, .inr h1⟩
     · exact .inl h1
   · exact .inr ⟨e', List.mem_cons_of_mem _ he', hb, hk⟩
theorem fold_before : ∀ (lo : List Oper) (acc : Array Nat), (lo.foldl bstep acc).size = acc.size + lo.length ∧
 (∀ i, i < acc.size → (lo.foldl bstep acc).getD i 0 = acc.getD i 0) ∧
 ∀ j o, lo[j]? = some o → ∃ acc' : Array Nat, acc'.size = acc.size + j ∧ (∀ i, i < acc'.size → (lo.foldl bstep acc).getD i 0 = acc'.getD i 0) ∧
   (lo.foldl bstep acc).getD (acc.size + j) 0 = o.after.foldl (fun s e => if Region.binds .any e then s ||| 2 ^ e.on ||| acc'.getD e.on 0 else s) 0
 | [], acc => ⟨rfl, fun _ _ => rfl, fun j o h => by simp at h⟩
 | o :: lo, acc => by
   obtain ⟨h1, h2, h3⟩ := fold_before lo (bstep acc o)
   have hs : (bstep acc o).size = acc.size + 1 := by simp [bstep]
   have hk : ∀ i, i < acc.size → (bstep acc o).getD i 0 = acc.getD i 0 := by
    intro i hi
    simp only [bstep, Array.getD_eq_getD_getElem?, Array.getElem?_push]
    rw [if_neg (by omega)]
   refine ⟨by simp only [List.foldl_cons, h1, hs, List.length_cons]; omega, fun i hi => by simp only [List.foldl_cons]; rw [h2 i (by omega), hk i hi], fun j o' hj => ?_⟩
   cases j with
   | zero =>
     simp at hj; subst hj
     refine ⟨acc, rfl, fun i hi => by simp only [List.foldl_cons]; rw [h2 i (by omega), hk i hi], ?_⟩
     simp only [List.foldl_cons, Nat.add_zero]
     rw [h2 _ (by omega)]
     simp [bstep, Array.getD_eq_getD_getElem?]
   | succ j =>
     obtain ⟨acc', e1, e2, e3⟩ := h3 j o' (by simpa using hj)
     refine ⟨acc', by omega, e2, ?_⟩
     simp only [List.foldl_cons]
     rw [← e3]; congr 1; omega
theorem before_bit {ops : Array Oper} {j k : Nat} {o : Oper} (ho : ops[j]? = some o) (h : ((Region.before ops).getD j 0).testBit k = true) :
 ∃ e ∈ o.after.toList, Region.binds .any e = true ∧ (e.on = k ∨ (e.on < j ∧ ((Region.before ops).getD e.on 0).testBit k = true)) := by
 rw [before_eq] at h ⊢
 obtain ⟨_, _, h3⟩ := fold_before ops.toList #[]
 obtain ⟨acc', e1, e2, e3⟩ := h3 j o (by simpa using ho)
 simp only [Array.size_empty, Nat.zero_add, List.size_toArray, List.length_nil] at e1 e3
 rw [e3, ← Array.foldl_toList] at h
 rcases fold_bits acc' k _ _ h with h1 | ⟨e, he, hb, hk⟩
 · simp at h1
 · refine ⟨e, he, hb, ?_⟩
   rcases hk with hk | hk
   · exact .inl hk
   · by_cases hlt : e.on < j
     · exact .inr ⟨hlt, by rw [e2 e.on (by omega)]; exact hk⟩
     · have : acc'.getD e.on 0 = 0 := by
        simp only [Array.getD_eq_getD_getElem?]
        rw [Array.getElem?_eq_none (by omega)]; rfl
       rw [this] at hk; simp at hk
def lv (tm : Tm) (d : Nat → Option Nat) (V : Nat → Value) (L : Nat → Bool) : Nat → Tm
 | 0 => tm
 | k + 1 => if L k = true then put (lv tm d V L k) (d k) (V k) else lv tm d V L k
theorem put_at {tm : Tm} {d : Option Nat} {v : Value} {t : Nat} : put tm d v t = if d = some t then v else tm t := by
 cases d with
 | none => rfl
 | some d =>
   simp only [put, upd, Option.some.injEq]
   by_cases h : t = d
   · rw [if_pos h, if_pos h.symm]
   · rw [if_neg h, if_neg (Ne.symm h)]
theorem lv_eq {tm : Tm} {d : Nat → Option Nat} {V : Nat → Value} {TM : Nat → Tm} {len : Nat} (h0 : TM 0 = tm) (hs : ∀ i, i < len → TM (i + 1) = put (TM i) (d i) (V i)) {L : Nat → Bool} {i t : Nat} (hi : i ≤ len)
 (h1 : ∀ k, k < i → d k = some t → L k = true) (h2 : ∀ k, i ≤ k → k < len → d k = some t → L k = false) : ∀ j, i ≤ j → j ≤ len → lv tm d V L j t = TM i t := by
 have a : ∀ k, k ≤ i → lv tm d V L k t = TM k t := by
  intro k
  induction k with
  | zero => intro _; rw [h0]; rfl
  | succ k ih =>
    intro hk
    have ih' := ih (by omega)
    simp only [lv]
    rw [hs k (by omega), put_at]
    by_cases e : d k = some t
    · rw [if_pos (h1 k (by omega) e), put_at, if_pos e, if_pos e]
    · rw [if_neg e]
      split
      · rw [put_at, if_neg e]; exact ih'
      · exact ih'
 intro j
 induction j with
 | zero => intro hij _; have : i = 0 := by omega
           subst this; rw [h0]; rfl
 | succ j ih =>
   intro hij hj
   by_cases e : i = j + 1
   · subst e; exact a _ (Nat.le_refl _)
   · have ih' := ih (by omega) (by omega)
     simp only [lv]
     split
     · rename_i hL
       rw [put_at]
       by_cases e2 : d j = some t
       · rw [h2 j (by omega) (by omega) e2] at hL; cases hL
       · rw [if_neg e2]; exact ih'
     · exact ih'
theorem lv_add {tm : Tm} {d : Nat → Option Nat} {V : Nat → Value} {len : Nat} {L L' : Nat → Bool} {i t : Nat} (hi : i < len) (hL : L i = false) (hL' : L' i = true) (hne : ∀ k, k ≠ i → L' k = L k)
 (hx : d i = some t → ∀ k, i < k → k < len → d k = some t → L k = false) : ∀ j, i < j → j ≤ len → lv tm d V L' j t = if d i = some t then V i else lv tm d V L j t := by
 have a : ∀ k, k ≤ i → lv tm d V L' k t = lv tm d V L k t := by
  intro k
  induction k with
  | zero => intro _; rfl
  | succ k ih =>
    intro hk
    simp only [lv]
    rw [hne k (by omega)]
    split
    · rw [put_at, put_at, ih (by omega)]
    · exact ih (by omega)
 intro j
 induction j with
 | zero => intro h; omega
 | succ j ih =>
   intro hij hj
   by_cases e : i = j
   · subst e
     have e1 : lv tm d V L' (i + 1) = put (lv tm d V L' i) (d i) (V i) := by simp only [lv]; rw [if_pos hL']
     have e2 : lv tm d V L (i + 1) = lv tm d V L i := by simp only [lv]; rw [if_neg (by rw [hL]; decide)]
     rw [e1, e2, put_at, a i (Nat.le_refl _)]
   · have ih' := ih (by omega) (by omega)
     simp only [lv]
     rw [hne j (by omega)]
     by_cases e1 : L j = true
     · rw [if_pos e1, if_pos e1, put_at, put_at, ih']
       by_cases e2 : d j = some t
       · rw [if_pos e2]
         by_cases e3 : d i = some t
         · rw [hx e3 j (by omega) (by omega) e2] at e1; cases e1
         · rw [if_neg e3, if_pos e2]
       · rw [if_neg e2, if_neg e2]
     · rw [if_neg e1, if_neg e1, ih']
def cnt (L : Nat → Bool) : Nat → Nat
 | 0 => 0
 | k + 1 => cnt L k + if L k = true then 0 else 1
theorem cnt_le (L : Nat → Bool) : ∀ k, cnt L k ≤ k
 | 0 => Nat.le_refl _
 | k + 1 => by
   have := cnt_le L k
   simp only [cnt]; split <;> omega
theorem cnt_zero {L : Nat → Bool} : ∀ {k : Nat}, cnt L k = 0 → ∀ i, i < k → L i = true
 | 0, _, i, h => by omega
 | k + 1, h, i, hi => by
   simp only [cnt] at h
   split at h
   · rename_i hk
     by_cases e : i = k
     · subst e; exact hk
     · exact cnt_zero (by omega) i (by omega)
   · omega
theorem cnt_add {L L' : Nat → Bool} {i : Nat} (hL : L i = false) (hL' : L' i = true) (hne : ∀ k, k ≠ i → L' k = L k) : ∀ j, cnt L' j + (if i < j then 1 else 0) = cnt L j := by
 intro j
 induction j with
 | zero => rfl
 | succ j ih =>
   simp only [cnt]
   by_cases e : i = j
   · subst e
     rw [if_neg (by omega)] at ih
     rw [hL, hL', if_pos rfl, if_pos (by omega), if_neg (by decide)]; omega
   · rw [hne j (by omega)]
     by_cases h : i < j
     · have h' : i < j + 1 := by omega
       rw [if_pos h] at ih; rw [if_pos h']; omega
     · have h' : ¬ i < j + 1 := by omega
       rw [if_neg h] at ih; rw [if_neg h']; omega
theorem slotsOk_at {l : List IOp} {b : Array Nat} (h : slotsOk l b = true) {i j : Nat} {x y : IOp} (hx : l[i]? = some x) (hy : l[j]? = some y) (hij : i < j) :
 (b.getD j 0).testBit i = true ∨ ((∀ d, x.d = some d → d ∉ y.names) ∧ ∀ d, y.d = some d → d ∉ x.names) := by
 unfold slotsOk at h
 have h1 := List.all_eq_true.1 h (y, j) (List.mk_mem_zipIdx_iff_getElem?.2 hy)
 have h2 := List.all_eq_true.1 h1 (x, i) (List.mk_mem_zipIdx_iff_getElem?.2 hx)
 simp only [Bool.or_eq_true, Bool.and_eq_true, Bool.not_eq_true', decide_eq_false_iff_not] at h2
 rcases h2 with (h2 | h2) | h2
 · exact absurd hij h2
 · exact .inl h2
 · refine .inr ⟨fun d hd => ?_, fun d hd => ?_⟩
   · have := h2.1; rw [hd] at this; simpa using this
   · have := h2.2; rw [hd] at this; simpa using this
theorem barrier_at {ops : Array Oper} {b : Array Nat} {j i : Nat} (h : barrier ops b j = true) (hi : i < ops.size) (hne : i ≠ j) :
 (i < j → (b.getD j 0).testBit i = true) ∧ (j < i → (b.getD i 0).testBit j = true) := by
 unfold barrier at h
 have h1 := List.all_eq_true.1 h (ops[i], i) (List.mk_mem_zipIdx_iff_getElem?.2 (by simp [hi]))
 simp only [Bool.or_eq_true, beq_iff_eq, hne, false_or] at h1
 refine ⟨fun h2 => by rw [if_pos h2] at h1; exact h1, fun h2 => by rw [if_neg (by omega)] at h1; exact h1⟩
theorem edgesOk_at {ops : Array Oper} (h : edgesOk ops = true) {i : Nat} {o : Oper} (ho : ops[i]? = some o) : ∀ e ∈ o.after, Region.binds .any e = true → e.on < i := by
 intro e he hb
 unfold edgesOk at h
 have h1 := List.all_eq_true.1 h (o, i) (List.mk_mem_zipIdx_iff_getElem?.2 (by simpa using ho))
 have h2 := Array.all_eq_true_iff_forall_mem.1 h1 e he
 simpa [hb] using h2
theorem MRel.glue {β β1 β2 : Inj} {m m1 : Mem} {w w1 : World} {lo hi : Nat} (h : MRel no β m w) (h1 : MRel no β1 m1 w1) (hs : w.heap.size ≤ w1.heap.size) (hb : ∀ B, B < w.heap.size → w1.heap[B]? = w.heap[B]?)
 (hm : ∀ b blk, lo ≤ b → b < hi → m b = some blk → m1 b = some blk) (h2 : ∀ b, β2 b = if lo ≤ b ∧ b < hi then β1 b else β b) (hf : ∀ b L, lo ≤ b → b < hi → β1 b = some L → w.heap.size ≤ L.B)
 (ex : Ext0 β β2) (ex1 : Ext0 β1 β2) : MRel no β2 m w1 := by
 have cellEq : ∀ (A : Addr), A.block < w.heap.size → w1.cell? A = w.cell? A := by
  intro A hA
  unfold World.cell?
  rw [hb _ hA]
 have cs : ∀ b L, β2 b = some L → (lo ≤ b ∧ b < hi ∧ β1 b = some L ∧ w.heap.size ≤ L.B) ∨ (β b = some L ∧ L.B < w.heap.size) := by
  intro b L e
  rw [h2] at e
  split at e
  · rename_i hh; exact .inl ⟨hh.1, hh.2, e, hf b L hh.1 hh.2 e⟩
  · exact .inr ⟨e, h.bound b L e⟩
 refine ⟨fun b L e => ?_, fun b blk L hbk e i v hv => ?_, fun b blk L hbk e ho => ?_, fun b blk L hbk e ho => ?_, fun b b' blk blk' L L' hbk ho e hbk' e' hne => ?_, h1.kept, fun b blk L hbk e ho => ?_⟩
 · rcases cs b L e with ⟨_, _, e1, _⟩ | ⟨e1, h3⟩
   · exact h1.bound b L e1
   · omega
 · rcases cs b L e with ⟨ha, hb', e1, _⟩ | ⟨e1, h3⟩
   · obtain ⟨r, hr, hv'⟩ := h1.cells b blk L (hm b blk ha hb' hbk) e1 i v hv
     exact ⟨r, hr, hv'.mono ex1⟩
   · obtain ⟨r, hr, hv'⟩ := h.cells b blk L hbk e1 i v hv
     exact ⟨r, by rw [cellEq _ h3]; exact hr, hv'.mono ex⟩
 · rcases cs b L e with ⟨ha, hb', e1, _⟩ | ⟨e1, h3⟩
   · exact h1.own b blk L (hm b blk ha hb' hbk) e1 ho
   · rw [hb _ h3]; exact h.own b blk L hbk e1 ho
 · rcases cs b L e with ⟨ha, hb', e1, _⟩ | ⟨e1, h3⟩
   · exact h1.ro b blk L (hm b blk ha hb' hbk) e1 ho
   · exact h.ro b blk L hbk e1 ho
 · rcases cs b L e with ⟨ha, hb', e1, h3⟩ | ⟨e1, h3⟩
   · rcases cs b' L' e' with ⟨ha', hb'', e1', h3'⟩ | ⟨e1', h3'⟩
     · exact h1.apart b b' blk blk' L L' (hm b blk ha hb' hbk) ho e1 (hm b' blk' ha' hb'' hbk') e1' hne
     · omega
   · rcases cs b' L' e' with ⟨ha', hb'', e1', h3'⟩ | ⟨e1', h3'⟩
     · omega
     · exact h.apart b b' blk blk' L L' hbk ho e1 hbk' e1' hne
 · rcases cs b L e with ⟨ha, hb', e1, _⟩ | ⟨e1, h3⟩
   · exact h1.ownS b blk L (hm b blk ha hb' hbk) e1 ho
   · exact h.ownS b blk L hbk e1 ho
theorem MRel.glue2 {β β1 β2 : Inj} {M0 mh' m' : Mem} {w w1 : World} (h : MRel no β M0 w) (h1 : MRel no β1 mh' w1) (hs : w.heap.size ≤ w1.heap.size) (ex : Ext0 β β2) (ex1 : Ext0 β1 β2) (hbd : ∀ b L, β2 b = some L → β b = some L ∨ β1 b = some L) (F : Nat → Prop)
 (hc : ∀ b blk L, m' b = some blk → β2 b = some L → (mh' b = some blk ∧ β1 b = some L ∧ ¬ F b) ∨ (F b ∧ M0 b = some blk ∧ β b = some L ∧ w1.heap[L.B]? = w.heap[L.B]?))
 (hx : ∀ b blk L b0 blk0 L0, m' b = some blk → mh' b = some blk → β1 b = some L → ¬ F b → F b0 → M0 b0 = some blk0 → β b0 = some L0 → (blk.own = true ∨ blk0.own = true) → L.B ≠ L0.B) : MRel no β2 m' w1 := by
 refine ⟨fun b L e => ?_, fun b blk L hbk e i v hv => ?_, fun b blk L hbk e ho => ?_, fun b blk L hbk e ho => ?_, fun b b' blk blk' L L' hbk ho e hbk' e' hne => ?_, h1.kept, fun b blk L hbk e ho => ?_⟩
 · rcases hbd b L e with e1 | e1
   · exact Nat.lt_of_lt_of_le (h.bound b L e1) hs
   · exact h1.bound b L e1
 · rcases hc b blk L hbk e with ⟨h2, h3, _⟩ | ⟨_, h2, h3, h4⟩
   · obtain ⟨r, hr, hv'⟩ := h1.cells b blk L h2 h3 i v hv
     exact ⟨r, hr, hv'.mono ex1⟩
   · obtain ⟨r, hr, hv'⟩ := h.cells b blk L h2 h3 i v hv
     refine ⟨r, ?_, hv'.mono ex⟩
     rw [← hr]
     unfold World.cell?
     rw [h4]
 · rcases hc b blk L hbk e with ⟨h2, h3, _⟩ | ⟨_, h2, h3, h4⟩
   · exact h1.own b blk L h2 h3 ho
   · rw [h4]; exact h.own b blk L h2 h3 ho
 · rcases hc b blk L hbk e with ⟨h2, h3, _⟩ | ⟨_, h2, h3, h4⟩
   · exact h1.ro b blk L h2 h3 ho
   · exact h.ro b blk L h2 h3 ho
 · rcases hc b blk L hbk e with ⟨h2, h3, h5⟩ | ⟨h5, h2, h3, h4⟩ <;> rcases hc b' blk' L' hbk' e' with ⟨g2, g3, g5⟩ | ⟨g5, g2, g3, g4⟩
   · exact h1.apart b b' blk blk' L L' h2 ho h3 g2 g3 hne
   · exact hx b blk L b' blk' L' hbk h2 h3 h5 g5 g2 g3 (.inl ho)
   · exact (hx b' blk' L' b blk L hbk' g2 g3 g5 h5 h2 h3 (.inr ho)).symm
   · exact h.apart b b' blk blk' L L' h2 ho h3 g2 g3 hne
 · rcases hc b blk L hbk e with ⟨h2, h3, _⟩ | ⟨_, h2, h3, h4⟩
   · exact h1.ownS b blk L h2 h3 ho
   · exact h.ownS b blk L h2 h3 ho
end Go.Proofs.YtoppcdecolponaaDoor.AL
