/- Arguments as they are read from the world: their rows, viewed as rows of the small language. -/
import Derived.Test.YtoppcdecolponaaDoorAlS12
import Derived.Test.YtoppcdecolponaaDoorAlm
import Derived.WalkKit
import Derived.ProofKit
import Derived.OpenShut
import Derived.ShutString
import Derived.ChangeOld
import Derived.SizedLaws
import Derived.ReadAgain
namespace Go.Proofs.YtoppcdecolponaaDoor.AL
open Go
open Go.ChangeShapes Go.WideShapes
set_option linter.unusedVariables false
set_option linter.unusedSimpArgs false
def RInt (k : IntKind) (m : Mem) (x : Int) (vs : List Value) : Prop := vs = [.int k x] ∧ (Lit.int k x).wf = true
def RBool (m : Mem) (x : Bool) (vs : List Value) : Prop := vs = [.bool x]
def RStr (m : Mem) (x : ByteArray) (vs : List Value) : Prop := vs = [.string x] ∧ x.size ≤ 2 ^ 47
def RSl {α : Type} (k : Nat) (R : Mem → α → List Value → Prop) (m : Mem) (xs : List α) (vs : List Value) : Prop :=
 ∃ (a : Option Addr) (c : Nat) (rows : List (List Value)), vs = [.slice a xs.length c] ∧ xs.length ≤ c ∧ RowsAt m k a rows ∧ rows.length = xs.length ∧ (∀ (i : Nat) x r, xs[i]? = some x → rows[i]? = some r → R m x r) ∧ xs.length ≤ 2 ^ 47
def RNil (m : Mem) (x : Unit) (vs : List Value) : Prop := vs = []
def RCons {α γ : Type} (R1 : Mem → α → List Value → Prop) (R2 : Mem → γ → List Value → Prop) (m : Mem) (x : α × γ) (vs : List Value) : Prop :=
 ∃ v1 v2, vs = v1 ++ v2 ∧ R1 m x.1 v1 ∧ R2 m x.2 v2
def Mono {α : Type} (R : Mem → α → List Value → Prop) : Prop := ∀ m m1 x vs, R m x vs → sub m m1 → R m1 x vs
theorem RInt.mono {k : IntKind} : Mono (RInt k) := fun _ _ _ _ h _ => h
theorem RBool.mono : Mono RBool := fun _ _ _ _ h _ => h
theorem RStr.mono : Mono RStr := fun _ _ _ _ h _ => h
theorem RNil.mono : Mono RNil := fun _ _ _ _ h _ => h
theorem RCons.mono {α γ : Type} {R1 : Mem → α → List Value → Prop} {R2 : Mem → γ → List Value → Prop} (h1 : Mono R1) (h2 : Mono R2) : Mono (RCons R1 R2) := by
 rintro m m1 x vs ⟨v1, v2, e, a, b⟩ hs
 exact ⟨v1, v2, e, h1 _ _ _ _ a hs, h2 _ _ _ _ b hs⟩
theorem RSl.mono {α : Type} {k : Nat} {R : Mem → α → List Value → Prop} (h : Mono R) : Mono (RSl k R) := by
 rintro m m1 xs vs ⟨a, c, rows, e, hc, hr, hl, hx, hb⟩ hs
 exact ⟨a, c, rows, e, hc, hr.mono hs, hl, fun i x r h1 h2 => h _ _ _ _ (hx i x r h1 h2) hs, hb⟩
structure View (no : No) (W : World) (β : Inj) (m : Mem) (n : Nat) : Prop where
 lt : BLt β n
 mlt : MLt m n
 rel : MRel no β m W
 ro : ∀ b blk, m b = some blk → blk.own = false
structure Grow (β β1 : Inj) (m m1 : Mem) (n n1 : Nat) : Prop where
 ext : Ext0 β β1
 mem : sub m m1
 le : n ≤ n1
theorem Grow.refl (β : Inj) (m : Mem) (n : Nat) : Grow β β m m n n := ⟨fun _ _ h => h, fun _ _ h => h, Nat.le_refl _⟩
theorem Grow.trans {β β1 β2 : Inj} {m m1 m2 : Mem} {n n1 n2 : Nat} (h : Grow β β1 m m1 n n1) (k : Grow β1 β2 m1 m2 n1 n2) : Grow β β2 m m2 n n2 :=
 ⟨fun b L e => k.ext b L (h.ext b L e), fun b x e => k.mem b x (h.mem b x e), Nat.le_trans h.le k.le⟩
theorem View.none (no : No) (W : World) (hk : no.S ≤ W.heap.size ∧ ∀ B, B < no.S → W.heap[B]? = no.W.heap[B]?) : View no W (fun _ => Option.none) (fun _ => Option.none) 0 :=
 ⟨fun _ _ => rfl, (fun b blk e => by cases e), ⟨(fun b L e => by cases e), (fun b blk L e => by cases e), (fun b blk L e => by cases e), (fun b blk L e => by cases e), (fun b b' blk blk' L L' e => by cases e), hk, fun b blk L e => by cases e⟩, fun b blk e => by cases e⟩
structure Wds (no : No) (β : Inj) (n : Nat) (vs cs : List Value) : Prop where
 len : vs.length = cs.length
 rel : ∀ (i : Nat) v r, vs[i]? = some v → cs[i]? = some r → VRel no β v r
 lt : ∀ v, v ∈ vs → VLt n v
theorem Wds.mono {no : No} {β β1 : Inj} {m m1 : Mem} {n n1 : Nat} {vs cs : List Value} (h : Wds no β n vs cs) (g : Grow β β1 m m1 n n1) : Wds no β1 n1 vs cs :=
 ⟨h.len, fun i v r h1 h2 => (h.rel i v r h1 h2).mono g.ext, fun v hv => (h.lt v hv).mono g.le⟩
theorem Wds.one {no : No} {β : Inj} {n : Nat} {v r : Value} (h : VRel no β v r) (hl : VLt n v) : Wds no β n [v] [r] :=
 ⟨rfl, fun i x y hx hy => by
   cases i with
   | zero => simp at hx hy; subst hx; subst hy; exact h
   | succ i => simp at hx, fun x hx => by simp at hx; subst hx; exact hl⟩
theorem Wds.append {no : No} {β : Inj} {n : Nat} {vs vs' cs cs' : List Value} (h : Wds no β n vs cs) (h' : Wds no β n vs' cs') : Wds no β n (vs ++ vs') (cs ++ cs') := by
 refine ⟨by simp [h.len, h'.len], fun i v r h1 h2 => ?_, fun v hv => ?_⟩
 · by_cases hi : i < vs.length
   · rw [List.getElem?_append_left hi] at h1
     rw [List.getElem?_append_left (by rw [← h.len]; exact hi)] at h2
     exact h.rel i v r h1 h2
   · rw [List.getElem?_append_right (by omega)] at h1
     rw [List.getElem?_append_right (by rw [← h.len]; omega), ← h.len] at h2
     exact h'.rel _ v r h1 h2
 · rcases List.mem_append.1 hv with h1 | h1
   · exact h.lt v h1
   · exact h'.lt v h1
section
variable {H : Type} (enc : TypeId × Value → H) (P : Program) (no : No) (W : World)
def Opn {α : Type} (t : TypeId) (R : Mem → α → List Value → Prop) : Prop :=
 ∀ (fuel : Nat) (cs : List Value) (x : DataW H × List MemPlace), DataW.trod enc P W 0 (fun _ => true) true fuel t cs = some x → (∀ k, k ∈ x.1.weights P t → k ≤ reachBytes) → ∀ β m n, View no W β m n →
   ∃ y vs β1 m1 n1, Grow β β1 m m1 n n1 ∧ View no W β1 m1 n1 ∧ Wds no β1 n1 vs cs ∧ R m1 y vs
def OpnF {α : Type} (fs : List Field) (o : Nat) (R : Mem → α → List Value → Prop) : Prop :=
 ∀ (fuel : Nat) (cs : List Value) (xs : List (DataW H × List MemPlace)), fs.mapM (fun f => DataW.trod enc P W 0 (fun _ => true) true fuel f.type ((cs.drop f.offset).take (P.cellsOf f.type))) = some xs →
   (∀ k, k ∈ DataW.weightsEach P (fs.map (·.type)) (xs.map (·.1)) → k ≤ reachBytes) → cs.length = o + (fs.map fun f => P.cellsOf f.type).sum → ∀ β m n, View no W β m n →
   ∃ y vs β1 m1 n1, Grow β β1 m m1 n n1 ∧ View no W β1 m1 n1 ∧ Wds no β1 n1 vs (cs.drop o) ∧ R m1 y vs
end
section
variable {H : Type} {enc : TypeId × Value → H} {P : Program} {no : No} {W : World}
theorem Opn.int {t : TypeId} {k : IntKind} (ht : P.underlying t = some (.int k)) : Opn enc P no W t (RInt k) := by
 intro fuel cs x h _ β m n hV
 obtain ⟨i, rfl, rfl, hw⟩ := DataW.trod_int ht h
 exact ⟨i, [.int k i], β, m, n, Grow.refl .., hV, .one (.int k i) (.word rfl), rfl, hw⟩
theorem Opn.bool {t : TypeId} (ht : P.underlying t = some .bool) : Opn enc P no W t RBool := by
 intro fuel cs x h _ β m n hV
 obtain ⟨b, rfl, rfl⟩ := DataW.trod_bool ht h
 exact ⟨b, [.bool b], β, m, n, Grow.refl .., hV, .one (.bool b) (.word rfl), rfl⟩
theorem Opn.str {t : TypeId} (ht : P.underlying t = some .string) : Opn enc P no W t RStr := by
 intro fuel cs x h hwt β m n hV
 obtain ⟨s, rfl, rfl, hs⟩ := DataW.trod_string ht h
 refine ⟨s, [.string s], β, m, n, Grow.refl .., hV, .one (.string s) (.word rfl), rfl, ?_⟩
 have := hwt s.data.toList.length (by simp [DataW.weights])
 have h2 := reachBytes_lt
 simp only [Array.length_toList] at this
 have h3 : s.size = s.data.size := rfl
 omega
theorem Opn.imp {α γ : Type} {t : TypeId} {R : Mem → α → List Value → Prop} {R' : Mem → γ → List Value → Prop} (h : Opn enc P no W t R) (hi : ∀ m x vs, R m x vs → ∃ y, R' m y vs) : Opn enc P no W t R' := by
 intro fuel cs x hx hwt β m n hV
 obtain ⟨y, vs, β1, m1, n1, h1, h2, h3, h4⟩ := h fuel cs x hx hwt β m n hV
 obtain ⟨z, hz⟩ := hi _ _ _ h4
 exact ⟨z, vs, β1, m1, n1, h1, h2, h3, hz⟩
theorem OpnF.nil {o : Nat} : OpnF enc P no W [] o RNil := by
 intro fuel cs xs _ _ hl β m n hV
 exact ⟨(), [], β, m, n, Grow.refl .., hV, ⟨by simp at hl; simp [hl], fun i v r h => by simp at h, fun v h => by simp at h⟩, rfl⟩
theorem OpnF.cons {α γ : Type} {f : Field} {fs : List Field} {o k : Nat} {R1 : Mem → α → List Value → Prop} {R2 : Mem → γ → List Value → Prop} (hm : Mono R1) (ho : f.offset = o) (hk : P.cellsOf f.type = k)
 (h1 : Opn enc P no W f.type R1) (h2 : OpnF enc P no W fs (o + k) R2) : OpnF enc P no W (f :: fs) o (RCons R1 R2) := by
 intro fuel cs xs hx hwt hl β m n hV
 simp only [List.mapM_cons, Option.bind_eq_bind, Option.bind_eq_some_iff, Option.pure_def, Option.some.injEq] at hx
 obtain ⟨x, hx, xs', hxs, rfl⟩ := hx
 simp only [List.map_cons, DataW.weightsEach, List.mem_append] at hwt
 simp only [List.map_cons, List.sum_cons, hk] at hl
 obtain ⟨y1, v1, β1, m1, n1, g1, V1, w1, r1⟩ := h1 fuel _ x hx (fun k hk => hwt k (.inl hk)) β m n hV
 obtain ⟨y2, v2, β2, m2, n2, g2, V2, w2, r2⟩ := h2 fuel cs xs' hxs (fun k hk => hwt k (.inr hk)) (by omega) β1 m1 n1 V1
 refine ⟨(y1, y2), v1 ++ v2, β2, m2, n2, g1.trans g2, V2, ?_, v1, v2, rfl, hm _ _ _ _ r1 g2.mem, r2⟩
 have := (w1.mono g2).append w2
 rw [ho, hk] at this
 have e : (cs.drop o).take k ++ cs.drop (o + k) = cs.drop o := by rw [← List.drop_drop]; exact List.take_append_drop ..
 rwa [e] at this
theorem Opn.struct {α : Type} {t : TypeId} {fs : Array Field} {R : Mem → α → List Value → Prop} (ht : P.underlying t = some (.struct fs)) (hc : P.cellsOf t = (fs.toList.map fun f => P.cellsOf f.type).sum)
 (h : OpnF enc P no W fs.toList 0 R) : Opn enc P no W t R := by
 intro fuel cs x hx hwt β m n hV
 obtain ⟨xs, k, rfl, rfl, hl, hls, hf⟩ := DataW.trod_struct ht hx
 have e : fs.toList.mapM (fun f => DataW.trod enc P W 0 (fun _ => true) true k f.type ((cs.drop f.offset).take (P.cellsOf f.type))) = some xs := by
  have gen : ∀ (fl : List Field) (ys : List (DataW H × List MemPlace)), ys.length = fl.length → (∀ (i : Nat) f, fl[i]? = some f → DataW.trod enc P W 0 (fun _ => true) true k f.type ((cs.drop f.offset).take (P.cellsOf f.type)) = ys[i]?) →
   fl.mapM (fun f => DataW.trod enc P W 0 (fun _ => true) true k f.type ((cs.drop f.offset).take (P.cellsOf f.type))) = some ys := by
   intro fl
   induction fl with
   | nil => intro ys h1 _; simp at h1; subst h1; rfl
   | cons f fl ih =>
     intro ys h1 h2
     cases ys with
     | nil => simp at h1
     | cons y ys =>
       have h3 := h2 0 f rfl
       simp only [List.getElem?_cons_zero] at h3
       simp [List.mapM_cons, h3, ih ys (by simpa using h1) fun i g hg => by simpa using h2 (i + 1) g (by simpa using hg)]
  exact gen _ _ (by simpa using hls) fun i f hi => hf i f (by simpa using hi)
 obtain ⟨y, vs, β1, m1, n1, g, V, w, r⟩ := h k cs xs e (fun k' hk' => hwt k' (by simp only [DataW.weights, ht]; exact hk')) (by rw [hl, hc]; omega) β m n hV
 exact ⟨y, vs, β1, m1, n1, g, V, by simpa using w, r⟩
theorem cells_at {a : Addr} {k : Nat} {cs : List Value} (h : W.cells? 0 a k = some cs) : cs.length = k ∧ ∀ i, i < k → W.cell? (a.add i) = cs[i]? := by
 unfold World.cells? at h
 rw [if_pos (Nat.zero_le _)] at h
 refine ⟨by simpa using mapM_some_length h, fun i hi => mapM_some_get h i i (by simp [hi])⟩
theorem cell_spot {a : Addr} {v : Value} (h : W.cell? a = some v) : a.spot = none ∧ a.block < W.heap.size := by
 unfold World.cell? at h
 split at h
 · rename_i hb
   split at h
   · cases h
   · rename_i hs
     refine ⟨by simpa using hs, ?_⟩
     exact (Array.getElem?_eq_some_iff.1 hb).1
 · cases h
theorem weights_all {e : TypeId} : ∀ {ds : List (DataW H)} {d : DataW H}, d ∈ ds → ∀ k, k ∈ d.weights P e → k ∈ DataW.weightsAll P e ds
 | d0 :: ds, d, hd, k, hk => by
   simp only [DataW.weightsAll, List.mem_append]
   rcases List.mem_cons.1 hd with rfl | h
   · exact .inl hk
   · exact .inr (weights_all h k hk)
theorem Opn.slice {α : Type} {t e : TypeId} {k : Nat} {R : Mem → α → List Value → Prop} (hm : Mono R) (ht : P.underlying t = some (.slice e)) (hk : P.cellsOf e = k) (hk0 : 0 < k) (hb : 0 < P.bytesOf e)
 (h : Opn enc P no W e R) : Opn enc P no W t (RSl k R) := by
 intro fuel cs x hx hwt β m n hV
 rcases DataW.trod_slice ht hx with ⟨rfl, rfl⟩ | ⟨a, len, cap, elems, rest, f, rfl, rfl, rfl, _, hlc, _, hel, hat, _, _⟩
 · exact ⟨[], [.slice none 0 0], β, m, n, Grow.refl .., hV, .one (.snil 0 0) (.word rfl), none, 0, [], rfl, Nat.le_refl _, fun h => absurd rfl h, rfl, fun i x r h => by simp at h, by simp⟩
 · by_cases h0 : len = 0
   · subst h0
     exact ⟨[], [.slice (some ⟨0, 0, some 0⟩) 0 0], β, m, n, Grow.refl .., hV, .one .empty .empty, some ⟨0, 0, some 0⟩, 0, [], rfl, Nat.le_refl _, fun h => absurd rfl h, rfl, fun i x r h => by simp at h, by simp⟩
   · -- the rows, one by one
     simp only [DataW.weights, ht, List.length_map, List.mem_cons, List.mem_append] at hwt
     have hlen : len ≤ 2 ^ 47 := by
      have h1 := hwt _ (.inl rfl)
      have h2 := reachBytes_lt
      have h3 : len * 1 ≤ (elems.length + rest.length) * P.bytesOf e := Nat.mul_le_mul (by omega) hb
      omega
     rw [hk] at hat
     have hsp : a.spot = none ∧ a.block < W.heap.size := by
      have h1 := hat 0 (by omega)
      have h2 : elems[0]? = some elems[0] := List.getElem?_eq_getElem (by omega)
      rw [h2] at h1
      simp only [Option.bind_eq_some_iff] at h1
      obtain ⟨cs0, h3, _⟩ := h1
      obtain ⟨h4, h5⟩ := cells_at h3
      have h6 := h5 0 hk0
      rw [List.getElem?_eq_getElem (by omega)] at h6
      have h7 := cell_spot h6
      simpa [Addr.add] using h7
     obtain ⟨ab, ao, asp⟩ := a
     obtain ⟨hsp, hblk⟩ := hsp
     simp only at hsp hblk
     subst hsp
     have go : ∀ j, j ≤ len → ∃ (xs : List α) (rows : List (List Value)) (fl : List Value) (β1 : Inj) (m1 : Mem) (n1 : Nat), Grow β β1 m m1 n n1 ∧ View no W β1 m1 n1 ∧ xs.length = j ∧ rows.length = j ∧ fl.length = j * k ∧
      (∀ (i : Nat) r, rows[i]? = some r → r.length = k ∧ i * k + k ≤ fl.length ∧ (fl.drop (i * k)).take k = r) ∧ (∀ (i : Nat) x r, xs[i]? = some x → rows[i]? = some r → R m1 x r) ∧
      (∀ v, v ∈ fl → VLt n1 v) ∧ ∀ (q : Nat) v, fl[q]? = some v → ∃ r, W.cell? ⟨ab, ao + q, none⟩ = some r ∧ VRel no β1 v r := by
      intro j
      induction j with
      | zero => intro _; exact ⟨[], [], [], β, m, n, Grow.refl .., hV, rfl, rfl, by simp, fun i r h => by simp at h, fun i x r h => by simp at h, fun v h => by simp at h, fun q v h => by simp at h⟩
      | succ j ih =>
        intro hj
        obtain ⟨xs, rows, fl, β1, m1, n1, g1, V1, l1, l2, l3, hrow, hR, hlt, hcell⟩ := ih (by omega)
        have h1 := hat j (by omega)
        have hej : elems[j]? = some elems[j] := List.getElem?_eq_getElem (by omega)
        rw [hej] at h1
        simp only [Option.bind_eq_some_iff] at h1
        obtain ⟨cj, hcj, htj⟩ := h1
        obtain ⟨c1, c2⟩ := cells_at hcj
        obtain ⟨y, vs, β2, m2, n2, g2, V2, w2, r2⟩ := h f cj _ htj (fun k' hk' => hwt k' (.inr (.inl (weights_all (List.mem_map.2 ⟨_, List.getElem_mem (by omega), rfl⟩) k' hk')))) β1 m1 n1 V1
        have lvs : vs.length = k := by rw [w2.len, c1]
        refine ⟨xs ++ [y], rows ++ [vs], fl ++ vs, β2, m2, n2, g1.trans g2, V2, by simp [l1], by simp [l2], by simp [l3, lvs, Nat.succ_mul], fun i r hi => ?_, fun i x r hx hr => ?_, fun v hv => ?_, fun q v hq => ?_⟩
        · by_cases hij : i < j
          · rw [List.getElem?_append_left (by omega)] at hi
            obtain ⟨e1, e2, e3⟩ := hrow i r hi
            refine ⟨e1, by simp; omega, ?_⟩
            rw [List.drop_append_of_le_length (by omega), List.take_append_of_le_length (by simp; omega)]
            exact e3
          · rw [List.getElem?_append_right (by omega)] at hi
            have : i = j := by
             have := (List.getElem?_eq_some_iff.1 hi).1
             simp at this; omega
            subst this
            rw [l2] at hi
            simp at hi
            subst hi
            refine ⟨lvs, by simp [l3, lvs], ?_⟩
            rw [← l3, List.drop_left, List.take_of_length_le (by omega)]
        · by_cases hij : i < j
          · rw [List.getElem?_append_left (by omega)] at hx hr
            exact hm _ _ _ _ (hR i x r hx hr) g2.mem
          · rw [List.getElem?_append_right (by omega)] at hx hr
            have : i = j := by
             have := (List.getElem?_eq_some_iff.1 hx).1
             simp at this; omega
            subst this
            rw [l1] at hx; rw [l2] at hr
            simp at hx hr
            subst hx; subst hr
            exact r2
        · rcases List.mem_append.1 hv with h1 | h1
          · exact (hlt v h1).mono g2.le
          · exact w2.lt v h1
        · by_cases hqj : q < fl.length
          · rw [List.getElem?_append_left hqj] at hq
            obtain ⟨r, e1, e2⟩ := hcell q v hq
            exact ⟨r, e1, e2.mono g2.ext⟩
          · rw [List.getElem?_append_right (by omega)] at hq
            have hlt' : q - fl.length < k := by
             have := (List.getElem?_eq_some_iff.1 hq).1
             omega
            have e1 := c2 (q - fl.length) hlt'
            have e2 : cj[q - fl.length]? = some cj[q - fl.length] := List.getElem?_eq_getElem (by omega)
            rw [e2, add_plain, add_plain] at e1
            refine ⟨_, ?_, w2.rel _ _ _ hq e2⟩
            rw [← e1]
            congr 2
            omega
     obtain ⟨xs, rows, fl, β1, m1, n1, g1, V1, l1, l2, l3, hrow, hR, hlt, hcell⟩ := go len (Nat.le_refl _)
     have hnone : m1 n1 = none := by
      cases e : m1 n1 with
      | none => rfl
      | some blk => have := (V1.mlt n1 blk e).1; omega
     let β2 : Inj := fun b => if b = n1 then some ⟨ab, ao, none⟩ else β1 b
     have ex : Ext0 β1 β2 := by
      intro b L e
      simp only [β2]
      by_cases hb : b = n1
      · subst hb; rw [V1.lt _ (Nat.le_refl _)] at e; cases e
      · rw [if_neg hb]; exact e
     have cs : ∀ b L, β2 b = some L → (b = n1 ∧ L = ⟨ab, ao, none⟩) ∨ (b ≠ n1 ∧ β1 b = some L) := by
      intro b L e
      simp only [β2] at e
      by_cases hb : b = n1
      · rw [if_pos hb] at e; exact .inl ⟨hb, by cases e; rfl⟩
      · rw [if_neg hb] at e; exact .inr ⟨hb, e⟩
     have hne0 : fl.length ≠ 0 := by rw [l3]; exact Nat.mul_ne_zero h0 (by omega)
     refine ⟨xs, [.slice (some ⟨n1, 0, none⟩) len len], β2, upd m1 n1 (some ⟨fl, false, k⟩), n1 + 1, g1.trans ⟨ex, ?_, Nat.le_succ _⟩, ⟨?_, ?_, ?_, ?_⟩, .one ?_ (.slice (Nat.lt_succ_self _)), some ⟨n1, 0, none⟩, len, rows, by rw [l1], by omega, fun _ => ?_, by omega, ?_, by omega⟩
     · intro b x hx
       simp only [upd]
       by_cases hb : b = n1
       · subst hb; rw [hnone] at hx; cases hx
       · rw [if_neg hb]; exact hx
     · intro b hb
       simp only [β2]
       rw [if_neg (by omega)]
       exact V1.lt b (by omega)
     · refine (V1.mlt.upd (n1 := n1 + 1) (by omega) (fun _ => Nat.lt_succ_self _) fun blk e c hc => ?_)
       cases e
       exact (hlt c hc).mono (by omega)
     · have mem : ∀ b blk, upd m1 n1 (some ⟨fl, false, k⟩) b = some blk → (b = n1 ∧ blk = ⟨fl, false, k⟩) ∨ (b ≠ n1 ∧ m1 b = some blk) := by
        intro b blk e
        simp only [upd] at e
        by_cases hb : b = n1
        · rw [if_pos hb] at e; exact .inl ⟨hb, by cases e; rfl⟩
        · rw [if_neg hb] at e; exact .inr ⟨hb, e⟩
       refine ⟨fun b L e => ?_, fun b blk L hb e i v hv => ?_, fun b blk L hb e ho => ?_, fun b blk L hb e ho => ?_, fun b b' blk blk' L L' hb ho e hb' e' hne => ?_, V1.rel.kept, fun b blk L hb e ho => ?_⟩
       · rcases cs b L e with ⟨_, rfl⟩ | ⟨_, e1⟩
         · exact hblk
         · exact V1.rel.bound b L e1
       · rcases cs b L e with ⟨h1, rfl⟩ | ⟨h1, e1⟩
         · rcases mem b blk hb with ⟨_, rfl⟩ | ⟨h2, _⟩
           · obtain ⟨r, e2, e3⟩ := hcell i v hv
             exact ⟨r, e2, e3.mono ex⟩
           · exact absurd h1 h2
         · rcases mem b blk hb with ⟨h2, _⟩ | ⟨_, e2⟩
           · exact absurd h2 h1
           · obtain ⟨r, e3, e4⟩ := V1.rel.cells b blk L e2 e1 i v hv
             exact ⟨r, e3, e4.mono ex⟩
       · rcases cs b L e with ⟨h1, rfl⟩ | ⟨h1, e1⟩
         · rcases mem b blk hb with ⟨_, rfl⟩ | ⟨h2, _⟩
           · cases ho
           · exact absurd h1 h2
         · rcases mem b blk hb with ⟨h2, _⟩ | ⟨_, e2⟩
           · exact absurd h2 h1
           · exact V1.rel.own b blk L e2 e1 ho
       · rcases cs b L e with ⟨h1, rfl⟩ | ⟨h1, e1⟩
         · rfl
         · rcases mem b blk hb with ⟨h2, _⟩ | ⟨_, e2⟩
           · exact absurd h2 h1
           · exact V1.rel.ro b blk L e2 e1 ho
       · rcases mem b blk hb with ⟨_, rfl⟩ | ⟨_, e2⟩
         · cases ho
         · rw [V1.ro b blk e2] at ho; cases ho
       · rcases mem b blk hb with ⟨_, rfl⟩ | ⟨_, e2⟩
         · cases ho
         · rw [V1.ro b blk e2] at ho; cases ho
     · intro b blk hb
       simp only [upd] at hb
       by_cases h1 : b = n1
       · rw [if_pos h1] at hb; cases hb; rfl
       · rw [if_neg h1] at hb; exact V1.ro b blk hb
     · refine .slice (L := ⟨ab, ao, none⟩) (o := 0) (by simp [β2]) hlc fun _ _ h => by cases h
     · refine ⟨⟨rfl, rfl⟩, ⟨fl, false, k⟩, by simp [upd, adr], rfl, fun i r hi => ?_⟩
       obtain ⟨e1, e2, e3⟩ := hrow i r hi
       exact ⟨e1, by simpa [adr] using e2, by simpa [adr] using e3⟩
     · intro i x r hx hr
       refine hm _ _ _ _ (hR i x r hx hr) fun b y hy => ?_
       simp only [upd]
       by_cases hb : b = n1
       · subst hb; rw [hnone] at hy; cases hy
       · rw [if_neg hb]; exact hy
end
end Go.Proofs.YtoppcdecolponaaDoor.AL
