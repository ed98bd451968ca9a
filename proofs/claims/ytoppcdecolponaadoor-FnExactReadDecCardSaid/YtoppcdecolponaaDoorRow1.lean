/- From a contract in the small language to the row's own words. -/
import Derived.Test.YtoppcdecolponaaDoorRow0
import Derived.Below
namespace Go.Proofs.YtoppcdecolponaaDoor.AL
open Go
open Go.ChangeShapes Go.WideShapes Go.RowKit
set_option linter.unusedVariables false
set_option linter.unusedSimpArgs false
section
variable {H : Type} {enc : TypeId × Value → H} {P : Program} {no : No} {W : World}
theorem Opn.word {α : Type} {t : TypeId} {R : Mem → α → List Value → Prop} (h : Opn enc P no W t R) {v : Value} {d : DataW H} {ps : List MemPlace} (hd : DataW.Trod enc P W 0 (fun _ => true) true t v d ps)
 (hw : ∀ k, k ∈ d.weights P t → k ≤ reachBytes) (hv : v.cells = #[v]) {β : Inj} {m : Mem} {n : Nat} (V : View no W β m n) :
 ∃ y v' β1 m1 n1, Grow β β1 m m1 n n1 ∧ View no W β1 m1 n1 ∧ Wds no β1 n1 [v'] [v] ∧ R m1 y [v'] := by
 obtain ⟨fuel, hd⟩ := hd
 obtain ⟨y, vs, β1, m1, n1, g, V1, w, r⟩ := h fuel _ _ hd hw β m n V
 rw [hv] at w
 obtain ⟨v', rfl⟩ := List.length_eq_one_iff.1 (w.len.trans rfl)
 exact ⟨y, v', β1, m1, n1, g, V1, w, r⟩
theorem Opn.agg {α : Type} {t : TypeId} {R : Mem → α → List Value → Prop} (h : Opn enc P no W t R) {v : Value} {d : DataW H} {ps : List MemPlace} (hd : DataW.Trod enc P W 0 (fun _ => true) true t v d ps)
 (hw : ∀ k, k ∈ d.weights P t → k ≤ reachBytes) {cs : Array Value} (hv : v = .agg cs) {β : Inj} {m : Mem} {n : Nat} (V : View no W β m n) :
 ∃ y vs β1 m1 n1, Grow β β1 m m1 n n1 ∧ View no W β1 m1 n1 ∧ Wds no β1 n1 [.agg vs.toArray] [v] ∧ R m1 y vs := by
 obtain ⟨fuel, hd⟩ := hd
 obtain ⟨y, vs, β1, m1, n1, g, V1, w, r⟩ := h fuel _ _ hd hw β m n V
 subst hv
 refine ⟨y, vs, β1, m1, n1, g, V1, .one (.agg (by simpa [Value.cells] using w.len) fun i x y hx hy => w.rel i x y (by simpa using hx) (by simpa [Value.cells] using hy)) (.agg fun x hx => w.lt x (by simpa using hx)), r⟩
theorem law_run {G : Prg} (hm : P.follows .mixedOrders = true) (hL : Link P no G) {f g : Nat} (hno : no f = some g) {β : Inj} {m : Mem} {n : Nat} (V : View no W β m n) {args : Array Value} {vals : List Value}
 (hw : Wds no β n vals args.toList) (hc : CallW G g vals n m n fun v _ _ => v = .bool true) : Calls P f args W fun e W' => e = .returned (.bool true) ∧ Below W.heap.size W W' := by
 obtain ⟨v, m1, n1, hb, rfl⟩ := hc
 have hs : CallSim P no n g vals m n (.bool true) m1 n1 := big_sim hm hL hb rfl hw.lt V.mlt
 refine Calls.mono (hs β W args f hno V.lt V.rel (by simpa using hw.len.symm) fun i x y hx hy => hw.rel i x y hx (by simpa using hy)) ?_
 rintro e W' ⟨rv, β1, rfl, hv, he, _, hf⟩
 have : rv = .bool true := by cases hv; rfl
 subst this
 exact ⟨rfl, hf.os, hf.tape, hf.output, hf.size, fun B hB => hf.block B hB fun b L _ h1 h2 => by omega⟩
theorem trodAll_carry {W' : World} (hb : Below W.heap.size W W') (hl : laidOutB P = true) (hmr : mapsRowed P = true) (hsl : ((List.range P.types.size).all fun t => match P.underlying t with | some (.slice e) => decide (0 < P.cellsOf e) | _ => true) = true) :
 ∀ {ts : List TypeId} {vs : List Value} {ds : List (DataW H)} {ps : List MemPlace}, (∀ t ∈ ts, t < P.types.size) → DataW.TrodAll enc P W 0 (fun _ => true) true ts vs ds ps →
   DataW.TrodAll enc P W' 0 (fun b => decide (b < W.heap.size)) true ts vs ds ps := by
 intro ts vs ds ps ht h
 have hlt := h.lt
 have h1 : ∀ {ts : List TypeId} {vs : List Value} {ds : List (DataW H)} {ps : List MemPlace}, (∀ p ∈ ps, p.block < W.heap.size) → DataW.TrodAll enc P W 0 (fun _ => true) true ts vs ds ps → DataW.TrodAll enc P W' 0 (fun _ => true) true ts vs ds ps := by
  intro ts
  induction ts with
  | nil => intro vs ds ps _ h; cases vs <;> cases ds <;> first | exact h | exact h.elim
  | cons t ts ih =>
    intro vs ds ps hp h
    cases vs with
    | nil => exact h.elim
    | cons v vs =>
      cases ds with
      | nil => exact h.elim
      | cons d ds =>
        obtain ⟨a, b, ⟨k, h1⟩, h2, e⟩ := h
        subst e
        exact ⟨a, b, ⟨k, DataW.trod_carry k _ _ _ h1 fun p hp' => hb.same (hp p (List.mem_append_left _ hp'))⟩, ih (fun p hp' => hp p (List.mem_append_right _ hp')) h2, rfl⟩
 exact DataW.TrodAll.respare (kids_rows hl hmr) (slices_full_of P hsl) ht (h1 hlt h) fun p hp => by simpa using hlt p hp
theorem trod_bool_mk {W' : World} {base : Nat} {spare : Nat → Bool} {held : Bool} {t : TypeId} {b : Bool} (ht : P.underlying t = some .bool) : DataW.Trod enc P W' base spare held t (.bool b) (.lit (.bool b)) [] :=
 ⟨1, by simp [DataW.trod, ht, Value.cells]⟩
theorem post_true {s : ChangeSpec} {fn : Func} {args : Array Value} {ds gs : List (DataW H)} {before : List MemPlace} {W' : World} {tb : TypeId} (hvars : s.vars = []) (hW : DataW.Whole enc P fn.params.toList s.vars false W args.toList ds gs before)
 (hs : s.fn H ds = { results := [.lit (.bool true)], args := ds }) (hrt : fn.resultTypes = #[tb]) (htb : P.underlying tb = some .bool) (hts : ∀ t ∈ fn.params.toList, t < P.types.size)
 (hb : Below W.heap.size W W') (hl : laidOutB P = true) (hmr : mapsRowed P = true) (hsl : ((List.range P.types.size).all fun t => match P.underlying t with | some (.slice e) => decide (0 < P.cellsOf e) | _ => true) = true) :
 s.post enc P fn false true false false W args (.bool true) W' := by
 have hW' := hW
 obtain ⟨p, q, hA, hV, rfl, hfz, hnd⟩ := hW
 rw [hvars] at hV
 obtain ⟨rfl, rfl⟩ := trodVars_none hV
 refine ⟨ds, [], p ++ [], [], p, [], hW', ?_, ?_, ?_, hb.frame _, fun h => by cases h⟩
 · rw [List.append_nil, hs, hrt]
   exact trodAll_mk1 (trod_bool_mk htb)
 · rw [List.append_nil, hs]
   exact trodAll_carry hb hl hmr hsl hts hA
 · rw [List.append_nil, hs, hvars]; rfl
end
end Go.Proofs.YtoppcdecolponaaDoor.AL
