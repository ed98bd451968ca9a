/- From what is read in the world to plain data, and from a contract over plain data to a row. -/
import Derived.Test.YtoppcdecolponaaDoorRow1
import Derived.Test.YtoppcdecolponaaDoorVTyp
namespace Go.Proofs.YtoppcdecolponaaDoor.AL
open Go
open Go.ChangeShapes Go.WideShapes Go.RowKit
set_option linter.unusedVariables false
set_option linter.unusedSimpArgs false
structure VR {α : Type} (r : α → List V) (wf : α → Prop) (m : Mem) (x : α) (vs : List Value) : Prop where
 pt : Pt (RF m) (r x) vs
 nar : ∀ u, u ∈ r x → u.nar = true
 wf : wf x
theorem VR.mono {α : Type} {r : α → List V} {wf : α → Prop} : Mono (VR r wf) := fun m m1 x vs h hs => ⟨h.pt.mono fun _ _ => RF.mono hs, h.nar, h.wf⟩
theorem VR.int {m : Mem} {x : Int} {vs : List Value} (h : RInt .i64 m x vs) : VR iR i64 m x vs := by
 obtain ⟨rfl, hw⟩ := h
 refine ⟨Pt.cons (.w rfl) Pt.nil, fun u hu => by simp [iR] at hu; subst hu; rfl, ?_⟩
 simp [Lit.wf, IntKind.min, IntKind.max, IntKind.bits, IntKind.signed] at hw
 unfold AL.i64
 omega
theorem VR.bool {m : Mem} {x : Bool} {vs : List Value} (h : RBool m x vs) : VR bR (fun _ => True) m x vs := by
 cases h
 exact ⟨Pt.cons (.w rfl) Pt.nil, fun u hu => by simp [bR] at hu; subst hu; rfl, trivial⟩
theorem VR.str {m : Mem} {x : ByteArray} {vs : List Value} (h : RStr m x vs) : VR sR (fun s => s.size ≤ 140737488355328) m x vs := by
 obtain ⟨rfl, hw⟩ := h
 exact ⟨Pt.cons (.w rfl) Pt.nil, fun u hu => by simp [sR] at hu; subst hu; rfl, by simpa using hw⟩
def slR {α : Type} (k : Nat) (r : α → List V) (xs : List α) : List V := [.sl k (xs.map r)]
theorem VR.sl {α : Type} {k : Nat} {r : α → List V} {wf : α → Prop} {m : Mem} {xs : List α} {vs : List Value} (h : RSl k (VR r wf) m xs vs) : VR (slR k r) (fun xs => xs.length ≤ 140737488355328 ∧ ∀ y, y ∈ xs → wf y) m xs vs := by
 obtain ⟨a, c, rows, rfl, hc, hr, hl, hx, hb⟩ := h
 have hx' : ∀ (i : Nat) (u : List V) r', (xs.map r)[i]? = some u → rows[i]? = some r' → Pt (RF m) u r' ∧ ∀ v, v ∈ u → v.nar = true := by
  intro i u r' h1 h2
  rw [List.getElem?_map] at h1
  cases e : xs[i]? with
  | none => rw [e] at h1; cases h1
  | some x =>
    rw [e] at h1; cases h1
    have := hx i x r' e h2
    exact ⟨this.pt, this.nar⟩
 have he : (xs.map r).length = xs.length := by simp
 have hsl : RF m (.sl k (xs.map r)) (.slice a (xs.map r).length c) := by
  have hr' : ∀ (i : Nat) u, (xs.map r)[i]? = some u → ∃ r', rows[i]? = some r' := fun i u h => by
   have := (List.getElem?_eq_some_iff.1 h).1
   exact ⟨_, List.getElem?_eq_getElem (by omega)⟩
  refine .sl (by omega) hr (by omega) (fun i u j x h1 h2 => ?_) (fun i u r' h1 h2 => (hx' i u r' h1 h2).1.1) (fun i u r' j x y h1 h2 h3 h4 => (hx' i u r' h1 h2).1.2 j x y h3 h4)
  obtain ⟨r', h3⟩ := hr' i u h1
  exact (hx' i u r' h1 h3).2 x (List.mem_of_getElem? h2)
 rw [he] at hsl
 refine ⟨Pt.cons hsl Pt.nil, fun u hu => by simp [slR] at hu; subst hu; rfl, by simpa using hb, fun y hy => ?_⟩
 obtain ⟨i, hi⟩ := List.mem_iff_getElem?.1 hy
 have hi2 : i < rows.length := by have := (List.getElem?_eq_some_iff.1 hi).1; omega
 exact (hx i y _ hi (List.getElem?_eq_getElem hi2)).wf
theorem VR.nil {m : Mem} {x : Unit} {vs : List Value} (h : RNil m x vs) : VR (fun _ : Unit => []) (fun _ => True) m x vs := by
 cases h
 exact ⟨Pt.nil, by simp, trivial⟩
theorem VR.cons {α γ : Type} {r1 : α → List V} {w1 : α → Prop} {r2 : γ → List V} {w2 : γ → Prop} {R2 : Mem → γ → List Value → Prop} {m : Mem} {x : α × γ} {vs : List Value} (h : RCons (VR r1 w1) R2 m x vs) (k : ∀ vs', R2 m x.2 vs' → VR r2 w2 m x.2 vs') :
 VR (fun p : α × γ => r1 p.1 ++ r2 p.2) (fun p => w1 p.1 ∧ w2 p.2) m x vs := by
 obtain ⟨v1, v2, rfl, h1, h2⟩ := h
 have h2 := k _ h2
 refine ⟨h1.pt.append h2.pt, fun u hu => ?_, h1.wf, h2.wf⟩
 rcases List.mem_append.1 hu with hu | hu
 · exact h1.nar u hu
 · exact h2.nar u hu
section
variable {H : Type} {enc : TypeId × Value → H} {P : Program} {no : No} {W : World}
theorem VO.int {t : TypeId} (ht : P.underlying t = some (.int .i64)) : Opn enc P no W t (VR iR i64) := (Opn.int ht).imp fun m x vs h => ⟨x, VR.int h⟩
theorem VO.bool {t : TypeId} (ht : P.underlying t = some .bool) : Opn enc P no W t (VR bR fun _ => True) := (Opn.bool ht).imp fun m x vs h => ⟨x, VR.bool h⟩
theorem VO.str {t : TypeId} (ht : P.underlying t = some .string) : Opn enc P no W t (VR sR fun s => s.size ≤ 140737488355328) := (Opn.str ht).imp fun m x vs h => ⟨x, VR.str h⟩
theorem VO.slice {α : Type} {t e : TypeId} {k : Nat} {r : α → List V} {wf : α → Prop} (ht : P.underlying t = some (.slice e)) (hk : P.cellsOf e = k) (hk0 : 0 < k) (hb : 0 < P.bytesOf e)
 (h : Opn enc P no W e (VR r wf)) : Opn enc P no W t (VR (slR k r) fun xs => xs.length ≤ 140737488355328 ∧ ∀ y, y ∈ xs → wf y) := (Opn.slice VR.mono ht hk hk0 hb h).imp fun m x vs h => ⟨x, VR.sl h⟩
theorem Pt.word {R : V → Value → Prop} {u : V} {v : Value} (h : Pt R [u] [v]) : R u v := h.2 0 _ _ rfl rfl
theorem law_end {G : Prg} {f g : Nat} (hm : P.follows .mixedOrders = true) (hL : Link P no G) (hno : no f = some g) {β : Inj} {m : Mem} {n : Nat} (V : View no W β m n) {args : Array Value} {vals : List Value} {us : List AL.V}
 (hw : Wds no β n vals args.toList) (hp : Pt (RF m) us vals) (hc : CV G g us fun v => v = .w (.bool true)) : Calls P f args W fun e W' => e = .returned (.bool true) ∧ Below W.heap.size W W' := by
 refine law_run hm hL hno V hw ?_
 refine (hc.run vals n m n m V.mlt.fresh (Nat.le_refl _) (sub_refl _) hp).mono ?_
 rintro v m1 n1 ⟨u, M1, h1, rfl, _⟩
 cases h1
 rfl
end
end Go.Proofs.YtoppcdecolponaaDoor.AL
