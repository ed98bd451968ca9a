/- Strings as lists of bytes; functions of the library that are told by their answers. -/
import Derived.Test.YtoppcdecolponaaDoorVA
import Derived.Test.YtoppcdecolponaaDoorVJ
namespace Go.Proofs.YtoppcdecolponaaDoor.AL
open Go
set_option linter.unusedVariables false
theorem str_at (a : List UInt8) (i : Nat) : (ByteArray.mk a.toArray)[i]? = a[i]? := by
 by_cases h : i < a.length
 · have h2 : i < (ByteArray.mk a.toArray).size := h
   rw [getElem?_pos _ i h2, List.getElem?_eq_getElem h]
   congr 1
 · have h2 : ¬ i < (ByteArray.mk a.toArray).size := h
   rw [getElem?_neg _ i h2, List.getElem?_eq_none (by omega)]
theorem str_list (a : List UInt8) : (ByteArray.mk a.toArray).toList = a := by rw [ByteArray.toList_eq]
theorem beq_dec (a b : List UInt8) : (a == b) = decide (a = b) := by
 by_cases h : a = b
 · subst h; simp
 · rw [decide_eq_false h, beq_eq_false_iff_ne]; exact h
theorem str_app (a b : List UInt8) : (ByteArray.mk a.toArray) ++ (ByteArray.mk b.toArray) = ByteArray.mk (a ++ b).toArray := by
 apply ByteArray.ext
 simp
section
variable {G : Prg} {q : Bool} {tl : List (Nat × V)} {L : List LB}
theorem o_adds {x y a b} (hx : evE tl x = some (.w (.string ⟨List.toArray a⟩))) (hy : evE tl y = some (.w (.string ⟨List.toArray b⟩))) (h : (a.length : Int) + b.length ≤ 9223372036854775807) :
 OpV G q (.bin .add x y) tl L (some (.w (.string ⟨(a ++ b).toArray⟩))) L :=
 o_bin hx hy (by
  have e : (((ByteArray.mk a.toArray).size + (ByteArray.mk b.toArray).size : Nat) : Int) = (a.length : Int) + b.length := by
   rw [show (ByteArray.mk a.toArray).size = a.length from rfl, show (ByteArray.mk b.toArray).size = b.length from rfl]; omega
  simp only [binv, e]
  rw [if_neg (by simp [IntKind.max, IntKind.bits, IntKind.signed]; omega), str_app]) rfl
theorem o_neqs {x y a b} (hx : evE tl x = some (.w (.string ⟨List.toArray a⟩))) (hy : evE tl y = some (.w (.string ⟨List.toArray b⟩))) : OpV G q (.bin .neq x y) tl L (some (.w (.bool (decide (¬ a = b))))) L :=
 o_bin hx hy (by simp only [binv, str_list, beq_dec]; simp) rfl
theorem o_lenb {x a} (hx : evE tl x = some (.w (.string ⟨List.toArray a⟩))) : OpV G q (.lens x) tl L (some (.w (.int .i64 a.length))) L := o_lens hx
theorem o_ixb {x i a t j b} (hx : evE tl x = some (.w (.string ⟨List.toArray a⟩))) (hi : evE tl i = some (.w (.int t j))) (hj : 0 ≤ j) (hb : a[j.toNat]? = some b) : OpV G q (.ix x i) tl L (some (.w (.int .u8 b.toNat))) L :=
 o_ix hx hi hj (by rw [str_at]; exact hb)
end
section
variable {N : Nat} {G : Prg} {q : Bool} {tl : Tl} {L : List LB} {K : Tl → List LB → Prop} {l : List IOp} {d : Nat}
theorem s_ixM {x i a t j} (hx : evE tl x = some (.w (.string ⟨List.toArray a⟩))) (hi : evE tl i = some (.w (.int t j))) (hj : 0 ≤ j ∧ j < (a.length : Int))
 (k : ∀ y : UInt8, a[j.toNat]? = some y → VO N G l K ((d, .w (.int .u8 (y.toNat : Int))) :: tl) L) : VO N G (⟨some d, .ix x i, none, q⟩ :: l) K tl L := by
 have h : j.toNat < a.length := by omega
 exact Ea (o_ixb hx hi hj.1 (List.getElem?_eq_getElem h)) (k _ (List.getElem?_eq_getElem h))
end
theorem pt_w {M : Mem} : ∀ {vs args : List Value}, Pt (RF M) (vs.map V.w) args → args = vs
 | [], args, h => h.unnil
 | v :: vs, args, h => by
   obtain ⟨x, r, rfl, h1, h2⟩ := h.uncons
   rw [pt_w h2, show x = v from (RL.fz (Z := []) h1).w_inv.1]
theorem cv_nat {G : Prg} {f : Nat} (vs : List Value) {v : Value} {u : V} (h : AL.nat f vs = some v) (hr : ∀ M, RF M u v) : CV G f (vs.map V.w) (fun x => x = u) :=
 ⟨fun args bs m n Ma hF hb hs hp => by
   rw [pt_w hp]
   exact ⟨v, m, n, .callN h, u, fun _ => none, hr _, rfl, sub_refl _, (fun b x e => by cases e), (fun b x e => by cases e)⟩⟩
theorem rf_two {M : Mem} {a : Int} {b : Bool} : RF M (.tup [.w (.int .i64 a), .w (.bool b)]) (.tuple #[.int .i64 a, .bool b]) :=
 .tup rfl fun i x y h1 h2 => by
  match i with
  | 0 => cases h1; cases h2; exact .w rfl
  | 1 => cases h1; cases h2; exact .w rfl
  | i + 2 => simp at h1
theorem cn_408 {G : Prg} (s : List UInt8) (d : Int) (hs : s.length ≤ 140737488355328) : CV G 408 [.w (.string ⟨s.toArray⟩), .w (.int .i64 d)] (fun v => v = .tup [.w (.int .i64 (numN s d).1), .w (.bool (numN s d).2)]) :=
 cv_nat [.string ⟨s.toArray⟩, .int .i64 d] (by
  show natS 408 ⟨s.toArray⟩ (.int .i64 d) = _
  have e : (ByteArray.mk s.toArray).size = s.length := rfl
  simp only [natS, e, hs, and_self, if_true]) fun M => rf_two
end Go.Proofs.YtoppcdecolponaaDoor.AL
