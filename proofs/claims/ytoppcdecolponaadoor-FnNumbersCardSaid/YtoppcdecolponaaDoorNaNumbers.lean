/- Functions of the library: each call ends with what its plain form says; printed by program. -/
import Derived.Test.YtoppcdecolponaaDoorAlS10
import Derived.Test.YtoppcdecolponaaDoorShNumbers
import Derived.WalkKit
import Derived.Lib.AtoiErrMem
import Derived.Lib.AppendIntMem
import Derived.Lib.AtoiAllCases
import Derived.KernelRfl
namespace Go.Proofs.YtoppcdecolponaaDoor.AL
open Go Go.Shelf Go.RowKit
set_option linter.unusedVariables false
theorem var_below {P : Program} {w w1 : World} {name : String} {x : Array Value} (h : w.var? P name = some x) (hb : ∀ k, k < w.heap.size → w1.heap[k]? = w.heap[k]?) : w1.var? P name = some x := by
 unfold World.var? at *
 cases hg : P.globalNamed name with
 | none => simp [hg] at h
 | some g =>
   simp only [hg, Option.bind_some] at h ⊢
   have hlt : g < w.heap.size := by
    rcases Nat.lt_or_ge g w.heap.size with h' | h'
    · exact h'
    · rw [Array.getElem?_eq_none h'] at h; simp at h
   rw [hb g hlt]
   exact h
structure Vars (w : World) : Prop where
 tab : Lib.TabIs Tryd.prog w "internal/strconv.uint64pow10" .u64 Lib.pow10Tab
 syn : ∃ tp p, w.var? Tryd.prog "strconv.ErrSyntax" = some #[.iface tp p]
 rng : ∃ tp p, w.var? Tryd.prog "strconv.ErrRange" = some #[.iface tp p]
theorem Vars.on {w w1 : World} (h : Vars w) (hb : ∀ k, k < w.heap.size → w1.heap[k]? = w.heap[k]?) : Vars w1 :=
 ⟨var_below h.tab hb, (let ⟨t, p, e⟩ := h.syn; ⟨t, p, var_below e hb⟩), (let ⟨t, p, e⟩ := h.rng; ⟨t, p, var_below e hb⟩)⟩
theorem w_itoa (n : Int) (h : -9223372036854775808 ≤ n ∧ n ≤ 9223372036854775807) (w : World) (hv : Vars w) : Calls Tryd.prog 37 #[.int .i64 n] w fun e w' => e = .returned (.string ⟨(Lib.itoa n).toArray⟩) ∧ Below w.heap.size w w' :=
 (Tryd.strconv_Itoa n h.1 h.2 w hv.tab).mono fun e w' ⟨he, k, os, hw⟩ => ⟨he, by rw [hw]; exact Lib.below_grow _ _ (Nat.le_refl _) _ _⟩
theorem w_dec (n : Int) (h : -9223372036854775808 ≤ n ∧ n ≤ 9223372036854775807) (w : World) (hv : Vars w) : Calls Tryd.prog 20 #[.int .i64 n] w fun e w' => e = .returned (.string ⟨(Lib.itoa n).toArray⟩) ∧ Below w.heap.size w w' := by
 go_enter Tryd.func20, Tryd.ntmps20
 go_wp2_with (go_at_call 37; refine (w_itoa n h _ hv).mono ?_; rintro e w' ⟨rfl, hb⟩)
 go_ret
 exact ⟨rfl, hb⟩
theorem w_syn (s : ByteArray) (hs : s.size ≤ 140737488355328) (h : Lib.atoiAll s.data.toList = Lib.NumEnd.syntax) (w : World) (hv : Vars w) : Calls Tryd.prog 54 #[.string s] w fun e w' => ∃ t q, e = .returned (.tuple #[.int .i64 0, .iface t q]) ∧ Below w.heap.size w w' := by
 obtain ⟨tp, p, e0⟩ := hv.syn
 refine (Tryd.strconv_Atoi_syntax_var s (by omega) h tp p w e0).mono ?_
 rintro e w' ⟨N, rfl, -, -, hb⟩
 exact ⟨_, _, rfl, hb⟩
theorem w_rng (s : ByteArray) (hs : s.size ≤ 140737488355328) (h : Lib.atoiAll s.data.toList = .range) (w : World) (hv : Vars w) : Calls Tryd.prog 54 #[.string s] w fun e w' => ∃ x t q, e = .returned (.tuple #[.int .i64 x, .iface t q]) ∧ Below w.heap.size w w' := by
 obtain ⟨tp, p, e0⟩ := hv.rng
 refine (Tryd.strconv_Atoi_range_var s (by omega) h tp p w e0).mono ?_
 rintro e w' ⟨N, rfl, -, -, hb⟩
 exact ⟨_, _, _, rfl, hb⟩
theorem w_ok (s : ByteArray) (hs : s.size ≤ 140737488355328) (v : Int) (h : Lib.atoiAll s.data.toList = .ok v) (w : World) : Calls Tryd.prog 54 #[.string s] w fun e w' => e = .returned (.tuple #[.int .i64 v, .nilIface]) ∧ Below w.heap.size w w' := by
 refine (Tryd.strconv_Atoi_ok s (by omega) v h w).mono ?_
 rintro e w' ⟨rfl, hw⟩
 refine ⟨rfl, ?_⟩
 rcases hw with rfl | ⟨t, rfl⟩
 · exact Below.refl _ _
 · exact Lib.bytesWorld_below _ _ _
theorem below_on {w w1 w2 : World} (h : Below w.heap.size w w1) (k : Below w1.heap.size w1 w2) : Below w.heap.size w w2 :=
 h.trans ⟨k.os, k.tape, k.output, k.size, fun i hi => k.block i (Nat.lt_of_lt_of_le hi h.size)⟩
def strip (l : List UInt8) : List UInt8 := match l with
 | 45 :: r => r
 | _ => l
theorem numN_def (l : List UInt8) (d : Int) : numN l d = match Lib.atoiAll l with
 | .ok v => if Lib.itoa v = l ∧ ((strip l).length : Int) ≤ d then (v, true) else (0, false)
 | _ => (0, false) := rfl
theorem strip_trim (l : List UInt8) : strip l = Lib.trimPrefix l [45] := by
 cases l with
 | nil => rfl
 | cons b l =>
   by_cases h : b = 45
   · subst h; rfl
   · have e : Lib.trimPrefix (b :: l) [45] = b :: l := by
      have : (45 == b) = false := beq_eq_false_iff_ne.2 (fun e => h e.symm)
      simp [Lib.trimPrefix, Lib.hasPrefix, List.isPrefixOf, this]
     rw [e]
     unfold strip
     split
     · rename_i e2; cases e2; exact absurd rfl h
     · rfl
theorem num_yes {l : List UInt8} {v d : Int} (h : Lib.atoiAll l = .ok v) (h1 : Lib.itoa v = l) (h2 : ((Lib.trimPrefix l [45]).length : Int) ≤ d) : numN l d = (v, true) := by
 rw [numN_def, h]
 exact if_pos ⟨h1, by rw [strip_trim]; exact h2⟩
theorem num_no {l : List UInt8} {v d : Int} (h : Lib.atoiAll l = .ok v) (k : ¬ Lib.itoa v = l ∨ ¬ ((Lib.trimPrefix l [45]).length : Int) ≤ d) : numN l d = (0, false) := by
 rw [numN_def, h]
 refine if_neg fun hh => ?_
 rcases k with k | k
 · exact k hh.1
 · rw [← strip_trim] at k; exact k hh.2
set_option maxRecDepth 100000 in
theorem w_number (s : ByteArray) (d : Int) (hs : s.size ≤ 140737488355328) (w : World) (hv : Vars w) : Calls Tryd.prog 32 #[.string s, .int .i64 d] w fun e w' => e = .returned (.tuple #[.int .i64 (numN s.data.toList d).1, .bool (numN s.data.toList d).2]) ∧ Below w.heap.size w w' := by
 rcases h : Lib.atoiAll s.data.toList with v | _ | _
 · skip
   have hvb := Lib.atoiAll_bounds h
   go_enter Tryd.func32, Tryd.ntmps32
   go_wp2_with (first
    | (go_at_call 54; refine (w_ok s hs v h _).mono ?_; rintro e w1 ⟨rfl, hb1⟩)
    | (go_at_call 20; refine (w_dec v hvb _ (hv.on hb1.block)).mono ?_; rintro e w2 ⟨rfl, hb2⟩)
    | (go_at_call 55; refine (Tryd.strings_TrimPrefix _ _ _).mono ?_; rintro e w3 ⟨rfl, rfl⟩))
   · rename_i h1 h2
     go_ret2
     refine ⟨?_, below_on hb1 hb2⟩
     rw [num_no h (.inr (by omega))]; rfl
   · rename_i h1 h2
     go_ret2
     refine ⟨?_, below_on hb1 hb2⟩
     rw [num_yes h (h1.trans (ByteArray.toList_eq s)) h2]; rfl
   · rename_i h1
     go_ret2
     refine ⟨?_, below_on hb1 hb2⟩
     rw [num_no h (.inl fun e => h1 (e.trans (ByteArray.toList_eq s).symm))]; rfl
 · skip
   have hr : numN s.data.toList d = (0, false) := by simp only [numN, h]
   rw [hr]
   go_enter Tryd.func32, Tryd.ntmps32
   go_wp2_with (go_at_call 54; refine (w_syn s hs h _ hv).mono ?_; rintro e w1 ⟨t, q, rfl, hb⟩)
   go_ret2
   exact ⟨rfl, hb⟩
 · skip
   have hr : numN s.data.toList d = (0, false) := by simp only [numN, h]
   rw [hr]
   go_enter Tryd.func32, Tryd.ntmps32
   go_wp2_with (go_at_call 54; refine (w_rng s hs h _ hv).mono ?_; rintro e w1 ⟨x, t, q, rfl, hb⟩)
   go_ret2
   exact ⟨rfl, hb⟩
theorem en408 : ∀ (args : Array Value) (w : World), (callFunc 32 args).run Tryd.prog w = .ok (.enter 32 args) w := enters_of Tryd.func32 (by kernel_rfl) rfl
theorem en272 : ∀ (args : Array Value) (w : World), (callFunc 37 args).run Tryd.prog w = .ok (.enter 37 args) w := enters_of Tryd.func37 (by kernel_rfl) rfl
theorem en273 : ∀ (args : Array Value) (w : World), (callFunc 38 args).run Tryd.prog w = .ok (.enter 38 args) w := enters_of Tryd.func38 (by kernel_rfl) rfl
end Go.Proofs.YtoppcdecolponaaDoor.AL
