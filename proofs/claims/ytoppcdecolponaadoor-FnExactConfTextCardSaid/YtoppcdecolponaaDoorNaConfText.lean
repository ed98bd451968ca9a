/- Functions of the library: each call ends with what its plain form says; printed by program. -/
import Derived.Test.YtoppcdecolponaaDoorAlS10
import Derived.Test.YtoppcdecolponaaDoorShConfText
import Derived.WalkKit
import Derived.Lib.AtoiErrMem
import Derived.Lib.AppendIntMem
import Derived.Lib.AtoiAllCases
import Derived.KernelRfl
namespace Go.Proofs.YtoppcdecolponaaDoor.AL
open Go Go.Shelf Go.RowKit
set_option linter.unusedVariables false
theorem var_below {P : Program} {w w1 : World} {name : String} {x : Array Value} (h : w.var? P name = some x) (hb : ∀ k, k < w.heap.size → w1.heap[k]? = w.heap[k]?) : w1.var? P name = some x := by
 unfold World.var? at *
 cases hg : P.globalNamed name with
 | none => simp [hg] at h
 | some g =>
   simp only [hg, Option.bind_some] at h ⊢
   have hlt : g < w.heap.size := by
    rcases Nat.lt_or_ge g w.heap.size with h' | h'
    · exact h'
    · rw [Array.getElem?_eq_none h'] at h; simp at h
   rw [hb g hlt]
   exact h
structure Vars (w : World) : Prop where
 tab : Lib.TabIs Tryd.prog w "internal/strconv.uint64pow10" .u64 Lib.pow10Tab
theorem Vars.on {w w1 : World} (h : Vars w) (hb : ∀ k, k < w.heap.size → w1.heap[k]? = w.heap[k]?) : Vars w1 :=
 ⟨var_below h.tab hb⟩
theorem w_itoa (n : Int) (h : -9223372036854775808 ≤ n ∧ n ≤ 9223372036854775807) (w : World) (hv : Vars w) : Calls Tryd.prog 37 #[.int .i64 n] w fun e w' => e = .returned (.string ⟨(Lib.itoa n).toArray⟩) ∧ Below w.heap.size w w' :=
 (Tryd.strconv_Itoa n h.1 h.2 w hv.tab).mono fun e w' ⟨he, k, os, hw⟩ => ⟨he, by rw [hw]; exact Lib.below_grow _ _ (Nat.le_refl _) _ _⟩
theorem en272 : ∀ (args : Array Value) (w : World), (callFunc 37 args).run Tryd.prog w = .ok (.enter 37 args) w := enters_of Tryd.func37 (by kernel_rfl) rfl
theorem en407 : ∀ (args : Array Value) (w : World), (callFunc 30 args).run Tryd.prog w = .ok (.enter 30 args) w := enters_of Tryd.func30 (by kernel_rfl) rfl
end Go.Proofs.YtoppcdecolponaaDoor.AL
