/- Plain lemmas on lists and numbers that loops lean on. -/
import Derived.Test.YtoppcdecolponaaDoorVTyp
namespace Go.Proofs.YtoppcdecolponaaDoor.AL
open Go
set_option linter.unusedVariables false
theorem take_get {α : Type} {xs : List α} {i : Nat} {y : α} (h : xs[i]? = some y) : xs.take (i + 1) = xs.take i ++ [y] := by
 rw [List.take_add_one, h]; rfl
def inB (x a b : Int) : Bool := decide (a ≤ x) && decide (x ≤ b)
def room (left : Int) (n : Nat) : Int := max (left - n) (-1)
def sumL {α : Type} (f : α → Nat) : List α → Nat
 | [] => 0
 | x :: l => f x + sumL f l
theorem sumL_mem {α : Type} (f : α → Nat) {xs : List α} {y : α} (h : y ∈ xs) : f y ≤ sumL f xs := by
 induction xs with
 | nil => cases h
 | cons x xs ih =>
   simp only [List.mem_cons] at h
   simp only [sumL]
   rcases h with rfl | h
   · omega
   · have := ih h; omega
end Go.Proofs.YtoppcdecolponaaDoor.AL
