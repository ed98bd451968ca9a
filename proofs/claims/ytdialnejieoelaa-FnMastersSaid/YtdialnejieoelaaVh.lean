/- Plain lemmas on lists and numbers that loops lean on. -/
import Derived.Test.YtdialnejieoelaaVTyp
namespace Go.Proofs.Ytdialnejieoelaa.AL
open Go
set_option linter.unusedVariables false
theorem take_get {α : Type} {xs : List α} {i : Nat} {y : α} (h : xs[i]? = some y) : xs.take (i + 1) = xs.take i ++ [y] := by
 rw [List.take_add_one, h]; rfl
theorem take_end {α : Type} {xs : List α} {i : Nat} (h : xs.length ≤ i) : xs.take i = xs := List.take_of_length_le h
theorem all_take {α : Type} {xs : List α} {i : Nat} {y : α} {p : α → Bool} (h : xs[i]? = some y) (h1 : (xs.take i).all p = true) (h2 : p y = true) : (xs.take (i + 1)).all p = true := by
 rw [take_get h, List.all_append, h1]; simp [h2]
theorem all_end {α : Type} {xs : List α} {i : Nat} {p : α → Bool} (h : (xs.take i).all p = true) (hi : xs.length ≤ i) : xs.all p = true := by rwa [take_end hi] at h
theorem all_no {α : Type} {xs : List α} {i : Nat} {y : α} {p : α → Bool} (h : xs[i]? = some y) (h2 : p y = false) : xs.all p = false := by
 rw [List.all_eq_false]; exact ⟨y, List.mem_of_getElem? h, by simp [h2]⟩
theorem any_take {α : Type} {xs : List α} {i : Nat} {y : α} {p : α → Bool} (h : xs[i]? = some y) (h1 : (xs.take i).any p = false) (h2 : p y = false) : (xs.take (i + 1)).any p = false := by
 rw [take_get h, List.any_append, h1]; simp [h2]
theorem any_end {α : Type} {xs : List α} {i : Nat} {p : α → Bool} (h : (xs.take i).any p = false) (hi : xs.length ≤ i) : xs.any p = false := by rwa [take_end hi] at h
def inB (x a b : Int) : Bool := decide (a ≤ x) && decide (x ≤ b)
theorem inB_t {x a b : Int} (h : inB x a b = true) : a ≤ x ∧ x ≤ b := by simpa [inB] using h
theorem inB_f {x a b : Int} (h : inB x a b = false) : x < a ∨ b < x := by simp [inB] at h; omega
theorem eq_take {α : Type} {xs ys : List α} {i : Nat} {x y : α} (hx : xs[i]? = some x) (hy : ys[i]? = some y) (h : xs.take i = ys.take i) (e : x = y) : xs.take (i + 1) = ys.take (i + 1) := by
 rw [take_get hx, take_get hy, h, e]
theorem eq_end {α : Type} {xs ys : List α} {i : Nat} (h : xs.take i = ys.take i) (hi : xs.length ≤ i) (hl : xs.length = ys.length) : xs = ys := by
 rwa [take_end hi, take_end (by omega)] at h
theorem ne_at {α : Type} {xs ys : List α} {i : Nat} {x y : α} (hx : xs[i]? = some x) (hy : ys[i]? = some y) (h : x ≠ y) : xs ≠ ys := by
 intro e; subst e; rw [hx] at hy; exact h (by simpa using hy)
def idxOf {α : Type} (p : α → Bool) (xs : List α) : Int := match xs.findIdx? p with
 | some i => i
 | none => -1
theorem idxOf_at {α : Type} {p : α → Bool} {xs : List α} {i : Nat} {y : α} (h : xs[i]? = some y) (h1 : (xs.take i).any p = false) (h2 : p y = true) : idxOf p xs = i := by
 have : xs.findIdx? p = some i := by
  rw [List.findIdx?_eq_some_iff_getElem]
  obtain ⟨g1, g2⟩ := List.getElem?_eq_some_iff.1 h
  refine ⟨g1, by rw [g2]; exact h2, fun j hj => ?_⟩
  rw [List.any_eq_false] at h1
  have := h1 xs[j] (by rw [List.mem_take_iff_getElem]; exact ⟨j, by omega, rfl⟩)
  simpa using this
 simp [idxOf, this]
theorem idxOf_no {α : Type} {p : α → Bool} {xs : List α} (h : xs.any p = false) : idxOf p xs = -1 := by
 have : xs.findIdx? p = none := by
  rw [List.findIdx?_eq_none_iff]
  intro x hx
  rw [List.any_eq_false] at h
  simpa using h x hx
 simp [idxOf, this]
theorem idxOf_any {α : Type} (p : α → Bool) (xs : List α) : decide (0 ≤ idxOf p xs) = xs.any p := by
 cases h : xs.any p with
 | false => rw [idxOf_no h]; rfl
 | true =>
   unfold idxOf
   cases e : xs.findIdx? p with
   | none =>
     rw [List.findIdx?_eq_none_iff] at e
     obtain ⟨x, hx, hp⟩ := List.any_eq_true.1 h
     rw [e x hx] at hp; cases hp
   | some i => simp
theorem fzV_mono : ∀ (n : Nat) (v : V), V.fzV n v = true → V.fzV (n + 1) v = true
 | 0, v, h => by cases h
 | n + 1, v, h => by
   cases v with
   | agg cs => exact List.all_eq_true.2 fun x hx => fzV_mono n x (List.all_eq_true.1 h x hx)
   | tup cs => exact List.all_eq_true.2 fun x hx => fzV_mono n x (List.all_eq_true.1 h x hx)
   | fn f cs => exact List.all_eq_true.2 fun x hx => fzV_mono n x (List.all_eq_true.1 h x hx)
   | w _ => rfl
   | sl _ _ => rfl
   | rp _ _ => rfl
   | _ => cases h
theorem fz1 {u : V} {caps : List V} (hu : V.fzV 6 u = true) (hc : caps.all (V.fzV 5) = true) : ([u] ++ caps).all (V.fzV 6) = true :=
 List.all_eq_true.2 fun x hx => by
  simp only [List.cons_append, List.nil_append, List.mem_cons] at hx
  rcases hx with rfl | hx
  · exact hu
  · exact fzV_mono 5 x (List.all_eq_true.1 hc x hx)
theorem fz2 {u : V} {f : Nat} {caps : List V} (hu : V.fzV 6 u = true) (hc : caps.all (V.fzV 5) = true) : [u, .fn f caps].all (V.fzV 6) = true := by
 rw [List.all_cons, hu, List.all_cons]
 show (true && (caps.all (V.fzV 5) && true)) = true
 rw [hc]; rfl
theorem bbeq (a b : Bool) : (a == b) = decide (a = b) := by cases a <;> cases b <;> rfl
def room (left : Int) (n : Nat) : Int := max (left - n) (-1)
def sumL {α : Type} (f : α → Nat) : List α → Nat
 | [] => 0
 | x :: l => f x + sumL f l
end Go.Proofs.Ytdialnejieoelaa.AL
