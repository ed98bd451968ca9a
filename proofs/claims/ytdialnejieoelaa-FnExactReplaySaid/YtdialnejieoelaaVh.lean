/- Plain lemmas on lists and numbers that loops lean on. -/
import Derived.Test.YtdialnejieoelaaVTyp
namespace Go.Proofs.Ytdialnejieoelaa.AL
open Go
set_option linter.unusedVariables false
theorem take_get {α : Type} {xs : List α} {i : Nat} {y : α} (h : xs[i]? = some y) : xs.take (i + 1) = xs.take i ++ [y] := by
 rw [List.take_add_one, h]; rfl
theorem take_end {α : Type} {xs : List α} {i : Nat} (h : xs.length ≤ i) : xs.take i = xs := List.take_of_length_le h
theorem all_take {α : Type} {xs : List α} {i : Nat} {y : α} {p : α → Bool} (h : xs[i]? = some y) (h1 : (xs.take i).all p = true) (h2 : p y = true) : (xs.take (i + 1)).all p = true := by
 rw [take_get h, List.all_append, h1]; simp [h2]
theorem all_end {α : Type} {xs : List α} {i : Nat} {p : α → Bool} (h : (xs.take i).all p = true) (hi : xs.length ≤ i) : xs.all p = true := by rwa [take_end hi] at h
theorem all_no {α : Type} {xs : List α} {i : Nat} {y : α} {p : α → Bool} (h : xs[i]? = some y) (h2 : p y = false) : xs.all p = false := by
 rw [List.all_eq_false]; exact ⟨y, List.mem_of_getElem? h, by simp [h2]⟩
theorem any_take {α : Type} {xs : List α} {i : Nat} {y : α} {p : α → Bool} (h : xs[i]? = some y) (h1 : (xs.take i).any p = false) (h2 : p y = false) : (xs.take (i + 1)).any p = false := by
 rw [take_get h, List.any_append, h1]; simp [h2]
theorem any_end {α : Type} {xs : List α} {i : Nat} {p : α → Bool} (h : (xs.take i).any p = false) (hi : xs.length ≤ i) : xs.any p = false := by rwa [take_end hi] at h
def inB (x a b : Int) : Bool := decide (a ≤ x) && decide (x ≤ b)
theorem inB_t {x a b : Int} (h : inB x a b = true) : a ≤ x ∧ x ≤ b := by simpa [inB] using h
theorem inB_f {x a b : Int} (h : inB x a b = false) : x < a ∨ b < x := by simp [inB] at h; omega
def tabV {α : Type} (f : α → List V) (z : List V) (xs : List α) (i : Nat) : List (List V) := (xs.take i).map f ++ List.replicate (xs.length - i) z
theorem tabV_len {α : Type} (f : α → List V) (z : List V) (xs : List α) (i : Nat) (h : i ≤ xs.length) : (tabV f z xs i).length = xs.length := by simp [tabV]; omega
theorem tabV_zero {α : Type} (f : α → List V) (z : List V) (xs : List α) : tabV f z xs 0 = List.replicate xs.length z := by simp [tabV]
theorem tabV_end {α : Type} (f : α → List V) (z : List V) (xs : List α) {i : Nat} (h : xs.length ≤ i) : tabV f z xs i = xs.map f := by simp [tabV, take_end h, Nat.sub_eq_zero_of_le h]
theorem tabV_at {α : Type} (f : α → List V) (z : List V) {xs : List α} {i : Nat} (h : i < xs.length) : (tabV f z xs i)[i]? = some z := by
 unfold tabV
 rw [List.getElem?_append_right (by simp; omega), List.getElem?_replicate, if_pos (by simp; omega)]
theorem tabV_set {α : Type} (f : α → List V) (z : List V) {xs : List α} {i : Nat} {y : α} (h : xs[i]? = some y) : (tabV f z xs i).set i (f y) = tabV f z xs (i + 1) := by
 have hi := (List.getElem?_eq_some_iff.1 h).1
 unfold tabV
 rw [take_get h, List.map_append, List.set_append, if_neg (by simp; omega)]
 have e : xs.length - i = (xs.length - (i + 1)) + 1 := by omega
 have e2 : i - (List.map f (List.take i xs)).length = 0 := by simp; omega
 rw [e, e2, List.replicate_succ, List.set_cons_zero]
 simp
theorem eq_take {α : Type} {xs ys : List α} {i : Nat} {x y : α} (hx : xs[i]? = some x) (hy : ys[i]? = some y) (h : xs.take i = ys.take i) (e : x = y) : xs.take (i + 1) = ys.take (i + 1) := by
 rw [take_get hx, take_get hy, h, e]
theorem eq_end {α : Type} {xs ys : List α} {i : Nat} (h : xs.take i = ys.take i) (hi : xs.length ≤ i) (hl : xs.length = ys.length) : xs = ys := by
 rwa [take_end hi, take_end (by omega)] at h
theorem ne_at {α : Type} {xs ys : List α} {i : Nat} {x y : α} (hx : xs[i]? = some x) (hy : ys[i]? = some y) (h : x ≠ y) : xs ≠ ys := by
 intro e; subst e; rw [hx] at hy; exact h (by simpa using hy)
def idxOf {α : Type} (p : α → Bool) (xs : List α) : Int := match xs.findIdx? p with
 | some i => i
 | none => -1
theorem idxOf_at {α : Type} {p : α → Bool} {xs : List α} {i : Nat} {y : α} (h : xs[i]? = some y) (h1 : (xs.take i).any p = false) (h2 : p y = true) : idxOf p xs = i := by
 have : xs.findIdx? p = some i := by
  rw [List.findIdx?_eq_some_iff_getElem]
  obtain ⟨g1, g2⟩ := List.getElem?_eq_some_iff.1 h
  refine ⟨g1, by rw [g2]; exact h2, fun j hj => ?_⟩
  rw [List.any_eq_false] at h1
  have := h1 xs[j] (by rw [List.mem_take_iff_getElem]; exact ⟨j, by omega, rfl⟩)
  simpa using this
 simp [idxOf, this]
theorem idxOf_no {α : Type} {p : α → Bool} {xs : List α} (h : xs.any p = false) : idxOf p xs = -1 := by
 have : xs.findIdx? p = none := by
  rw [List.findIdx?_eq_none_iff]
  intro x hx
  rw [List.any_eq_false] at h
  simpa using h x hx
 simp [idxOf, this]
theorem idxOf_any {α : Type} (p : α → Bool) (xs : List α) : decide (0 ≤ idxOf p xs) = xs.any p := by
 cases h : xs.any p with
 | false => rw [idxOf_no h]; rfl
 | true =>
   unfold idxOf
   cases e : xs.findIdx? p with
   | none =>
     rw [List.findIdx?_eq_none_iff] at e
     obtain ⟨x, hx, hp⟩ := List.any_eq_true.1 h
     rw [e x hx] at hp; cases hp
   | some i => simp
theorem fzV_mono : ∀ (n : Nat) (v : V), V.fzV n v = true → V.fzV (n + 1) v = true
 | 0, v, h => by cases h
 | n + 1, v, h => by
   cases v with
   | agg cs => exact List.all_eq_true.2 fun x hx => fzV_mono n x (List.all_eq_true.1 h x hx)
   | tup cs => exact List.all_eq_true.2 fun x hx => fzV_mono n x (List.all_eq_true.1 h x hx)
   | fn f cs => exact List.all_eq_true.2 fun x hx => fzV_mono n x (List.all_eq_true.1 h x hx)
   | w _ => rfl
   | sl _ _ => rfl
   | rp _ _ => rfl
   | raw _ => rfl
   | _ => cases h
theorem fz1 {u : V} {caps : List V} (hu : V.fzV 6 u = true) (hc : caps.all (V.fzV 5) = true) : ([u] ++ caps).all (V.fzV 6) = true :=
 List.all_eq_true.2 fun x hx => by
  simp only [List.cons_append, List.nil_append, List.mem_cons] at hx
  rcases hx with rfl | hx
  · exact hu
  · exact fzV_mono 5 x (List.all_eq_true.1 hc x hx)
theorem fz2 {u : V} {f : Nat} {caps : List V} (hu : V.fzV 6 u = true) (hc : caps.all (V.fzV 5) = true) : [u, .fn f caps].all (V.fzV 6) = true := by
 rw [List.all_cons, hu, List.all_cons]
 show (true && (caps.all (V.fzV 5) && true)) = true
 rw [hc]; rfl
def mix {α : Type} (r : α → List V) (f : Nat → α) (xs : List α) (i : Nat) : List (List V) := ((List.range i).map f).map r ++ (xs.drop i).map r
theorem mix_zero {α : Type} (r : α → List V) (f : Nat → α) (xs : List α) : mix r f xs 0 = xs.map r := by simp [mix]
theorem mix_len {α : Type} (r : α → List V) (f : Nat → α) (xs : List α) (i : Nat) (h : i ≤ xs.length) : (mix r f xs i).length = xs.length := by simp [mix]; omega
theorem mix_end {α : Type} (r : α → List V) (f : Nat → α) (xs : List α) {i : Nat} (h : ¬ (i : Int) < xs.length) (hi : i ≤ xs.length) : mix r f xs i = ((List.range xs.length).map f).map r := by
 have : i = xs.length := by omega
 subst this; simp [mix]
theorem mix_at {α : Type} (r : α → List V) (f : Nat → α) {xs : List α} {i : Nat} {y : α} (h : xs[i]? = some y) : (mix r f xs i)[i]? = some (r y) := by
 unfold mix
 rw [List.getElem?_append_right (by simp)]
 simp [h]
theorem mix_set {α : Type} (r : α → List V) (f : Nat → α) {xs : List α} {i : Nat} (h : (i : Int) < xs.length) : (mix r f xs i).set i (r (f i)) = mix r f xs (i + 1) := by
 have hi : i < xs.length := by omega
 unfold mix
 rw [List.set_append, if_neg (by simp)]
 have e : xs.drop i = xs[i] :: xs.drop (i + 1) := (List.drop_eq_getElem_cons hi)
 have e2 : i - (List.map r (List.map f (List.range i))).length = 0 := by simp
 rw [e, e2, List.range_succ, List.map_cons, List.set_cons_zero, List.map_append, List.map_append, List.append_assoc]
 rfl
theorem set_at {α : Type} {rows : List α} {i : Nat} {x : α} (h : i < rows.length) : (rows.set i x)[i]? = some x := by simp [h]
theorem mks_at {α : Type} {f : Nat → α} {n i : Nat} {y : α} (h : ((List.range n).map f)[i]? = some y) : y = f i := by
 rw [List.getElem?_map] at h
 cases e : (List.range n)[i]? with
 | none => rw [e] at h; cases h
 | some j =>
   rw [e] at h; cases h
   have := (List.getElem?_eq_some_iff.1 e).2
   simp at this; rw [this]
def room (left : Int) (n : Nat) : Int := max (left - n) (-1)
def sumL {α : Type} (f : α → Nat) : List α → Nat
 | [] => 0
 | x :: l => f x + sumL f l
theorem sumL_mem {α : Type} (f : α → Nat) {xs : List α} {y : α} (h : y ∈ xs) : f y ≤ sumL f xs := by
 induction xs with
 | nil => cases h
 | cons x xs ih =>
   simp only [List.mem_cons] at h
   simp only [sumL]
   rcases h with rfl | h
   · omega
   · have := ih h; omega
end Go.Proofs.Ytdialnejieoelaa.AL
