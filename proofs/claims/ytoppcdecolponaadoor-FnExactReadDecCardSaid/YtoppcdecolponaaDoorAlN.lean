/- Functions of the library that are told by what they answer: the cases. -/
import Derived.Test.YtoppcdecolponaaDoorAlS9
namespace Go.Proofs.YtoppcdecolponaaDoor.AL
open Go
set_option linter.unusedVariables false
theorem nat_cases {g : Nat} {args : List Value} {v : Value} (h : nat g args = some v) :
 (g = 408 ∧ ∃ (s : ByteArray) (d : Int), args = [.string s, .int .i64 d] ∧ s.size ≤ 140737488355328 ∧ v = .tuple #[.int .i64 (numN s.data.toList d).1, .bool (numN s.data.toList d).2]) ∨
 (g = 272 ∧ ∃ n : Int, args = [.int .i64 n] ∧ (-9223372036854775808 ≤ n ∧ n ≤ 9223372036854775807) ∧ v = .string ⟨(Lib.itoa n).toArray⟩) ∨
 (g = 273 ∧ ∃ (s : ByteArray) (c : Int), args = [.string s, .int .u8 c] ∧ v = .int .i64 (Lib.indexByte s.data.toList c.toNat.toUInt8)) ∨
 (g = 473 ∧ ∃ (s : ByteArray) (c : UInt8), args = [.string s, .string ⟨#[c]⟩] ∧ v = .int .i64 (Lib.indexByte s.data.toList c)) ∨
 (g = 472 ∧ ∃ (s : ByteArray) (c : UInt8), args = [.string s, .string ⟨#[c]⟩] ∧ v = .int .i64 (Lib.countByte s.data.toList c)) := by
 unfold nat at h
 split at h
 · unfold natS at h
   split at h
   · split at h
     · rename_i hk; cases h; exact .inl ⟨hk.1, _, _, rfl, hk.2, rfl⟩
     · cases h
   · split at h
     · rename_i hk; cases h; exact .inr (.inr (.inl ⟨hk, _, _, rfl, rfl⟩))
     · cases h
   · rename_i p
     split at h
     · rename_i c hc
       have hp : p = ⟨#[c]⟩ := by
        apply ByteArray.ext
        apply Array.toList_inj.1
        exact hc
       subst hp
       split at h
       · rename_i hk; cases h; exact .inr (.inr (.inr (.inl ⟨hk, _, _, rfl, rfl⟩)))
       · split at h
         · rename_i hk; cases h; exact .inr (.inr (.inr (.inr ⟨hk, _, _, rfl, rfl⟩)))
         · cases h
     · cases h
   · cases h
 · split at h
   · rename_i hk; cases h; exact .inr (.inl ⟨hk.1, _, rfl, hk.2, rfl⟩)
   · cases h
 · cases h
theorem look_mem {α : Type} : ∀ {S : List (Nat × α)} {t : Nat} {v : α}, S.lookup t = some v → (t, v) ∈ S
 | [], t, v, h => by simp at h
 | (a, b) :: S, t, v, h => by
   simp only [List.lookup] at h
   split at h
   · rename_i e; simp at e; subst e; cases h; exact .head _
   · exact .tail _ (look_mem h)
theorem no_num {T : List (Nat × Nat)} {f g : Nat} (h : T.all (fun p => p.2 != g) = true) (hm : (f, g) ∈ T) : False := by
 have := List.all_eq_true.1 h _ hm
 simp at this
theorem one_num {T : List (Nat × Nat)} {f g k : Nat} (h : T.all (fun p => p.2 != g || p.1 == k) = true) (hm : (f, g) ∈ T) : f = k := by
 have := List.all_eq_true.1 h _ hm
 simpa using this
theorem of_str {p : ByteArray → Prop} (h : ∀ s : List UInt8, p ⟨s.toArray⟩) (y : ByteArray) : p y := by
 have := h y.data.toList
 have e : (⟨y.data.toList.toArray⟩ : ByteArray) = y := by cases y; simp
 rwa [e] at this
end Go.Proofs.YtoppcdecolponaaDoor.AL
