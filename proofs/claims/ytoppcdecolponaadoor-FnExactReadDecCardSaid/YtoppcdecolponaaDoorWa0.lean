/- Numerals: what is written of a number is read as it. -/
import Derived.Test.YtoppcdecolponaaDoorAl0
namespace Go.Proofs.YtoppcdecolponaaDoor.AL
open Go
set_option linter.unusedVariables false
def dig (b : UInt8) : Bool := decide (48 ≤ b.toNat) && decide (b.toNat ≤ 57)
theorem dig_iff {b : UInt8} : dig b = true ↔ 48 ≤ b.toNat ∧ b.toNat ≤ 57 := by
 unfold dig; rw [Bool.and_eq_true, decide_eq_true_eq, decide_eq_true_eq]
def valN (acc : Nat) (l : List UInt8) : Nat := l.foldl (fun n b => n * 10 + (b.toNat - 48)) acc
theorem valN_nil (acc) : valN acc [] = acc := rfl
theorem valN_cons (acc : Nat) (b : UInt8) (l : List UInt8) : valN acc (b :: l) = valN (acc * 10 + (b.toNat - 48)) l := by unfold valN; rw [List.foldl_cons]
theorem valN_app (acc l r) : valN acc (l ++ r) = valN (valN acc l) r := by simp [valN, List.foldl_append]
theorem valN_ge : ∀ (l : List UInt8) (acc : Nat), acc ≤ valN acc l
 | [], acc => Nat.le_refl _
 | b :: l, acc => by rw [valN_cons]; exact Nat.le_trans (by omega) (valN_ge l _)
theorem ofNat_dig {u : Nat} (h : u < 10) : (UInt8.ofNat (48 + u)).toNat = 48 + u := by simp; omega
theorem dec_all (u : Nat) : ∀ b, b ∈ Lib.decDigits u → dig b = true := by
 induction u using Nat.strongRecOn with
 | _ u ih =>
   intro b hb
   rw [Lib.decDigits] at hb
   split at hb
   · rename_i h
     simp only [List.mem_cons, List.not_mem_nil, or_false] at hb
     subst hb
     rw [dig_iff, ofNat_dig h]; omega
   · rename_i h
     simp only [List.mem_append, List.mem_cons, List.not_mem_nil, or_false] at hb
     rcases hb with hb | hb
     · exact ih (u / 10) (by omega) b hb
     · subst hb
       rw [dig_iff, ofNat_dig (Nat.mod_lt _ (by decide))]; omega
theorem dec_val (u : Nat) : valN 0 (Lib.decDigits u) = u := by
 induction u using Nat.strongRecOn with
 | _ u ih =>
   rw [Lib.decDigits]
   split
   · rename_i h
     rw [valN_cons, valN_nil, ofNat_dig h]; omega
   · rename_i h
     rw [valN_app, ih (u / 10) (by omega), valN_cons, valN_nil, ofNat_dig (Nat.mod_lt _ (by decide))]; omega
theorem dec_ne (u : Nat) : Lib.decDigits u ≠ [] := by
 rw [Lib.decDigits]; split <;> simp
theorem dec_len (u : Nat) : (Lib.decDigits u).length = Lib.nDigits u := by
 induction u using Nat.strongRecOn with
 | _ u ih =>
   rw [Lib.decDigits, Lib.nDigits]
   split
   · rfl
   · rw [List.length_append, ih (u / 10) (by omega)]; rfl
theorem dec_head (u : Nat) : ∃ b r, Lib.decDigits u = b :: r ∧ dig b = true := by
 cases h : Lib.decDigits u with
 | nil => exact absurd h (dec_ne u)
 | cons b r => exact ⟨b, r, rfl, dec_all u b (by rw [h]; simp)⟩
theorem parse_dec : ∀ (l : List UInt8) (acc : Nat), (∀ b, b ∈ l → dig b = true) → valN acc l < 18446744073709551616 → Lib.parseUint10 acc l = .ok (valN acc l)
 | [], acc, _, _ => rfl
 | b :: l, acc, h, hv => by
   have hb := dig_iff.1 (h b (by simp))
   rw [valN_cons] at hv ⊢
   have := valN_ge l (acc * 10 + (b.toNat - 48))
   rw [Lib.parseUint10, if_pos ⟨hb.1, hb.2⟩, if_neg (by omega), if_neg (by omega)]
   exact parse_dec l _ (fun x hx => h x (by simp [hx])) hv
theorem parse_mag (u : Nat) (h : u < 18446744073709551616) : Lib.parseMag (Lib.decDigits u) = .ok u := by
 rw [Lib.parseMag, if_neg (dec_ne u), parse_dec _ _ (dec_all u) (by rw [dec_val]; exact h), dec_val]
theorem atoi_itoa (n : Int) (h : -9223372036854775808 ≤ n ∧ n ≤ 9223372036854775807) : Lib.atoiAll (Lib.itoa n) = .ok n := by
 unfold Lib.itoa
 split
 · rename_i hn
   have e : (45 : UInt8).toNat = 45 := rfl
   simp only [Lib.atoiAll, e, or_true, if_true, parse_mag n.natAbs (by omega)]
   rw [if_neg (by simp), if_neg (by simp; omega)]
   simp; omega
 · rename_i hn
   obtain ⟨b, r, hbr, hd⟩ := dec_head n.toNat
   have hd := dig_iff.1 hd
   have hp := parse_mag n.toNat (by omega)
   rw [hbr] at hp ⊢
   simp only [Lib.atoiAll]
   rw [if_neg (by omega), hp]
   simp only
   rw [if_neg (by omega), if_neg (by omega), if_neg (by omega)]
   congr 1; omega
end Go.Proofs.YtoppcdecolponaaDoor.AL
