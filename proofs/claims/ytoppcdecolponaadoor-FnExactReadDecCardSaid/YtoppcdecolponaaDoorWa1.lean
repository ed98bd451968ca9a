/- What the reference writes and reads of numbers. -/
import Derived.Test.YtoppcdecolponaaDoorWa0
import Derived.Test.YtoppcdecolponaaDoorVh
import Derived.Lib.ItoaLen
import Derived.Lib.AtoiAllCases
namespace Go.Proofs.YtoppcdecolponaaDoor.AL
open Go
set_option linter.unusedVariables false
theorem wrap_u8 (x : Int) : 0 ≤ IntKind.wrap .u8 x ∧ IntKind.wrap .u8 x < 256 := by
 have e : IntKind.wrap .u8 x = x % 256 := rfl
 rw [e]; omega
theorem wrap_u8_in {x : Int} (h : 0 ≤ x ∧ x < 256) : IntKind.wrap .u8 x = x := by
 have e : IntKind.wrap .u8 x = x % 256 := rfl
 rw [e]; omega
def restD (n : Int) : List UInt8 := if n = 0 then [] else Lib.decDigits n.natAbs
theorem restD_0 : restD 0 = [] := rfl
theorem tmod_abs (n : Int) : (n.tmod 10).natAbs = n.natAbs % 10 := by rw [Int.natAbs_tmod]; rfl
theorem tdiv_abs (n : Int) : (n.tdiv 10).natAbs = n.natAbs / 10 := by rw [Int.natAbs_tdiv]; rfl
theorem restD_next {n : Int} (h : ¬ n = 0) : restD n = restD (n.tdiv 10) ++ [UInt8.ofNat (48 + n.natAbs % 10)] := by
 unfold restD
 rw [if_neg h, Lib.decDigits]
 have hd := tdiv_abs n
 split
 · rename_i h2
   rw [if_pos (by omega), Nat.mod_eq_of_lt h2]; rfl
 · rename_i h2
   rw [if_neg (by omega), hd]
theorem dec_start {n : Int} (h : ¬ n = 0) : restD n ++ [] = Lib.decDigits n.natAbs := by simp [restD, h]
theorem dec_end {n m : Int} {out : List UInt8} (hr : restD m ++ out = Lib.decDigits n.natAbs) (h : m = 0) : out = Lib.decDigits n.natAbs := by
 rw [h, restD_0, List.nil_append] at hr; exact hr
theorem dec_round {n d : Int} {out D : List UInt8} (h : ¬ n = 0) (hb : -9223372036854775808 ≤ n ∧ n ≤ 9223372036854775807) (hr : restD n ++ out = D) (hd : d = ((n.natAbs % 10 : Nat) : Int)) :
 (-9223372036854775808 ≤ IntKind.wrap .i64 (n.tdiv 10) ∧ IntKind.wrap .i64 (n.tdiv 10) ≤ 9223372036854775807) ∧ restD (IntKind.wrap .i64 (n.tdiv 10)) ++ (UInt8.ofNat (IntKind.wrap .u8 (IntKind.wrap .i64 (48 + d))).toNat :: out) = D := by
 have hq := tdiv_abs n
 have hw : IntKind.wrap .i64 (n.tdiv 10) = n.tdiv 10 := wrap_in _ (by omega)
 have hl : n.natAbs % 10 < 10 := Nat.mod_lt _ (by decide)
 rw [hw]
 refine ⟨by omega, ?_⟩
 rw [wrap_in (48 + d) (by omega), wrap_u8_in (by omega), ← hr, restD_next h, List.append_assoc]
 have e : (48 + d).toNat = 48 + n.natAbs % 10 := by omega
 rw [e]; rfl
theorem dig_neg {n : Int} (hb : -9223372036854775808 ≤ n ∧ n ≤ 9223372036854775807) (h : n.tmod 10 < 0) : IntKind.wrap .i64 (0 - n.tmod 10) = ((n.natAbs % 10 : Nat) : Int) := by
 have := tmod_abs n
 have hl : n.natAbs % 10 < 10 := Nat.mod_lt _ (by decide)
 rw [wrap_in _ (by omega)]; omega
theorem dig_pos {n : Int} (h : ¬ n.tmod 10 < 0) : n.tmod 10 = ((n.natAbs % 10 : Nat) : Int) := by
 have := tmod_abs n; omega
theorem natAbs_next {n : Int} (h : ¬ n = 0) (hb : -9223372036854775808 ≤ n ∧ n ≤ 9223372036854775807) : (IntKind.wrap .i64 (n.tdiv 10)).natAbs < n.natAbs := by
 have hq := tdiv_abs n
 rw [wrap_in _ (by omega)]; omega
theorem dec_short {n : Int} (hb : -9223372036854775808 ≤ n ∧ n ≤ 9223372036854775807) {m : Int} {out : List UInt8} (h : restD m ++ out = Lib.decDigits n.natAbs) : out.length ≤ 20 := by
 have h1 := congrArg List.length h
 rw [List.length_append, dec_len] at h1
 have := Lib.nDigits_le20 n.natAbs (by omega)
 omega
theorem itoa_0 : Lib.itoa 0 = [48] := by unfold Lib.itoa; rw [if_neg (by decide), Lib.decDigits]; rfl
theorem itoa_n {n : Int} (h : n < 0) : Lib.itoa n = 45 :: Lib.decDigits n.natAbs := by unfold Lib.itoa; rw [if_pos h]
theorem itoa_p {n : Int} (h : ¬ n < 0) : Lib.itoa n = Lib.decDigits n.natAbs := by unfold Lib.itoa; rw [if_neg h]; congr 1; omega
theorem dec_leaf1 {n : Int} (h : n = 0) : V.w (.string ⟨#[48]⟩) = V.w (.string ⟨(Lib.itoa n).toArray⟩) := by rw [h, itoa_0]
theorem dec_leaf2 {n m : Int} {out : List UInt8} (hr : restD m ++ out = Lib.decDigits n.natAbs) (h : m = 0) (h9 : n < 0) : V.w (.string ⟨([45] ++ out).toArray⟩) = V.w (.string ⟨(Lib.itoa n).toArray⟩) := by
 rw [itoa_n h9, ← dec_end hr h]; rfl
theorem dec_leaf3 {n m : Int} {out : List UInt8} (hr : restD m ++ out = Lib.decDigits n.natAbs) (h : m = 0) (h9 : ¬ n < 0) : V.w (.string ⟨out.toArray⟩) = V.w (.string ⟨(Lib.itoa n).toArray⟩) := by
 rw [itoa_p h9, ← dec_end hr h]
def scanS (n : Int) (b : UInt8) : Int := if dig b = true then n * 10 + ((b.toNat : Int) - 48) else n
def scanN (l : List UInt8) : Int := l.foldl scanS 0
def scanK (l : List UInt8) : Int := (l.countP dig : Nat)
theorem scan_bd : ∀ (l : List UInt8), 0 ≤ scanN l ∧ scanN l < 10 ^ l.length := by
 intro l
 suffices h : ∀ (l : List UInt8) (n : Int) (k : Nat), 0 ≤ n ∧ n < 10 ^ k → 0 ≤ l.foldl scanS n ∧ l.foldl scanS n < 10 ^ (k + l.length) by
  have := h l 0 0 (by decide); simpa [scanN] using this
 intro l
 induction l with
 | nil => intro n k h; exact h
 | cons b l ih =>
   intro n k h
   rw [List.foldl_cons, List.length_cons, show k + (l.length + 1) = (k + 1) + l.length by omega]
   refine ih _ _ ?_
   have hp : (10 : Int) ^ (k + 1) = 10 ^ k * 10 := Int.pow_succ ..
   have hp0 : (0 : Int) < 10 ^ k := Int.pow_pos (by decide)
   unfold scanS
   split
   · rename_i hd
     have := dig_iff.1 hd
     rw [hp]; omega
   · rw [hp]; omega
theorem scan_take {l : List UInt8} {i : Nat} (h : i ≤ 11) : 0 ≤ scanN (l.take i) ∧ scanN (l.take i) < 100000000000 := by
 obtain ⟨h1, h2⟩ := scan_bd (l.take i)
 refine ⟨h1, Int.lt_of_lt_of_le h2 ?_⟩
 have h3 : (l.take i).length ≤ 11 := by rw [List.length_take]; omega
 have h4 : (10 : Int) ^ (l.take i).length ≤ 10 ^ 11 := by
  have := Nat.pow_le_pow_right (n := 10) (by decide) h3
  exact_mod_cast this
 exact h4
theorem scanK_take {l : List UInt8} {i : Nat} (h : i ≤ 11) : 0 ≤ scanK (l.take i) ∧ scanK (l.take i) ≤ 11 := by
 have h1 : (l.take i).countP dig ≤ (l.take i).length := List.countP_le_length
 rw [List.length_take] at h1
 unfold scanK
 omega
theorem scan_next {l : List UInt8} {i : Nat} {b : UInt8} (h : l[i]? = some b) : scanN (l.take (i + 1)) = scanS (scanN (l.take i)) b ∧ scanK (l.take (i + 1)) = scanK (l.take i) + if dig b = true then 1 else 0 := by
 rw [take_get h]
 refine ⟨by simp [scanN, List.foldl_append], ?_⟩
 simp only [scanK, List.countP_append, List.countP_cons, List.countP_nil]
 split <;> simp
theorem scan_yes {n : Int} {b : UInt8} (hn : 0 ≤ n ∧ n < 100000000000) (h1 : (48 : Int) ≤ b.toNat) (h2 : (b.toNat : Int) ≤ 57) :
 IntKind.wrap .i64 (IntKind.wrap .i64 (n * 10) + IntKind.wrap .i64 (IntKind.wrap .u8 ((b.toNat : Int) - 48))) = scanS n b := by
 have : dig b = true := dig_iff.2 ⟨by omega, by omega⟩
 rw [wrap_u8_in (by omega), wrap_in ((b.toNat : Int) - 48) (by omega), wrap_in (n * 10) (by omega), wrap_in _ (by omega), scanS, if_pos this]
theorem dig_yes {b : UInt8} (h1 : (48 : Int) ≤ b.toNat) (h2 : (b.toNat : Int) ≤ 57) : dig b = true := dig_iff.2 ⟨by omega, by omega⟩
theorem dig_no {b : UInt8} (h : ¬ ((48 : Int) ≤ b.toNat ∧ (b.toNat : Int) ≤ 57)) : dig b = false := by
 cases e : dig b with
 | false => rfl
 | true => have := dig_iff.1 e; omega
theorem scan_no {n : Int} {b : UInt8} (h : ¬ ((48 : Int) ≤ b.toNat ∧ (b.toNat : Int) ≤ 57)) : n = scanS n b := by rw [scanS, if_neg (by rw [dig_no h]; decide)]
theorem scanK_yes {k : Int} {b : UInt8} (hk : 0 ≤ k ∧ k ≤ 11) (h1 : (48 : Int) ≤ b.toNat) (h2 : (b.toNat : Int) ≤ 57) : IntKind.wrap .i64 (k + 1) = k + if dig b = true then 1 else 0 := by
 rw [wrap_in _ (by omega), if_pos (dig_yes h1 h2)]
theorem scanK_no {k : Int} {b : UInt8} (h : ¬ ((48 : Int) ≤ b.toNat ∧ (b.toNat : Int) ≤ 57)) : k = k + if dig b = true then 1 else 0 := by
 rw [if_neg (by rw [dig_no h]; decide), Int.add_zero]
def readF (s : List UInt8) (n : Int) : Int × Bool := if 9 < scanK (s.take 11) ∨ (10 : Int) < s.length ∨ ¬ Lib.itoa n = s then (0, false) else (n, true)
def readD (s : List UInt8) : Int × Bool := readF s (if s.head? = some 45 then -scanN (s.take 11) else scanN (s.take 11))
theorem rd_neg (s : List UInt8) : IntKind.wrap .i64 (0 - scanN (s.take 11)) = -scanN (s.take 11) := by
 have := scan_take (l := s) (i := 11) (by omega)
 rw [wrap_in _ (by omega)]; omega
theorem rd_take {s : List UInt8} {i : Nat} (hi : i ≤ s.length ∧ i ≤ 11) (h : ¬ (i : Int) < s.length ∨ ¬ (i : Int) < 11) : s.take i = s.take 11 := by
 by_cases h1 : i = 11
 · rw [h1]
 · rw [List.take_of_length_le (by omega), List.take_of_length_le (by omega)]
theorem rd_A {s : List UInt8} {y : UInt8} (e : s[Int.toNat 0]? = some y) (h : (y.toNat : Int) = 45) : readD s = readF s (-scanN (s.take 11)) := by
 have : s.head? = some 45 := by
  rw [List.head?_eq_getElem?]
  have h2 : y = 45 := UInt8.toNat_inj.1 (by rw [show (45 : UInt8).toNat = 45 from rfl]; omega)
  rw [← h2]; exact e
 rw [readD, if_pos this]
theorem rd_B {s : List UInt8} {y : UInt8} (e : s[Int.toNat 0]? = some y) (h : ¬ (y.toNat : Int) = 45) : readD s = readF s (scanN (s.take 11)) := by
 have : ¬ s.head? = some 45 := by
  rw [List.head?_eq_getElem?]
  intro e2
  have h3 : s[0]? = some y := e
  rw [h3] at e2
  cases e2
  exact h rfl
 rw [readD, if_neg this]
theorem rd_C {s : List UInt8} (h : ¬ (0 : Int) < s.length) : readD s = readF s (scanN (s.take 11)) := by
 have : s = [] := List.length_eq_zero_iff.1 (by omega)
 subst this; rfl
theorem rd_f {s n} (h : readD s = readF s n) (k : 9 < scanK (s.take 11) ∨ (10 : Int) < s.length ∨ ¬ Lib.itoa n = s) : V.tup [.w (.int .i64 0), .w (.bool false)] = V.tup [.w (.int .i64 (readD s).1), .w (.bool (readD s).2)] := by
 rw [h, readF, if_pos k]
theorem rd_g {s n} (h : readD s = readF s n) (k : ¬ Lib.itoa n = s) : V.tup [.w (.int .i64 0), .w (.bool false)] = V.tup [.w (.int .i64 (readD s).1), .w (.bool (readD s).2)] := rd_f h (.inr (.inr k))
theorem rd_t {s n} (h : readD s = readF s n) (h1 : ¬ 9 < scanK (s.take 11)) (h2 : ¬ (10 : Int) < s.length) (h3 : Lib.itoa n = s) : V.tup [.w (.int .i64 n), .w (.bool true)] = V.tup [.w (.int .i64 (readD s).1), .w (.bool (readD s).2)] := by
 rw [h, readF, if_neg]
 rintro (e | e | e)
 · exact h1 e
 · exact h2 e
 · exact e h3
theorem rd_k {s : List UInt8} (k : 9 < scanK (s.take 11)) : V.tup [.w (.int .i64 0), .w (.bool false)] = V.tup [.w (.int .i64 (readD s).1), .w (.bool (readD s).2)] := rd_f rfl (.inl k)
theorem rd_l {s : List UInt8} (k : (10 : Int) < s.length) : V.tup [.w (.int .i64 0), .w (.bool false)] = V.tup [.w (.int .i64 (readD s).1), .w (.bool (readD s).2)] := rd_f rfl (.inr (.inl k))
theorem scan_digits : ∀ (l : List UInt8) (n : Nat), (∀ b, b ∈ l → dig b = true) → l.foldl scanS (n : Int) = (valN n l : Nat)
 | [], n, _ => rfl
 | b :: l, n, h => by
   have hb := h b (by simp)
   have hb2 := dig_iff.1 hb
   rw [List.foldl_cons, valN_cons, scanS, if_pos hb, ← scan_digits l _ fun x hx => h x (by simp [hx])]
   congr 1; omega
theorem scanK_digits (l : List UInt8) (h : ∀ b, b ∈ l → dig b = true) : l.countP dig = l.length := List.countP_eq_length.2 h
theorem scan_dec (u : Nat) : scanN (Lib.decDigits u) = u := by
 have := scan_digits (Lib.decDigits u) 0 (dec_all u)
 rw [dec_val] at this
 exact this
theorem dig45 : dig 45 = false := rfl
theorem scan_itoa (n : Int) : scanN (Lib.itoa n) = n.natAbs ∧ scanK (Lib.itoa n) = (Lib.decDigits n.natAbs).length ∧ ((Lib.itoa n).head? = some 45 ↔ n < 0) := by
 by_cases h : n < 0
 · rw [itoa_n h]
   refine ⟨?_, ?_, by simp [h]⟩
   · show (Lib.decDigits n.natAbs).foldl scanS (scanS 0 45) = _
     exact scan_dec _
   · simp only [scanK, List.countP_cons, dig45, scanK_digits _ (dec_all _)]; simp
 · rw [itoa_p h]
   refine ⟨scan_dec _, by rw [scanK, scanK_digits _ (dec_all _)], ?_⟩
   obtain ⟨b, r, e, hd⟩ := dec_head n.natAbs
   rw [e]
   simp only [List.head?_cons, Option.some.injEq]
   refine ⟨fun e2 => ?_, fun e2 => absurd e2 h⟩
   subst e2; rw [dig45] at hd; cases hd
def stripM (l : List UInt8) : List UInt8 := match l with
 | 45 :: r => r
 | _ => l
theorem numN_eq (l : List UInt8) (d : Int) : numN l d = match Lib.atoiAll l with
 | .ok v => if Lib.itoa v = l ∧ ((stripM l).length : Int) ≤ d then (v, true) else (0, false)
 | _ => (0, false) := rfl
theorem strip_no {b : UInt8} {r : List UInt8} (h : b ≠ 45) : stripM (b :: r) = b :: r := by
 unfold stripM
 split
 · rename_i e; cases e; exact absurd rfl h
 · rfl
theorem strip_itoa (n : Int) : stripM (Lib.itoa n) = Lib.decDigits n.natAbs := by
 by_cases h : n < 0
 · rw [itoa_n h]; rfl
 · rw [itoa_p h]
   obtain ⟨b, r, e, hd⟩ := dec_head n.natAbs
   rw [e]
   exact strip_no fun e2 => by subst e2; rw [dig45] at hd; cases hd
theorem numN_itoa {n : Int} (hb : -9223372036854775808 ≤ n ∧ n ≤ 9223372036854775807) (d : Int) : numN (Lib.itoa n) d = if ((Lib.decDigits n.natAbs).length : Int) ≤ d then (n, true) else (0, false) := by
 rw [numN_eq, atoi_itoa n hb]
 simp only [true_and]
 rw [strip_itoa]
theorem numN_not {s : List UInt8} (d : Int) (h : ∀ n : Int, -9223372036854775808 ≤ n ∧ n ≤ 9223372036854775807 → ¬ Lib.itoa n = s) : numN s d = (0, false) := by
 rw [numN_eq]
 rcases e : Lib.atoiAll s with v | _ | _
 · skip
   simp only
   rw [if_neg fun hh => h v (Lib.atoiAll_bounds e) hh.1]
 · rfl
 · rfl
theorem itoa_take {n : Int} (h : (Lib.decDigits n.natAbs).length ≤ 9) : (Lib.itoa n).take 11 = Lib.itoa n := by
 refine List.take_of_length_le ?_
 by_cases hn : n < 0
 · rw [itoa_n hn]; simp; omega
 · rw [itoa_p hn]; omega
theorem readD_eq (s : List UInt8) : readD s = numN s 9 := by
 by_cases h : ∃ n : Int, (-9223372036854775808 ≤ n ∧ n ≤ 9223372036854775807) ∧ Lib.itoa n = s
 · obtain ⟨n, hb, rfl⟩ := h
   rw [numN_itoa hb]
   obtain ⟨h1, h2, h3⟩ := scan_itoa n
   have hl : (Lib.itoa n).length = (Lib.decDigits n.natAbs).length + if n < 0 then 1 else 0 := by
    by_cases hn : n < 0
    · rw [itoa_n hn, if_pos hn]; rfl
    · rw [itoa_p hn, if_neg hn]; rfl
   by_cases hd : (Lib.decDigits n.natAbs).length ≤ 9
   · have ht := itoa_take hd
     unfold readD
     simp only [readF, ht, h1, h2]
     have hn : (if (Lib.itoa n).head? = some 45 then -(n.natAbs : Int) else (n.natAbs : Int)) = n := by
      by_cases hneg : n < 0
      · rw [if_pos (h3.2 hneg)]; omega
      · rw [if_neg (fun e => hneg (h3.1 e))]; omega
     rw [hn, if_neg, if_pos (by omega)]
     rintro (e | e | e)
     · omega
     · rw [hl] at e; split at e <;> omega
     · exact e rfl
   · rw [if_neg (by omega)]
     unfold readD
     generalize (if (Lib.itoa n).head? = some 45 then -scanN ((Lib.itoa n).take 11) else scanN ((Lib.itoa n).take 11)) = n'
     unfold readF
     split
     · rfl
     · rename_i hh
       exfalso
       simp only [not_or, Decidable.not_not] at hh
       obtain ⟨g1, g2, g3⟩ := hh
       have ht : (Lib.itoa n).take 11 = Lib.itoa n := List.take_of_length_le (by omega)
       rw [ht, h2] at g1
       omega
 · rw [numN_not 9 fun n hb e => h ⟨n, hb, e⟩]
   unfold readD
   generalize hn' : (if s.head? = some 45 then -scanN (s.take 11) else scanN (s.take 11)) = n'
   unfold readF
   split
   · rfl
   · rename_i hh
     exfalso
     simp only [not_or, Decidable.not_not] at hh
     obtain ⟨g1, g2, g3⟩ := hh
     have := scan_take (l := s) (i := 11) (by omega)
     refine h ⟨_, ?_, g3⟩
     rw [← hn']
     split <;> omega
end Go.Proofs.YtoppcdecolponaaDoor.AL
