/- Texts cut at a byte, and words that are numbers. -/
import Derived.Test.YtoppcdecolponaaGreatDoorWa3
import Derived.Test.YtoppcdecolponaaGreatDoorAlS3
import Derived.KernelRfl
namespace Go.Proofs.YtoppcdecolponaaGreatDoor.AL
open Go
set_option linter.unusedVariables false
def cutL (c : UInt8) : List UInt8 → List (List UInt8)
 | [] => [[]]
 | b :: l => if b = c then [] :: cutL c l else match cutL c l with
   | w :: ws => (b :: w) :: ws
   | [] => [[b]]
theorem cut_ne (c : UInt8) : ∀ (l : List UInt8), cutL c l ≠ []
 | [] => by simp [cutL]
 | b :: l => by
   unfold cutL
   split
   · simp
   · split <;> simp
theorem cut_last {c : UInt8} : ∀ {p : List UInt8}, (∀ b, b ∈ p → b ≠ c) → cutL c p = [p]
 | [], _ => rfl
 | a :: p, h => by
   have := cut_last (p := p) fun b hb => h b (by simp [hb])
   rw [cutL, if_neg (h a (by simp)), this]
theorem cut_at {c : UInt8} : ∀ {p r : List UInt8}, (∀ b, b ∈ p → b ≠ c) → cutL c (p ++ c :: r) = p :: cutL c r
 | [], r, _ => by rw [List.nil_append, cutL, if_pos rfl]
 | a :: p, r, h => by
   have := cut_at (p := p) (r := r) fun b hb => h b (by simp [hb])
   rw [List.cons_append, cutL, if_neg (h a (by simp)), this]
theorem cut_len (c : UInt8) : ∀ (l : List UInt8), (cutL c l).length = l.count c + 1
 | [] => rfl
 | b :: l => by
   have ih := cut_len c l
   unfold cutL
   by_cases h : b = c
   · rw [if_pos h, h, List.count_cons_self, List.length_cons, ih]
   · rw [if_neg h, List.count_cons_of_ne (by simpa using h)]
     split
     · rename_i w ws e; rw [e] at ih; simpa using ih
     · rename_i e; exact absurd e (cut_ne c l)
theorem cut_mem (c : UInt8) : ∀ (l w : List UInt8), w ∈ cutL c l → w.length ≤ l.length
 | [], w, h => by simp [cutL] at h; subst h; simp
 | b :: l, w, h => by
   unfold cutL at h
   split at h
   · simp only [List.mem_cons] at h
     rcases h with rfl | h
     · simp
     · have := cut_mem c l w h; simp; omega
   · split at h
     · rename_i v vs e
       simp only [List.mem_cons] at h
       rcases h with rfl | h
       · have := cut_mem c l v (by rw [e]; simp); simp; omega
       · have := cut_mem c l w (by rw [e]; simp [h]); simp; omega
     · simp only [List.mem_cons, List.not_mem_nil, or_false] at h
       subst h; simp
theorem cut_cnt (c : UInt8) (l : List UInt8) : (cutL c l).length ≤ l.length + 1 := by
 rw [cut_len]; have := List.count_le_length (a := c) (l := l); omega
theorem ix_cases (c : UInt8) : ∀ (l : List UInt8), (Lib.indexByte l c = -1 ∧ ∀ b, b ∈ l → b ≠ c) ∨ ∃ p r, l = p ++ c :: r ∧ (∀ b, b ∈ p → b ≠ c) ∧ Lib.indexByte l c = p.length
 | [] => .inl ⟨rfl, by simp⟩
 | b :: l => by
   by_cases h : b = c
   · subst h
     exact .inr ⟨[], l, rfl, by simp, by simp [Lib.indexByte]⟩
   · have hb : (b == c) = false := beq_eq_false_iff_ne.2 h
     rcases ix_cases c l with ⟨h1, h2⟩ | ⟨p, r, h1, h2, h3⟩
     · refine .inl ⟨by simp [Lib.indexByte, hb, h1], fun x hx => ?_⟩
       simp only [List.mem_cons] at hx
       rcases hx with rfl | hx
       · exact h
       · exact h2 x hx
     · refine .inr ⟨b :: p, r, by rw [h1]; rfl, fun x hx => ?_, ?_⟩
       · simp only [List.mem_cons] at hx
         rcases hx with rfl | hx
         · exact h
         · exact h2 x hx
       · have h4 : ¬ Lib.indexByte l c = -1 := by omega
         simp [Lib.indexByte, hb, h3]
theorem cut_join {c : UInt8} : ∀ {ws : List (List UInt8)}, ws ≠ [] → (∀ w, w ∈ ws → ∀ b, b ∈ w → b ≠ c) → cutL c (Lib.join ws [c]) = ws
 | [], h, _ => absurd rfl h
 | [x], _, h => by rw [Lib.join_one]; exact cut_last (h x (by simp))
 | x :: y :: r, _, h => by
   have ih := cut_join (ws := y :: r) (by simp) fun w hw => h w (by simp [hw])
   have e : Lib.join (x :: y :: r) [c] = x ++ c :: Lib.join (y :: r) [c] := by
    rw [Lib.join_cons, Lib.join_cons]; simp [Lib.joinTail]
   rw [e, cut_at (h x (by simp)), ih]
theorem cutS_no {c : UInt8} {s : List UInt8} {a i : Nat} (h : ∀ b, b ∈ (s.drop a).take (i - a) → b ≠ c) (ha : a ≤ i) (hi : i ≤ s.length) {y : UInt8} (hy : s[i]? = some y) (hne : ¬ y = c) : ∀ b, b ∈ (s.drop a).take (i + 1 - a) → b ≠ c := by
 intro b hb
 have e : i + 1 - a = (i - a) + 1 := by omega
 have hy2 : (s.drop a)[i - a]? = some y := by rw [List.getElem?_drop, show a + (i - a) = i by omega]; exact hy
 rw [e, take_get hy2] at hb
 simp only [List.mem_append, List.mem_cons, List.not_mem_nil, or_false] at hb
 rcases hb with hb | rfl
 · exact h b hb
 · exact hne
theorem cutS_at {c : UInt8} {s : List UInt8} {a i : Nat} (h : ∀ b, b ∈ (s.drop a).take (i - a) → b ≠ c) (ha : a ≤ i) (hy : s[i]? = some c) : cutL c (s.drop a) = (s.drop a).take (i - a) :: cutL c (s.drop (i + 1)) := by
 have hi := (List.getElem?_eq_some_iff.1 hy).1
 have e : s.drop a = (s.drop a).take (i - a) ++ c :: s.drop (i + 1) := by
  have h1 : (s.drop a).drop (i - a) = s.drop i := by rw [List.drop_drop]; congr 1; omega
  have h2 : s.drop i = c :: s.drop (i + 1) := by
   rw [List.drop_eq_getElem_cons hi]; congr 1
   rw [List.getElem?_eq_getElem hi] at hy; exact Option.some.inj hy
  rw [← h2, ← h1, List.take_append_drop]
 conv => lhs; rw [e]
 exact cut_at h
theorem cutS_end {c : UInt8} {s : List UInt8} {a : Nat} (h : ∀ b, b ∈ (s.drop a).take (s.length - a) → b ≠ c) : cutL c (s.drop a) = [s.drop a] := by
 rw [List.take_of_length_le (by simp)] at h
 exact cut_last h
def numS (s : List UInt8) : Int :=
 let neg := s.head? = some 45
 let t := if neg then s.drop 1 else s
 if (t.all fun b => dig b && decide (t.length ≤ 18)) = true then (if neg then -1 else 1) * ((valN 0 t : Nat) : Int) else 0
theorem valN_lt : ∀ (l : List UInt8), (∀ b, b ∈ l → dig b = true) → valN 0 l < 10 ^ l.length := by
 intro l
 suffices h : ∀ (l : List UInt8) (a k : Nat), a < 10 ^ k → (∀ b, b ∈ l → dig b = true) → valN a l < 10 ^ (k + l.length) by
  intro hl; have := h l 0 0 (by decide) hl; simpa using this
 intro l
 induction l with
 | nil => intro a k h _; exact h
 | cons b l ih =>
   intro a k h hd
   have h1 := dig_iff.1 (hd b (by simp))
   rw [valN_cons, List.length_cons, show k + (l.length + 1) = (k + 1) + l.length by omega]
   refine ih _ _ ?_ fun x hx => hd x (by simp [hx])
   rw [Nat.pow_succ]; omega
theorem numS_itoa {n : Int} (h : (Lib.decDigits n.natAbs).length ≤ 18) : numS (Lib.itoa n) = n := by
 have hall : ∀ t, t = Lib.decDigits n.natAbs → (t.all fun b => dig b && decide (t.length ≤ 18)) = true := by
  intro t e; subst e
  rw [List.all_eq_true]
  intro b hb
  rw [dec_all _ b hb, decide_eq_true h]; rfl
 by_cases hn : n < 0
 · rw [itoa_n hn]
   unfold numS
   simp only [List.head?_cons, if_true, List.drop_succ_cons, List.drop_zero]
   rw [if_pos (hall _ rfl), dec_val]
   omega
 · rw [itoa_p hn]
   obtain ⟨b, r, e, hd⟩ := dec_head n.natAbs
   have h0 : ¬ (Lib.decDigits n.natAbs).head? = some 45 := by
    rw [e]; simp only [List.head?_cons, Option.some.injEq]
    intro e2; subst e2; rw [dig45] at hd; cases hd
   unfold numS
   simp only [if_neg h0]
   rw [if_pos (hall _ rfl), dec_val]
   omega
theorem itoa_byte {n : Int} {b : UInt8} (h : b ∈ Lib.itoa n) : b = 45 ∨ dig b = true := by
 by_cases hn : n < 0
 · rw [itoa_n hn] at h
   simp only [List.mem_cons] at h
   rcases h with h | h
   · exact .inl h
   · exact .inr (dec_all _ b h)
 · rw [itoa_p hn] at h; exact .inr (dec_all _ b h)
theorem itoa_no32 {n : Int} : ∀ b, b ∈ Lib.itoa n → b ≠ 32 := by
 intro b hb e
 subst e
 rcases itoa_byte hb with h | h
 · cases h
 · cases h
theorem itoa_not {n : Int} {b : UInt8} {r : List UInt8} (hb : b ≠ 45) (hd : dig b = false) : ¬ Lib.itoa n = b :: r := by
 intro e
 rcases itoa_byte (n := n) (b := b) (by rw [e]; simp) with h | h
 · exact hb h
 · rw [hd] at h; cases h
theorem u8_32 {y : UInt8} (h : (y.toNat : Int) = 32) : y = 32 := UInt8.toNat_inj.1 (by rw [show (32 : UInt8).toNat = 32 from rfl]; omega)
theorem u8_n32 {y : UInt8} (h : ¬ (y.toNat : Int) = 32) : ¬ y = 32 := fun e => h (by rw [e]; rfl)
def CutI (s : List UInt8) (out : List (List UInt8)) (a i : Nat) : Prop := a ≤ i ∧ i ≤ s.length ∧ (∀ b, b ∈ (s.drop a).take (i - a) → b ≠ 32) ∧ out ++ cutL 32 (s.drop a) = cutL 32 s
theorem CutI.start (s : List UInt8) : CutI s [] 0 0 := ⟨Nat.le_refl _, Nat.zero_le _, by simp, by simp⟩
theorem CutI.len {s out a i} (h : CutI s out a i) : out.length ≤ s.length := by
 have h1 := congrArg List.length h.2.2.2
 rw [List.length_append] at h1
 have h2 := cut_cnt 32 s
 have h3 : 0 < (cutL 32 (s.drop a)).length := List.length_pos_iff.2 (cut_ne _ _)
 omega
theorem CutI.no {s out a i} {y : UInt8} (h : CutI s out a i) (hy : s[i]? = some y) (hn : ¬ (y.toNat : Int) = 32) : CutI s out a (i + 1) :=
 ⟨by have := h.1; omega, by have := (List.getElem?_eq_some_iff.1 hy).1; omega, cutS_no h.2.2.1 h.1 h.2.1 hy (u8_n32 hn), h.2.2.2⟩
theorem cut_form (s : List UInt8) (a i : Nat) : (s.take ((i : Int)).toNat).drop ((a : Int)).toNat = (s.drop a).take (i - a) := by
 rw [Int.toNat_natCast, Int.toNat_natCast, List.drop_take]
theorem CutI.yes {s out a i} {y : UInt8} (h : CutI s out a i) (hy : s[i]? = some y) (hn : (y.toNat : Int) = 32) : CutI s (out ++ [(s.take ((i : Int)).toNat).drop ((a : Int)).toNat]) (i + 1) (i + 1) := by
 have := u8_32 hn
 subst this
 refine ⟨Nat.le_refl _, by have := (List.getElem?_eq_some_iff.1 hy).1; omega, by simp, ?_⟩
 rw [cut_form, List.append_assoc, List.singleton_append, ← cutS_at h.2.2.1 h.1 hy]; exact h.2.2.2
theorem CutI.stop {s out a i} (h : CutI s out a i) (hi : ¬ (i : Int) < s.length) : out ++ [(s.take ((s.length : Int)).toNat).drop ((a : Int)).toNat] = cutL 32 s := by
 have e : i = s.length := by have := h.2.1; omega
 subst e
 have h1 := cutS_end h.2.2.1
 rw [cut_form, List.take_of_length_le (by simp), ← h.2.2.2, h1]
theorem stR_snoc (out : List (List UInt8)) (w : List UInt8) : (out ++ [w]).map stR = out.map stR ++ [[.w (.string ⟨w.toArray⟩)]] := by rw [List.map_append]; rfl
def NumI (t : List UInt8) (i : Nat) : Prop := i ≤ t.length ∧ (∀ b, b ∈ t.take i → dig b = true) ∧ (i = 0 ∨ t.length ≤ 18)
theorem NumI.bd {t i} (h : NumI t i) : valN 0 (t.take i) < 1000000000000000000 := by
 have h1 := valN_lt (t.take i) h.2.1
 have h2 : (t.take i).length ≤ 18 := by
  rw [List.length_take]
  rcases h.2.2 with h3 | h3 <;> omega
 have h3 : 10 ^ (t.take i).length ≤ 10 ^ 18 := Nat.pow_le_pow_right (by decide) h2
 have h4 : (10 : Nat) ^ 18 = 1000000000000000000 := by decide
 omega
theorem NumI.bd17 {t i} (h : NumI t i) (hi : i < t.length) (hl : t.length ≤ 18) : valN 0 (t.take i) < 100000000000000000 := by
 have h1 := valN_lt (t.take i) h.2.1
 have h2 : (t.take i).length ≤ 17 := by rw [List.length_take]; omega
 have h3 : 10 ^ (t.take i).length ≤ 10 ^ 17 := Nat.pow_le_pow_right (by decide) h2
 have h4 : (10 : Nat) ^ 17 = 100000000000000000 := by decide
 omega
theorem NumI.next {t i} {y : UInt8} (h : NumI t i) (hy : t[i]? = some y) (h1 : ¬ (y.toNat : Int) < 48) (h2 : ¬ (57 : Int) < y.toNat) (hl : ¬ (18 : Int) < t.length) : NumI t (i + 1) ∧ ((valN 0 (t.take (i + 1)) : Nat) : Int) = ((valN 0 (t.take i) : Nat) : Int) * 10 + (y.toNat : Int) - 48 := by
 have hlt := (List.getElem?_eq_some_iff.1 hy).1
 have hd : dig y = true := dig_iff.2 ⟨by omega, by omega⟩
 refine ⟨⟨by omega, fun b hb => ?_, .inr (by omega)⟩, ?_⟩
 · rw [take_get hy] at hb
   simp only [List.mem_append, List.mem_cons, List.not_mem_nil, or_false] at hb
   rcases hb with hb | rfl
   · exact h.2.1 b hb
   · exact hd
 · rw [take_get hy, valN_app, valN_cons, valN_nil]; omega
theorem num_bad {t : List UInt8} {i : Nat} {y : UInt8} (hy : t[i]? = some y) (h : (y.toNat : Int) < 48 ∨ (57 : Int) < y.toNat ∨ (18 : Int) < t.length) : ¬ (t.all fun b => dig b && decide (t.length ≤ 18)) = true := by
 rw [List.all_eq_true]
 intro k
 have := k y (List.mem_of_getElem? hy)
 simp only [Bool.and_eq_true, decide_eq_true_eq] at this
 have hd := dig_iff.1 this.1
 omega
theorem num_good {t : List UInt8} {i : Nat} (h : NumI t i) (hi : ¬ (i : Int) < t.length) : (t.all fun b => dig b && decide (t.length ≤ 18)) = true := by
 have e : i = t.length := by have := h.1; omega
 subst e
 have h2 := h.2.1
 rw [List.take_of_length_le (Nat.le_refl _)] at h2
 rw [List.all_eq_true]
 intro b hb
 rw [h2 b hb, Bool.true_and, decide_eq_true_eq]
 rcases h.2.2 with h3 | h3
 · omega
 · exact h3
def tailN (s : List UInt8) : List UInt8 := (s.take ((s.length : Int)).toNat).drop (Int.toNat 1)
theorem tailN_len {s : List UInt8} (h : s.length ≤ 1048576) : (tailN s).length ≤ 1048576 := by
 unfold tailN; rw [List.length_drop, List.length_take]; have : s.length - 0 = s.length := rfl
 exact Nat.le_trans (Nat.sub_le _ _) (Nat.le_trans (Nat.min_le_right _ _) h)
theorem numS_neg {s : List UInt8} {y : UInt8} (e : s[Int.toNat 0]? = some y) (h : (y.toNat : Int) = 45) : numS s = if ((tailN s).all fun b => dig b && decide ((tailN s).length ≤ 18)) = true then -1 * ((valN 0 (tailN s) : Nat) : Int) else 0 := by
 have h0 : s.head? = some 45 := by
  rw [List.head?_eq_getElem?]
  have h2 : y = 45 := UInt8.toNat_inj.1 (by rw [show (45 : UInt8).toNat = 45 from rfl]; omega)
  rw [← h2]; exact e
 have et : s.drop 1 = tailN s := by unfold tailN; rw [Int.toNat_natCast, List.take_of_length_le (Nat.le_refl _)]; rfl
 unfold numS
 simp only [h0, if_true, et]
theorem numS_pos {s : List UInt8} {y : UInt8} (e : s[Int.toNat 0]? = some y) (h : ¬ (y.toNat : Int) = 45) : numS s = if (s.all fun b => dig b && decide (s.length ≤ 18)) = true then 1 * ((valN 0 s : Nat) : Int) else 0 := by
 have h0 : ¬ s.head? = some 45 := by
  rw [List.head?_eq_getElem?]
  intro e2
  have h3 : s[0]? = some y := e
  rw [h3] at e2
  cases e2
  exact h rfl
 unfold numS
 simp only [if_neg h0]
theorem numS_nil {s : List UInt8} (h : ¬ (0 : Int) < s.length) : numS s = if (s.all fun b => dig b && decide (s.length ≤ 18)) = true then 1 * ((valN 0 s : Nat) : Int) else 0 := by
 have : s = [] := List.length_eq_zero_iff.1 (by omega)
 subst this; rfl
theorem numS_0 {s t : List UInt8} {g : Int} {i : Nat} {y : UInt8} (hs : numS s = if (t.all fun b => dig b && decide (t.length ≤ 18)) = true then g * ((valN 0 t : Nat) : Int) else 0) (hy : t[i]? = some y) (h : (y.toNat : Int) < 48 ∨ (57 : Int) < y.toNat ∨ (18 : Int) < t.length) : V.w (.int .i64 0) = V.w (.int .i64 (numS s)) := by
 rw [hs, if_neg (num_bad hy h)]
theorem numS_1 {s t : List UInt8} {g : Int} {i : Nat} (hs : numS s = if (t.all fun b => dig b && decide (t.length ≤ 18)) = true then g * ((valN 0 t : Nat) : Int) else 0) (h : NumI t i) (hi : ¬ (i : Int) < t.length) : V.w (.int .i64 (g * ((valN 0 (t.take i) : Nat) : Int))) = V.w (.int .i64 (numS s)) := by
 rw [hs, if_pos (num_good h hi), List.take_of_length_le (by omega)]
def SplI (c : UInt8) (s : List UInt8) (i : Nat) (cur : List UInt8) : Prop := (cutL c s).drop i = cutL c cur ∧ cur.length ≤ s.length
theorem SplI.start (c : UInt8) (s : List UInt8) : SplI c s 0 s := ⟨rfl, Nat.le_refl _⟩
theorem SplI.lt {c s i cur} (h : SplI c s i cur) : i < (cutL c s).length := by
 rcases Nat.lt_or_ge i (cutL c s).length with h1 | h1
 · exact h1
 · have h2 := h.1
   rw [List.drop_eq_nil_of_le h1] at h2
   exact absurd h2.symm (cut_ne c cur)
theorem SplI.cnt {c s i cur} (h : SplI c s i cur) : (cutL c s).length = i + (cutL c cur).length := by
 have h1 := congrArg List.length h.1
 rw [List.length_drop] at h1
 have := h.lt
 omega
theorem SplI.next {c s i cur} (h : SplI c s i cur) (hi : (i : Int) < ((cutL c s).length : Int) - 1) : ∃ p r, cur = p ++ c :: r ∧ Lib.indexByte cur c = (p.length : Int) ∧ cur.length = p.length + 1 + r.length ∧ (cutL c s)[i]? = some p ∧ SplI c s (i + 1) r := by
 have hc := h.cnt
 rcases ix_cases c cur with ⟨_, h2⟩ | ⟨p, r, h1, h2, h3⟩
 · rw [cut_last h2] at hc; simp only [List.length_cons, List.length_nil] at hc; omega
 · have e : cutL c cur = p :: cutL c r := by rw [h1, cut_at h2]
   have hl : cur.length = p.length + 1 + r.length := by rw [h1]; simp; omega
   have h4 := h.1
   rw [e] at h4
   refine ⟨p, r, h1, h3, hl, ?_, ?_, by have := h.2; omega⟩
   · have := congrArg (fun l => l[0]?) h4
     simpa using this
   · have := congrArg (fun l => l.drop 1) h4
     simpa [List.drop_drop] using this
theorem SplI.last {c s i cur} (h : SplI c s i cur) (hi : ¬ (i : Int) < ((cutL c s).length : Int) - 1) : (cutL c s)[i]? = some cur ∧ (cutL c s).length = i + 1 := by
 have hc := h.cnt
 have hl := h.lt
 have h1 : (cutL c cur).length = 1 := by
  have : 0 < (cutL c cur).length := List.length_pos_iff.2 (cut_ne c cur)
  omega
 have e : cutL c cur = [cur] := by
  rcases ix_cases c cur with ⟨_, h2⟩ | ⟨p, r, h2, h3, _⟩
  · exact cut_last h2
  · rw [h2, cut_at h3] at h1
    have : 0 < (cutL c r).length := List.length_pos_iff.2 (cut_ne c r)
    simp only [List.length_cons] at h1; omega
 have h4 := h.1
 rw [e] at h4
 refine ⟨?_, by omega⟩
 have := congrArg (fun l => l[0]?) h4
 simpa using this
theorem spl_piece {c : UInt8} {cur p r : List UInt8} (h : cur = p ++ c :: r) : (cur.take (((p.length : Nat) : Int) + 0).toNat).drop (((0 : Nat) : Int)).toNat = p := by
 rw [h, show (((p.length : Nat) : Int) + 0).toNat = p.length by omega, List.take_left' rfl]; rfl
theorem spl_rest {c : UInt8} {cur p r : List UInt8} (h : cur = p ++ c :: r) : (cur.take (((cur.length : Nat) : Int)).toNat).drop (((p.length : Nat) : Int) + 1).toNat = r := by
 rw [Int.toNat_natCast, List.take_of_length_le (Nat.le_refl _), h]
 rw [show (((p.length : Nat) : Int) + 1).toNat = p.length + 1 by omega, ← List.drop_drop, List.drop_left' rfl]; rfl
theorem one_len (c : UInt8) : ((([c] : List UInt8).length : Nat) : Int) = 1 := rfl
theorem spl_min {c : UInt8} {s : List UInt8} : minL (((Lib.countByte s c : Nat) : Int) + 1) [((s.length : Nat) : Int) + 1] = (((cutL c s).length : Nat) : Int) := by
 have h1 := cut_len c s
 have h2 := List.count_le_length (a := c) (l := s)
 show (if ((s.length : Nat) : Int) + 1 < ((Lib.countByte s c : Nat) : Int) + 1 then _ else _) = _
 have e : Lib.countByte s c = s.count c := rfl
 rw [e, if_neg (by omega), h1]; omega
end Go.Proofs.YtoppcdecolponaaGreatDoor.AL
namespace Go.Proofs.YtoppcdecolponaaGreatDoor.AL
open Go
def F21 : Fnc := ⟨(.seq (.rg [p 4 (.mv (.k (.bool false)))])
 (.seq (.rg [p 5 (.mv (.t 1)),
 p 6 (.call 103 [(.t 5), (.k (.int .i64 0)), (.k (.int .i64 2))]),
 p 7 (.mv (.t 6)),
 ⟨(some 8), .mv (.t 0), (some (7, true)), false⟩,
 ⟨(some 9), .bin .geq (.t 8) (.k (.int .i64 0)), (some (7, true)), false⟩,
 p 10 (.pick (.t 7) (.t 9) (.k (.bool false))),
 p 11 (.mv (.t 10)),
 ⟨(some 12), .mv (.t 0), (some (11, true)), false⟩,
 ⟨(some 13), .mv (.t 1), (some (11, true)), false⟩,
 ⟨(some 14), .call 33 [(.t 13)], (some (11, true)), false⟩,
 ⟨(some 15), .bin .rem (.t 12) (.t 14), (some (11, true)), false⟩,
 ⟨(some 16), .bin .eql (.t 15) (.k (.int .i64 0)), (some (11, true)), false⟩,
 p 17 (.pick (.t 11) (.t 16) (.k (.bool false))),
 p 4 (.mv (.t 17))])
 .ret)),
 [.tmp 4]⟩
def F22 : Fnc := ⟨(.seq (.rg [p 2 (.mv (.k (.int .i64 0)))])
 (.seq (.seq (.rg [p 3 (.mv (.t 0)),
 p 4 (.call 103 [(.t 3), (.k (.int .i64 0)), (.k (.int .i64 3))]),
 p 5 (.not (.t 4))])
 (.cond (.t 5) (.seq (.rg [p 2 (.mv (.k (.int .i64 0)))])
 .ret)
 .skip))
 (.seq (.rg [p 6 (.bs 1 4 [.int .i64 0] [(0, (.k (.int .i64 1))), (1, (.k (.int .i64 4))), (2, (.k (.int .i64 4))), (3, (.k (.int .i64 8)))]),
 p 7 (.mv (.t 0)),
 p 8 (.ia 1 (.t 6) (.t 7)),
 p 9 (.ld (.t 8)),
 p 2 (.mv (.t 9))])
 .ret))),
 [.tmp 2]⟩
def F29 : Fnc := ⟨(.seq (.rg [p 6 (.mv (.k (.slice none 0 0)))])
 (.seq (.rg [p 9 (.bs 1 0 [.int .i64 0] []),
 p 7 (.mv (.t 9))])
 (.seq (.seq (.rg [p 10 (.mv (.t 2)),
 p 11 (.call 22 [(.t 10)]),
 p 12 (.mv (.k (.int .i64 0)))])
 (.block 0 (.loop (.seq (.rg [p 13 (.bin .lss (.t 12) (.t 11))])
 (.seq (.cond (.t 13) .skip
 (.exit 0))
 (.seq (.block 1 (.seq (.rg [p 14 (.mv (.t 0)),
 p 15 (.mv (.t 1)),
 p 16 (.mv (.t 2)),
 p 17 (.call 60 [(.t 14), (.t 15), (.t 16)]),
 p 8 (.mv (.t 17))])
 (.seq (.seq (.rg [p 18 (.mv (.t 8)),
 p 19 (.bin .lss (.t 18) (.k (.int .i64 0)))])
 (.cond (.t 19) (.seq (.rg [p 6 (.mv (.k (.slice none 0 0)))])
 .ret)
 .skip))
 (.seq (.rg [p 20 (.mv (.t 7)),
 p 21 (.mv (.t 0)),
 p 22 (.bs 1 1 [.int .i64 0] [(0, (.t 21))]),
 p 23 (.app 1 8 (.t 20) (.t 22)),
 p 7 (.mv (.t 23))])
 (.rg [p 24 (.mv (.t 8)),
 p 0 (.mv (.t 24))])))))
 (.rg [p 25 (.bin .add (.t 12) (.k (.int .i64 1))),
 p 12 (.mv (.t 25))])))))))
 (.seq (.rg [p 26 (.mv (.t 7)),
 p 6 (.mv (.t 26))])
 .ret)))),
 [.tmp 6]⟩
def F30 : Fnc := ⟨(.seq (.rg [p 6 (.mv (.k (.bool false)))])
 (.seq (.rg [p 10 (.mv (.t 0)),
 p 11 (.mv (.t 1)),
 p 12 (.mv (.t 2)),
 p 13 (.call 29 [(.t 10), (.t 11), (.t 12)]),
 p 7 (.mv (.t 13))])
 (.seq (.seq (.rg [p 14 (.mv (.t 7)),
 p 15 (.len (.t 14)),
 p 16 (.mv (.k (.int .i64 0)))])
 (.block 0 (.loop (.seq (.rg [p 17 (.bin .lss (.t 16) (.t 15))])
 (.seq (.cond (.t 17) .skip
 (.exit 0))
 (.seq (.block 1 (.seq (.rg [p 18 (.ia 1 (.t 14) (.t 16)),
 p 19 (.ld (.t 18)),
 p 9 (.mv (.t 19))])
 (.seq (.rg [p 20 (.mv (.t 9)),
 p 21 (.bin .quo (.t 20) (.k (.int .i64 64))),
 p 22 (.mv (.t 7)),
 p 23 (.ia 1 (.t 22) (.k (.int .i64 0))),
 p 24 (.ld (.t 23)),
 p 25 (.bin .quo (.t 24) (.k (.int .i64 64))),
 p 26 (.bin .neq (.t 21) (.t 25))])
 (.cond (.t 26) (.seq (.rg [p 6 (.mv (.k (.bool false)))])
 .ret)
 .skip))))
 (.rg [p 27 (.bin .add (.t 16) (.k (.int .i64 1))),
 p 16 (.mv (.t 27))])))))))
 (.seq (.rg [p 28 (.mv (.t 7)),
 p 29 (.len (.t 28)),
 p 30 (.bin .gtr (.t 29) (.k (.int .i64 0))),
 p 6 (.mv (.t 30))])
 .ret)))),
 [.tmp 6]⟩
def F33 : Fnc := ⟨(.seq (.rg [p 2 (.mv (.k (.int .i64 0)))])
 (.seq (.seq (.rg [p 3 (.mv (.t 0)),
 p 4 (.call 103 [(.t 3), (.k (.int .i64 0)), (.k (.int .i64 2))]),
 p 5 (.not (.t 4))])
 (.cond (.t 5) (.seq (.rg [p 2 (.mv (.k (.int .i64 0)))])
 .ret)
 .skip))
 (.seq (.rg [p 6 (.mv (.t 0)),
 p 7 (.bin .shl (.k (.int .i64 1)) (.t 6)),
 p 2 (.mv (.t 7))])
 .ret))),
 [.tmp 2]⟩
def F38 : Fnc := ⟨(.seq (.rg [p 2 (.mv (.k (.string ⟨#[]⟩)))])
 (.seq (.rg [p 3 (.mv (.t 0)),
 p 4 (.call 272 [(.t 3)]),
 p 2 (.mv (.t 4))])
 .ret)),
 [.tmp 2]⟩
def F51 : Fnc := ⟨(.seq (.rg [p 2 (.mv (.k (.int .i64 0)))])
 (.seq (.seq (.rg [p 3 (.mv (.t 0)),
 p 4 (.call 33 [(.t 3)]),
 p 5 (.bin .eql (.t 4) (.k (.int .i64 0)))])
 (.cond (.t 5) (.seq (.rg [p 2 (.mv (.k (.int .i64 0)))])
 .ret)
 .skip))
 (.seq (.rg [p 6 (.mv (.t 0)),
 p 7 (.call 33 [(.t 6)]),
 p 8 (.bin .mul (.k (.int .i64 8)) (.t 7)),
 p 9 (.bin .shl (.k (.int .i64 1)) (.t 8)),
 p 2 (.mv (.t 9))])
 .ret))),
 [.tmp 2]⟩
def F60 : Fnc := ⟨(.seq (.rg [p 6 (.mv (.k (.int .i64 0)))])
 (.seq (.seq (.rg [p 9 (.mv (.t 0)),
 p 10 (.mv (.t 1)),
 p 11 (.call 21 [(.t 9), (.t 10)]),
 p 12 (.not (.t 11)),
 p 13 (.mv (.t 12)),
 ⟨(some 14), .mv (.t 0), (some (13, false)), false⟩,
 ⟨(some 15), .bin .geq (.t 14) (.k (.int .i64 512)), (some (13, false)), false⟩,
 p 16 (.pick (.t 13) (.k (.bool true)) (.t 15)),
 p 17 (.mv (.t 16)),
 ⟨(some 18), .mv (.t 2), (some (17, false)), false⟩,
 ⟨(some 19), .call 22 [(.t 18)], (some (17, false)), false⟩,
 ⟨(some 20), .bin .eql (.t 19) (.k (.int .i64 0)), (some (17, false)), false⟩,
 p 21 (.pick (.t 17) (.k (.bool true)) (.t 20))])
 (.cond (.t 21) (.seq (.rg [p 6 (.mv (.k (.int .i64 (-1))))])
 .ret)
 .skip))
 (.seq (.rg [p 22 (.mv (.t 0)),
 p 23 (.mv (.t 1)),
 p 24 (.call 33 [(.t 23)]),
 p 25 (.bin .add (.t 22) (.t 24)),
 p 26 (.mv (.t 1)),
 p 27 (.call 33 [(.t 26)]),
 p 28 (.bin .mul (.k (.int .i64 4)) (.t 27)),
 p 7 (.mv (.t 25)),
 p 8 (.mv (.t 28))])
 (.seq (.seq (.rg [p 29 (.mv (.t 2)),
 p 30 (.bin .eql (.t 29) (.k (.int .i64 2))),
 p 31 (.mv (.t 30)),
 ⟨(some 32), .mv (.t 7), (some (31, true)), false⟩,
 ⟨(some 33), .mv (.t 8), (some (31, true)), false⟩,
 ⟨(some 34), .bin .rem (.t 32) (.t 33), (some (31, true)), false⟩,
 ⟨(some 35), .bin .eql (.t 34) (.k (.int .i64 0)), (some (31, true)), false⟩,
 p 36 (.pick (.t 31) (.t 35) (.k (.bool false)))])
 (.cond (.t 36) (.rg [p 37 (.mv (.t 7)),
 p 38 (.mv (.t 8)),
 p 39 (.bin .sub (.t 37) (.t 38)),
 p 7 (.mv (.t 39))])
 .skip))
 (.seq (.rg [p 40 (.mv (.t 7)),
 p 6 (.mv (.t 40))])
 .ret))))),
 [.tmp 6]⟩
def F66 : Fnc := ⟨(.seq (.rg [p 1 (.box (.t 0)),
 p 2 (.mv (.k (.bool false)))])
 (.seq (.rg [p 3 (.mv (.k (.int .i64 0)))])
 (.seq (.seq (.rg [p 4 (.fa 0 (.t 1)),
 p 5 (.ld (.t 4))])
 (.cond (.t 5) (.rg [p 6 (.fa 3 (.t 1)),
 p 7 (.ld (.t 6)),
 p 8 (.call 22 [(.t 7)]),
 p 3 (.mv (.t 8))])
 .skip))
 (.seq (.rg [p 9 (.fa 1 (.t 1)),
 p 10 (.ld (.t 9)),
 p 11 (.fa 2 (.t 1)),
 p 12 (.ld (.t 11)),
 p 13 (.fa 3 (.t 1)),
 p 14 (.ld (.t 13)),
 p 15 (.call 30 [(.t 10), (.t 12), (.t 14)]),
 p 16 (.mv (.t 15)),
 ⟨(some 17), .fa 5 (.t 1), (some (16, true)), false⟩,
 ⟨(some 18), .ld (.t 17), (some (16, true)), false⟩,
 ⟨(some 19), .len (.t 18), (some (16, true)), false⟩,
 ⟨(some 20), .mv (.t 3), (some (16, true)), false⟩,
 ⟨(some 21), .bin .eql (.t 19) (.t 20), (some (16, true)), false⟩,
 p 22 (.pick (.t 16) (.t 21) (.k (.bool false))),
 p 23 (.mv (.t 22)),
 ⟨(some 24), .fa 5 (.t 1), (some (23, true)), false⟩,
 ⟨(some 25), .ld (.t 24), (some (23, true)), false⟩,
 ⟨(some 26), .fn 67 [(.t 1)], (some (23, true)), false⟩,
 ⟨(some 27), .call 257 [(.t 25), (.t 26)], (some (23, true)), false⟩,
 ⟨(some 28), .not (.t 27), (some (23, true)), false⟩,
 p 29 (.pick (.t 23) (.t 28) (.k (.bool false))),
 p 2 (.mv (.t 29))])
 .ret)))),
 [.tmp 2]⟩
def F67 : Fnc := ⟨(.seq (.rg [p 3 (.mv (.k (.bool false)))])
 (.seq (.rg [p 4 (.mv (.t 0)),
 p 5 (.fa 2 (.t 1)),
 p 6 (.ld (.t 5)),
 p 7 (.call 92 [(.t 4), (.t 6)]),
 p 8 (.not (.t 7)),
 p 3 (.mv (.t 8))])
 .ret)),
 [.tmp 3]⟩
def F71 : Fnc := ⟨(.seq (.rg [p 2 (.box (.t 0)),
 p 3 (.box (.t 1)),
 p 4 (.mv (.k (.bool false)))])
 (.seq (.rg [p 5 (.fa 0 (.t 2)),
 p 6 (.ld (.t 5)),
 p 7 (.fa 0 (.t 3)),
 p 8 (.ld (.t 7)),
 p 9 (.eqb false (.t 6) (.t 8)),
 p 10 (.mv (.t 9)),
 ⟨(some 11), .fa 1 (.t 2), (some (10, true)), false⟩,
 ⟨(some 12), .ld (.t 11), (some (10, true)), false⟩,
 ⟨(some 13), .fa 1 (.t 3), (some (10, true)), false⟩,
 ⟨(some 14), .ld (.t 13), (some (10, true)), false⟩,
 ⟨(some 15), .bin .eql (.t 12) (.t 14), (some (10, true)), false⟩,
 p 16 (.pick (.t 10) (.t 15) (.k (.bool false))),
 p 17 (.mv (.t 16)),
 ⟨(some 18), .fa 2 (.t 2), (some (17, true)), false⟩,
 ⟨(some 19), .ld (.t 18), (some (17, true)), false⟩,
 ⟨(some 20), .fa 2 (.t 3), (some (17, true)), false⟩,
 ⟨(some 21), .ld (.t 20), (some (17, true)), false⟩,
 ⟨(some 22), .bin .eql (.t 19) (.t 21), (some (17, true)), false⟩,
 p 23 (.pick (.t 17) (.t 22) (.k (.bool false))),
 p 24 (.mv (.t 23)),
 ⟨(some 25), .fa 3 (.t 2), (some (24, true)), false⟩,
 ⟨(some 26), .ld (.t 25), (some (24, true)), false⟩,
 ⟨(some 27), .fa 3 (.t 3), (some (24, true)), false⟩,
 ⟨(some 28), .ld (.t 27), (some (24, true)), false⟩,
 ⟨(some 29), .bin .eql (.t 26) (.t 28), (some (24, true)), false⟩,
 p 30 (.pick (.t 24) (.t 29) (.k (.bool false))),
 p 31 (.mv (.t 30)),
 ⟨(some 32), .fa 4 (.t 2), (some (31, true)), false⟩,
 ⟨(some 33), .ld (.t 32), (some (31, true)), false⟩,
 ⟨(some 34), .fa 4 (.t 3), (some (31, true)), false⟩,
 ⟨(some 35), .ld (.t 34), (some (31, true)), false⟩,
 ⟨(some 36), .eqb false (.t 33) (.t 35), (some (31, true)), false⟩,
 p 37 (.pick (.t 31) (.t 36) (.k (.bool false))),
 p 38 (.mv (.t 37)),
 ⟨(some 39), .fa 5 (.t 2), (some (38, true)), false⟩,
 ⟨(some 40), .ld (.t 39), (some (38, true)), false⟩,
 ⟨(some 41), .fa 5 (.t 3), (some (38, true)), false⟩,
 ⟨(some 42), .ld (.t 41), (some (38, true)), false⟩,
 ⟨(some 43), .call 264 [(.t 40), (.t 42)], (some (38, true)), false⟩,
 p 44 (.pick (.t 38) (.t 43) (.k (.bool false))),
 p 4 (.mv (.t 44))])
 .ret)),
 [.tmp 4]⟩
def F84 : Fnc := ⟨(.seq (.rg [p 2 (.mv (.k (.slice none 0 0)))])
 (.seq (.rg [p 6 (.bs 1 0 [.string ⟨#[]⟩] []),
 p 3 (.mv (.t 6))])
 (.seq (.seq (.rg [p 7 (.mv (.t 0)),
 p 8 (.len (.t 7)),
 p 9 (.mv (.k (.int .i64 0)))])
 (.block 0 (.loop (.seq (.rg [p 10 (.bin .lss (.t 9) (.t 8))])
 (.seq (.cond (.t 10) .skip
 (.exit 0))
 (.seq (.block 1 (.seq (.rg [p 11 (.ia 1 (.t 7) (.t 9)),
 p 12 (.ld (.t 11)),
 p 5 (.mv (.t 12))])
 (.rg [p 13 (.mv (.t 3)),
 p 14 (.mv (.t 5)),
 p 15 (.call 38 [(.t 14)]),
 p 16 (.bs 1 1 [.string ⟨#[]⟩] [(0, (.t 15))]),
 p 17 (.app 1 16 (.t 13) (.t 16)),
 p 3 (.mv (.t 17))])))
 (.rg [p 18 (.bin .add (.t 9) (.k (.int .i64 1))),
 p 9 (.mv (.t 18))])))))))
 (.seq (.rg [p 19 (.mv (.t 3)),
 p 2 (.mv (.t 19))])
 .ret)))),
 [.tmp 2]⟩
def F92 : Fnc := ⟨(.seq (.rg [p 4 (.mv (.k (.bool false)))])
 (.seq (.rg [p 5 (.mv (.t 0)),
 p 6 (.mv (.t 1)),
 p 7 (.call 51 [(.t 6)]),
 p 8 (.bin .sub (.t 7) (.k (.int .i64 1))),
 p 9 (.call 103 [(.t 5), (.k (.int .i64 0)), (.t 8)]),
 p 4 (.mv (.t 9))])
 .ret)),
 [.tmp 4]⟩
def F103 : Fnc := ⟨(.seq (.rg [p 6 (.mv (.k (.bool false)))])
 (.seq (.rg [p 7 (.mv (.t 1)),
 p 8 (.mv (.t 0)),
 p 9 (.bin .leq (.t 7) (.t 8)),
 p 10 (.mv (.t 9)),
 ⟨(some 11), .mv (.t 0), (some (10, true)), false⟩,
 ⟨(some 12), .mv (.t 2), (some (10, true)), false⟩,
 ⟨(some 13), .bin .leq (.t 11) (.t 12), (some (10, true)), false⟩,
 p 14 (.pick (.t 10) (.t 13) (.k (.bool false))),
 p 6 (.mv (.t 14))])
 .ret)),
 [.tmp 6]⟩
def F123 : Fnc := ⟨(.seq (.rg [p 2 (.mv (.k (.bool false)))])
 (.seq (.rg [p 3 (.mv (.t 0)),
 p 4 (.len (.t 3)),
 p 5 (.bin .gtr (.t 4) (.k (.int .i64 1048576))),
 p 2 (.mv (.t 5))])
 .ret)),
 [.tmp 2]⟩
def F172 : Fnc := ⟨(.seq (.rg [p 4 (.mv (.k (.bool false)))])
 (.seq (.rg [p 5 (.mv (.t 1)),
 p 6 (.call 183 [(.t 5)]),
 p 7 (.bin .gtr (.t 6) (.k (.int .i64 0))),
 p 8 (.mv (.t 7)),
 ⟨(some 9), .mv (.t 0), (some (8, true)), false⟩,
 ⟨(some 10), .bin .geq (.t 9) (.k (.int .i64 0)), (some (8, true)), false⟩,
 p 11 (.pick (.t 8) (.t 10) (.k (.bool false))),
 p 12 (.mv (.t 11)),
 ⟨(some 13), .mv (.t 0), (some (12, true)), false⟩,
 ⟨(some 14), .mv (.t 1), (some (12, true)), false⟩,
 ⟨(some 15), .call 183 [(.t 14)], (some (12, true)), false⟩,
 ⟨(some 16), .bin .rem (.t 13) (.t 15), (some (12, true)), false⟩,
 ⟨(some 17), .bin .eql (.t 16) (.k (.int .i64 0)), (some (12, true)), false⟩,
 p 18 (.pick (.t 12) (.t 17) (.k (.bool false))),
 p 4 (.mv (.t 18))])
 .ret)),
 [.tmp 4]⟩
def F173 : Fnc := ⟨(.seq (.rg [p 2 (.mv (.k (.int .i64 0)))])
 (.seq (.seq (.rg [p 3 (.mv (.t 0)),
 p 4 (.call 230 [(.t 3), (.k (.int .i64 0)), (.k (.int .i64 3))]),
 p 5 (.not (.t 4))])
 (.cond (.t 5) (.seq (.rg [p 2 (.mv (.k (.int .i64 0)))])
 .ret)
 .skip))
 (.seq (.rg [p 6 (.bs 1 4 [.int .i64 0] [(0, (.k (.int .i64 1))), (1, (.k (.int .i64 4))), (2, (.k (.int .i64 4))), (3, (.k (.int .i64 8)))]),
 p 7 (.mv (.t 0)),
 p 8 (.ia 1 (.t 6) (.t 7)),
 p 9 (.ld (.t 8)),
 p 2 (.mv (.t 9))])
 .ret))),
 [.tmp 2]⟩
def F179 : Fnc := ⟨(.seq (.rg [p 6 (.mv (.k (.slice none 0 0)))])
 (.seq (.rg [p 8 (.bs 1 0 [.int .i64 0] []),
 p 7 (.mv (.t 8))])
 (.seq (.block 0 (.loop (.seq (.seq (.rg [p 9 (.mv (.t 7)),
 p 10 (.len (.t 9)),
 p 11 (.mv (.t 2)),
 p 12 (.call 173 [(.t 11)]),
 p 13 (.bin .lss (.t 10) (.t 12)),
 p 14 (.mv (.t 13)),
 ⟨(some 15), .mv (.t 0), (some (14, true)), false⟩,
 ⟨(some 16), .mv (.t 1), (some (14, true)), false⟩,
 ⟨(some 17), .mv (.t 2), (some (14, true)), false⟩,
 ⟨(some 18), .call 205 [(.t 15), (.t 16), (.t 17)], (some (14, true)), false⟩,
 ⟨(some 19), .bin .geq (.t 18) (.k (.int .i64 0)), (some (14, true)), false⟩,
 p 20 (.pick (.t 14) (.t 19) (.k (.bool false)))])
 (.cond (.t 20) .skip
 (.exit 0)))
 (.block 1 (.seq (.rg [p 21 (.mv (.t 7)),
 p 22 (.mv (.t 0)),
 p 23 (.bs 1 1 [.int .i64 0] [(0, (.t 22))]),
 p 24 (.app 1 8 (.t 21) (.t 23)),
 p 7 (.mv (.t 24))])
 (.rg [p 25 (.mv (.t 0)),
 p 26 (.mv (.t 1)),
 p 27 (.mv (.t 2)),
 p 28 (.call 205 [(.t 25), (.t 26), (.t 27)]),
 p 0 (.mv (.t 28))]))))))
 (.seq (.seq (.rg [p 29 (.mv (.t 7)),
 p 30 (.len (.t 29)),
 p 31 (.mv (.t 2)),
 p 32 (.call 173 [(.t 31)]),
 p 33 (.bin .lss (.t 30) (.t 32))])
 (.cond (.t 33) (.seq (.rg [p 34 (.bs 1 0 [.int .i64 0] []),
 p 6 (.mv (.t 34))])
 .ret)
 .skip))
 (.seq (.rg [p 35 (.mv (.t 7)),
 p 6 (.mv (.t 35))])
 .ret))))),
 [.tmp 6]⟩
def F180 : Fnc := ⟨(.seq (.rg [p 6 (.mv (.k (.bool false)))])
 (.seq (.rg [p 9 (.mv (.t 0)),
 p 10 (.mv (.t 1)),
 p 11 (.mv (.t 2)),
 p 12 (.call 179 [(.t 9), (.t 10), (.t 11)]),
 p 7 (.mv (.t 12))])
 (.seq (.seq (.rg [p 8 (.mv (.k (.int .i64 0)))])
 (.block 0 (.loop (.seq (.seq (.rg [p 13 (.mv (.t 8)),
 p 14 (.mv (.t 7)),
 p 15 (.len (.t 14)),
 p 16 (.bin .lss (.t 13) (.t 15))])
 (.cond (.t 16) .skip
 (.exit 0)))
 (.seq (.block 1 (.seq (.rg [⟨(some 19), .mv (.t 7), none, true⟩,
 ⟨(some 20), .mv (.t 8), none, true⟩,
 ⟨(some 21), .ia 1 (.t 19) (.t 20), none, true⟩,
 ⟨(some 22), .ld (.t 21), none, true⟩,
 ⟨(some 23), .bin .quo (.t 22) (.k (.int .i64 64)), none, true⟩,
 ⟨(some 24), .mv (.t 7), none, true⟩,
 ⟨(some 25), .ia 1 (.t 24) (.k (.int .i64 0)), none, true⟩,
 ⟨(some 26), .ld (.t 25), none, true⟩,
 ⟨(some 27), .bin .quo (.t 26) (.k (.int .i64 64)), none, true⟩,
 p 28 (.bin .neq (.t 23) (.t 27))])
 (.cond (.t 28) (.seq (.rg [p 6 (.mv (.k (.bool false)))])
 .ret)
 .skip)))
 (.rg [p 17 (.mv (.t 8)),
 p 18 (.bin .add (.t 17) (.k (.int .i64 1))),
 p 8 (.mv (.t 18))]))))))
 (.seq (.rg [p 29 (.mv (.t 7)),
 p 30 (.len (.t 29)),
 p 31 (.bin .gtr (.t 30) (.k (.int .i64 0))),
 p 6 (.mv (.t 31))])
 .ret)))),
 [.tmp 6]⟩
def F183 : Fnc := ⟨(.seq (.rg [p 2 (.mv (.k (.int .i64 0)))])
 (.seq (.seq (.rg [p 3 (.mv (.t 0)),
 p 4 (.call 230 [(.t 3), (.k (.int .i64 0)), (.k (.int .i64 2))]),
 p 5 (.not (.t 4))])
 (.cond (.t 5) (.seq (.rg [p 2 (.mv (.k (.int .i64 0)))])
 .ret)
 .skip))
 (.seq (.rg [p 6 (.mv (.t 0)),
 p 7 (.bin .shl (.k (.int .i64 1)) (.t 6)),
 p 2 (.mv (.t 7))])
 .ret))),
 [.tmp 2]⟩
def F187 : Fnc := ⟨(.seq (.rg [p 2 (.mv (.k (.string ⟨#[]⟩)))])
 (.seq (.seq (.rg [p 6 (.mv (.t 0)),
 p 7 (.bin .eql (.t 6) (.k (.int .i64 0)))])
 (.cond (.t 7) (.seq (.rg [p 2 (.mv (.k (.string ⟨#[48]⟩)))])
 .ret)
 .skip))
 (.seq (.rg [p 3 (.mv (.k (.string ⟨#[]⟩)))])
 (.seq (.rg [p 8 (.mv (.t 0)),
 p 9 (.bin .lss (.t 8) (.k (.int .i64 0))),
 p 4 (.mv (.t 9))])
 (.seq (.block 0 (.loop (.seq (.seq (.rg [p 10 (.mv (.t 0)),
 p 11 (.bin .neq (.t 10) (.k (.int .i64 0)))])
 (.cond (.t 11) .skip
 (.exit 0)))
 (.block 1 (.seq (.rg [p 12 (.mv (.t 0)),
 p 13 (.bin .rem (.t 12) (.k (.int .i64 10))),
 p 5 (.mv (.t 13))])
 (.seq (.seq (.rg [p 14 (.mv (.t 5)),
 p 15 (.bin .lss (.t 14) (.k (.int .i64 0)))])
 (.cond (.t 15) (.rg [p 16 (.mv (.t 5)),
 p 17 (.neg (.t 16)),
 p 5 (.mv (.t 17))])
 .skip))
 (.seq (.rg [p 18 (.mv (.t 5)),
 p 19 (.bin .add (.k (.int .i64 48)) (.t 18)),
 p 20 (.cvi .u8 (.t 19)),
 p 21 (.bs 1 1 [.int .u8 0] [(0, (.t 20))]),
 p 22 (.cvbs (.t 21)),
 p 23 (.mv (.t 3)),
 p 24 (.bin .add (.t 22) (.t 23)),
 p 3 (.mv (.t 24))])
 (.rg [p 25 (.mv (.t 0)),
 p 26 (.bin .quo (.t 25) (.k (.int .i64 10))),
 p 0 (.mv (.t 26))]))))))))
 (.seq (.seq (.rg [p 27 (.mv (.t 4))])
 (.cond (.t 27) (.seq (.rg [p 28 (.mv (.t 3)),
 p 29 (.bin .add (.k (.string ⟨#[45]⟩)) (.t 28)),
 p 2 (.mv (.t 29))])
 .ret)
 .skip))
 (.seq (.rg [p 30 (.mv (.t 3)),
 p 2 (.mv (.t 30))])
 .ret))))))),
 [.tmp 2]⟩
def F201 : Fnc := ⟨(.seq (.rg [p 2 (.mv (.k (.int .i64 0)))])
 (.seq (.seq (.rg [p 3 (.mv (.t 0)),
 p 4 (.call 183 [(.t 3)]),
 p 5 (.bin .eql (.t 4) (.k (.int .i64 0)))])
 (.cond (.t 5) (.seq (.rg [p 2 (.mv (.k (.int .i64 0)))])
 .ret)
 .skip))
 (.seq (.rg [p 6 (.mv (.t 0)),
 p 7 (.call 183 [(.t 6)]),
 p 8 (.bin .mul (.k (.int .i64 8)) (.t 7)),
 p 9 (.bin .shl (.k (.int .i64 1)) (.t 8)),
 p 2 (.mv (.t 9))])
 .ret))),
 [.tmp 2]⟩
def F205 : Fnc := ⟨(.seq (.rg [p 6 (.mv (.k (.int .i64 0)))])
 (.seq (.rg [p 8 (.mv (.t 1)),
 p 9 (.call 183 [(.t 8)]),
 p 7 (.mv (.t 9))])
 (.seq (.seq (.rg [p 10 (.mv (.t 0)),
 p 11 (.mv (.t 1)),
 p 12 (.call 172 [(.t 10), (.t 11)]),
 p 13 (.not (.t 12)),
 p 14 (.mv (.t 13)),
 ⟨(some 15), .mv (.t 0), (some (14, false)), false⟩,
 ⟨(some 16), .call 230 [(.t 15), (.k (.int .i64 0)), (.k (.int .i64 511))], (some (14, false)), false⟩,
 ⟨(some 17), .not (.t 16), (some (14, false)), false⟩,
 p 18 (.pick (.t 14) (.k (.bool true)) (.t 17)),
 p 19 (.mv (.t 18)),
 ⟨(some 20), .mv (.t 2), (some (19, false)), false⟩,
 ⟨(some 21), .call 173 [(.t 20)], (some (19, false)), false⟩,
 ⟨(some 22), .bin .eql (.t 21) (.k (.int .i64 0)), (some (19, false)), false⟩,
 p 23 (.pick (.t 19) (.k (.bool true)) (.t 22))])
 (.cond (.t 23) (.seq (.rg [p 6 (.mv (.k (.int .i64 (-1))))])
 .ret)
 .skip))
 (.seq (.seq (.rg [p 24 (.mv (.t 2)),
 p 25 (.bin .eql (.t 24) (.k (.int .i64 2))),
 p 26 (.mv (.t 25)),
 ⟨(some 27), .mv (.t 0), (some (26, true)), false⟩,
 ⟨(some 28), .mv (.t 7), (some (26, true)), false⟩,
 ⟨(some 29), .bin .add (.t 27) (.t 28), (some (26, true)), false⟩,
 ⟨(some 30), .mv (.t 7), (some (26, true)), false⟩,
 ⟨(some 31), .bin .mul (.k (.int .i64 4)) (.t 30), (some (26, true)), false⟩,
 ⟨(some 32), .bin .rem (.t 29) (.t 31), (some (26, true)), false⟩,
 ⟨(some 33), .bin .eql (.t 32) (.k (.int .i64 0)), (some (26, true)), false⟩,
 p 34 (.pick (.t 26) (.t 33) (.k (.bool false)))])
 (.cond (.t 34) (.seq (.rg [p 35 (.mv (.t 0)),
 p 36 (.mv (.t 7)),
 p 37 (.bin .add (.t 35) (.t 36)),
 p 38 (.mv (.t 7)),
 p 39 (.bin .mul (.k (.int .i64 4)) (.t 38)),
 p 40 (.bin .sub (.t 37) (.t 39)),
 p 6 (.mv (.t 40))])
 .ret)
 .skip))
 (.seq (.rg [p 41 (.mv (.t 0)),
 p 42 (.mv (.t 7)),
 p 43 (.bin .add (.t 41) (.t 42)),
 p 6 (.mv (.t 43))])
 .ret))))),
 [.tmp 6]⟩
def F207 : Fnc := ⟨(.seq (.rg [p 1 (.box (.t 0)),
 p 2 (.mv (.k (.bool false)))])
 (.seq (.seq (.rg [p 4 (.fa 1 (.t 1)),
 p 5 (.ld (.t 4)),
 p 6 (.fa 2 (.t 1)),
 p 7 (.ld (.t 6)),
 p 8 (.fa 3 (.t 1)),
 p 9 (.ld (.t 8)),
 p 10 (.call 180 [(.t 5), (.t 7), (.t 9)]),
 p 11 (.not (.t 10))])
 (.cond (.t 11) (.seq (.rg [p 2 (.mv (.k (.bool false)))])
 .ret)
 .skip))
 (.seq (.seq (.rg [p 3 (.mv (.k (.int .i64 0)))])
 (.block 0 (.loop (.seq (.seq (.rg [p 12 (.mv (.t 3)),
 p 13 (.fa 5 (.t 1)),
 p 14 (.ld (.t 13)),
 p 15 (.len (.t 14)),
 p 16 (.bin .lss (.t 12) (.t 15))])
 (.cond (.t 16) .skip
 (.exit 0)))
 (.seq (.block 1 (.seq (.rg [⟨(some 19), .fa 5 (.t 1), none, true⟩,
 ⟨(some 20), .ld (.t 19), none, true⟩,
 ⟨(some 21), .mv (.t 3), none, true⟩,
 ⟨(some 22), .ia 1 (.t 20) (.t 21), none, true⟩,
 ⟨(some 23), .ld (.t 22), none, true⟩,
 ⟨(some 24), .fa 2 (.t 1), none, true⟩,
 ⟨(some 25), .ld (.t 24), none, true⟩,
 ⟨(some 26), .call 201 [(.t 25)], none, true⟩,
 ⟨(some 27), .bin .sub (.t 26) (.k (.int .i64 1)), none, true⟩,
 p 28 (.call 230 [(.t 23), (.k (.int .i64 0)), (.t 27)]),
 p 29 (.not (.t 28))])
 (.cond (.t 29) (.seq (.rg [p 2 (.mv (.k (.bool false)))])
 .ret)
 .skip)))
 (.rg [p 17 (.mv (.t 3)),
 p 18 (.bin .add (.t 17) (.k (.int .i64 1))),
 p 3 (.mv (.t 18))]))))))
 (.seq (.rg [p 30 (.fa 5 (.t 1)),
 p 31 (.ld (.t 30)),
 p 32 (.len (.t 31)),
 p 33 (.bin .eql (.t 32) (.k (.int .i64 0))),
 p 34 (.mv (.t 33)),
 ⟨(some 35), .fa 0 (.t 1), (some (34, true)), false⟩,
 ⟨(some 36), .ld (.t 35), (some (34, true)), false⟩,
 ⟨(some 37), .not (.t 36), (some (34, true)), false⟩,
 p 38 (.pick (.t 34) (.t 37) (.k (.bool false))),
 p 39 (.mv (.t 38)),
 ⟨(some 40), .fa 5 (.t 1), (some (39, false)), true⟩,
 ⟨(some 41), .ld (.t 40), (some (39, false)), true⟩,
 ⟨(some 42), .len (.t 41), (some (39, false)), true⟩,
 ⟨(some 43), .fa 3 (.t 1), (some (39, false)), true⟩,
 ⟨(some 44), .ld (.t 43), (some (39, false)), true⟩,
 ⟨(some 45), .call 173 [(.t 44)], (some (39, false)), true⟩,
 ⟨(some 46), .bin .eql (.t 42) (.t 45), (some (39, false)), false⟩,
 ⟨(some 47), .mv (.t 46), (some (39, false)), false⟩,
 ⟨(some 48), .fa 0 (.t 1), (some (47, true)), false⟩,
 ⟨(some 49), .ld (.t 48), (some (47, true)), false⟩,
 ⟨(some 50), .pick (.t 47) (.t 49) (.k (.bool false)), (some (39, false)), false⟩,
 p 51 (.pick (.t 39) (.k (.bool true)) (.t 50)),
 p 2 (.mv (.t 51))])
 .ret)))),
 [.tmp 2]⟩
def F211 : Fnc := ⟨(.seq (.rg [p 2 (.box (.t 0)),
 p 3 (.box (.t 1)),
 p 4 (.mv (.k (.bool false)))])
 (.seq (.rg [p 5 (.fa 0 (.t 2)),
 p 6 (.ld (.t 5)),
 p 7 (.fa 0 (.t 3)),
 p 8 (.ld (.t 7)),
 p 9 (.eqb false (.t 6) (.t 8)),
 p 10 (.mv (.t 9)),
 ⟨(some 11), .fa 1 (.t 2), (some (10, true)), false⟩,
 ⟨(some 12), .ld (.t 11), (some (10, true)), false⟩,
 ⟨(some 13), .fa 1 (.t 3), (some (10, true)), false⟩,
 ⟨(some 14), .ld (.t 13), (some (10, true)), false⟩,
 ⟨(some 15), .bin .eql (.t 12) (.t 14), (some (10, true)), false⟩,
 p 16 (.pick (.t 10) (.t 15) (.k (.bool false))),
 p 17 (.mv (.t 16)),
 ⟨(some 18), .fa 2 (.t 2), (some (17, true)), false⟩,
 ⟨(some 19), .ld (.t 18), (some (17, true)), false⟩,
 ⟨(some 20), .fa 2 (.t 3), (some (17, true)), false⟩,
 ⟨(some 21), .ld (.t 20), (some (17, true)), false⟩,
 ⟨(some 22), .bin .eql (.t 19) (.t 21), (some (17, true)), false⟩,
 p 23 (.pick (.t 17) (.t 22) (.k (.bool false))),
 p 24 (.mv (.t 23)),
 ⟨(some 25), .fa 3 (.t 2), (some (24, true)), false⟩,
 ⟨(some 26), .ld (.t 25), (some (24, true)), false⟩,
 ⟨(some 27), .fa 3 (.t 3), (some (24, true)), false⟩,
 ⟨(some 28), .ld (.t 27), (some (24, true)), false⟩,
 ⟨(some 29), .bin .eql (.t 26) (.t 28), (some (24, true)), false⟩,
 p 30 (.pick (.t 24) (.t 29) (.k (.bool false))),
 p 31 (.mv (.t 30)),
 ⟨(some 32), .fa 4 (.t 2), (some (31, true)), false⟩,
 ⟨(some 33), .ld (.t 32), (some (31, true)), false⟩,
 ⟨(some 34), .fa 4 (.t 3), (some (31, true)), false⟩,
 ⟨(some 35), .ld (.t 34), (some (31, true)), false⟩,
 ⟨(some 36), .eqb false (.t 33) (.t 35), (some (31, true)), false⟩,
 p 37 (.pick (.t 31) (.t 36) (.k (.bool false))),
 p 38 (.mv (.t 37)),
 ⟨(some 39), .fa 5 (.t 2), (some (38, true)), false⟩,
 ⟨(some 40), .ld (.t 39), (some (38, true)), false⟩,
 ⟨(some 41), .fa 5 (.t 3), (some (38, true)), false⟩,
 ⟨(some 42), .ld (.t 41), (some (38, true)), false⟩,
 ⟨(some 43), .call 240 [(.t 40), (.t 42)], (some (38, true)), false⟩,
 p 44 (.pick (.t 38) (.t 43) (.k (.bool false))),
 p 4 (.mv (.t 44))])
 .ret)),
 [.tmp 4]⟩
def F228 : Fnc := ⟨(.seq (.rg [p 4 (.mv (.k (.int .i64 0)))])
 (.seq (.seq (.rg [p 9 (.mv (.t 1)),
 p 10 (.bin .leq (.t 9) (.k (.int .i64 0)))])
 (.cond (.t 10) (.seq (.rg [p 4 (.mv (.k (.int .i64 0)))])
 .ret)
 .skip))
 (.seq (.seq (.rg [p 11 (.mv (.t 1)),
 p 12 (.bin .leq (.t 11) (.k (.int .i64 256)))])
 (.cond (.t 12) (.seq (.rg [p 13 (.mv (.t 0)),
 p 14 (.call 229 [(.t 13)]),
 p 15 (.mv (.t 1)),
 p 16 (.bin .rem (.t 14) (.t 15)),
 p 4 (.mv (.t 16))])
 .ret)
 .skip))
 (.seq (.rg [p 17 (.mv (.t 0)),
 p 18 (.call 229 [(.t 17)]),
 p 5 (.mv (.t 18))])
 (.seq (.rg [p 19 (.mv (.t 0)),
 p 20 (.call 229 [(.t 19)]),
 p 6 (.mv (.t 20))])
 (.seq (.rg [p 21 (.mv (.t 0)),
 p 22 (.call 229 [(.t 21)]),
 p 7 (.mv (.t 22))])
 (.seq (.rg [p 23 (.mv (.t 0)),
 p 24 (.call 229 [(.t 23)]),
 p 8 (.mv (.t 24))])
 (.seq (.rg [p 25 (.mv (.t 5)),
 p 26 (.bin .mul (.t 25) (.k (.int .i64 16777216))),
 p 27 (.mv (.t 6)),
 p 28 (.bin .mul (.t 27) (.k (.int .i64 65536))),
 p 29 (.bin .add (.t 26) (.t 28)),
 p 30 (.mv (.t 7)),
 p 31 (.bin .mul (.t 30) (.k (.int .i64 256))),
 p 32 (.bin .add (.t 29) (.t 31)),
 p 33 (.mv (.t 8)),
 p 34 (.bin .add (.t 32) (.t 33)),
 p 35 (.mv (.t 1)),
 p 36 (.bin .rem (.t 34) (.t 35)),
 p 4 (.mv (.t 36))])
 .ret)))))))),
 [.tmp 4]⟩
def F229 : Fnc := ⟨(.seq (.rg [p 2 (.mv (.k (.int .i64 0)))])
 (.seq (.rg [p 4 (.mv (.t 0)),
 p 5 (.mv (.t 0)),
 p 6 (.nilc (.t 5)),
 p 7 (.fa 2 (.t 6)),
 p 8 (.ld (.t 7)),
 p 9 (.bin .mul (.t 8) (.k (.int .i64 6364136223846793005))),
 p 10 (.bin .add (.t 9) (.k (.int .i64 1442695040888963407))),
 p 11 (.nilc (.t 4)),
 p 12 (.fa 2 (.t 11)),
 ⟨none, .st (.t 12) (.t 10), none, false⟩])
 (.seq (.rg [⟨(some 13), .mv (.t 0), none, true⟩,
 ⟨(some 14), .nilc (.t 13), none, true⟩,
 ⟨(some 15), .fa 2 (.t 14), none, true⟩,
 ⟨(some 16), .ld (.t 15), none, true⟩,
 ⟨(some 17), .bin .shr (.t 16) (.k (.int .u64 33)), none, true⟩,
 ⟨(some 18), .mv (.t 0), none, true⟩,
 ⟨(some 19), .nilc (.t 18), none, true⟩,
 ⟨(some 20), .fa 2 (.t 19), none, true⟩,
 ⟨(some 21), .ld (.t 20), none, true⟩,
 ⟨(some 22), .bin .shr (.t 21) (.k (.int .u64 45)), none, true⟩,
 p 23 (.bin .xor (.t 17) (.t 22)),
 p 24 (.bin .and (.t 23) (.k (.int .i64 255))),
 p 3 (.mv (.t 24))])
 (.seq (.seq (.rg [⟨(some 25), .mv (.t 0), none, true⟩,
 ⟨(some 26), .nilc (.t 25), none, true⟩,
 ⟨(some 27), .fa 1 (.t 26), none, true⟩,
 ⟨(some 28), .ld (.t 27), none, true⟩,
 ⟨(some 29), .mv (.t 0), none, true⟩,
 ⟨(some 30), .nilc (.t 29), none, true⟩,
 ⟨(some 31), .fa 0 (.t 30), none, true⟩,
 ⟨(some 32), .ld (.t 31), none, true⟩,
 ⟨(some 33), .len (.t 32), none, true⟩,
 p 34 (.bin .lss (.t 28) (.t 33))])
 (.cond (.t 34) (.seq (.rg [⟨(some 35), .mv (.t 3), none, true⟩,
 ⟨(some 36), .mv (.t 0), none, true⟩,
 ⟨(some 37), .nilc (.t 36), none, true⟩,
 ⟨(some 38), .fa 0 (.t 37), none, true⟩,
 ⟨(some 39), .ld (.t 38), none, true⟩,
 ⟨(some 40), .mv (.t 0), none, true⟩,
 ⟨(some 41), .nilc (.t 40), none, true⟩,
 ⟨(some 42), .fa 1 (.t 41), none, true⟩,
 ⟨(some 43), .ld (.t 42), none, true⟩,
 ⟨(some 44), .ia 1 (.t 39) (.t 43), none, true⟩,
 ⟨(some 45), .ld (.t 44), none, true⟩,
 ⟨(some 46), .cvi .i64 (.t 45), none, true⟩,
 p 47 (.bin .add (.t 35) (.t 46)),
 p 48 (.bin .and (.t 47) (.k (.int .i64 255))),
 p 3 (.mv (.t 48))])
 (.rg [p 49 (.mv (.t 0)),
 p 50 (.mv (.t 0)),
 p 51 (.nilc (.t 50)),
 p 52 (.fa 1 (.t 51)),
 p 53 (.ld (.t 52)),
 p 54 (.bin .add (.t 53) (.k (.int .i64 1))),
 p 55 (.nilc (.t 49)),
 p 56 (.fa 1 (.t 55)),
 ⟨none, .st (.t 56) (.t 54), none, false⟩]))
 .skip))
 (.seq (.rg [p 57 (.mv (.t 3)),
 p 2 (.mv (.t 57))])
 .ret))))),
 [.tmp 2]⟩
def F230 : Fnc := ⟨(.seq (.rg [p 6 (.mv (.k (.bool false)))])
 (.seq (.rg [p 7 (.mv (.t 0)),
 p 8 (.mv (.t 1)),
 p 9 (.bin .geq (.t 7) (.t 8)),
 p 10 (.mv (.t 9)),
 ⟨(some 11), .mv (.t 0), (some (10, true)), false⟩,
 ⟨(some 12), .mv (.t 2), (some (10, true)), false⟩,
 ⟨(some 13), .bin .leq (.t 11) (.t 12), (some (10, true)), false⟩,
 p 14 (.pick (.t 10) (.t 13) (.k (.bool false))),
 p 6 (.mv (.t 14))])
 .ret)),
 [.tmp 6]⟩
def F231 : Fnc := ⟨(.seq (.rg [p 2 (.mv (.k (.pointer none)))])
 (.seq (.rg [p 5 (.mv (.t 0)),
 p 6 (.len (.t 5)),
 p 7 (.bin .add (.k (.int .i64 10101)) (.t 6)),
 p 3 (.mv (.t 7))])
 (.seq (.seq (.rg [p 4 (.mv (.k (.int .i64 0)))])
 (.block 0 (.loop (.seq (.seq (.rg [p 8 (.mv (.t 4)),
 p 9 (.mv (.t 0)),
 p 10 (.len (.t 9)),
 p 11 (.bin .lss (.t 8) (.t 10)),
 p 12 (.mv (.t 11)),
 ⟨(some 13), .mv (.t 4), (some (12, true)), false⟩,
 ⟨(some 14), .bin .lss (.t 13) (.k (.int .i64 4000)), (some (12, true)), false⟩,
 p 15 (.pick (.t 12) (.t 14) (.k (.bool false)))])
 (.cond (.t 15) .skip
 (.exit 0)))
 (.seq (.block 1 (.rg [p 18 (.mv (.t 3)),
 p 19 (.bin .mul (.t 18) (.k (.int .i64 131))),
 p 20 (.mv (.t 0)),
 p 21 (.mv (.t 4)),
 p 22 (.ia 1 (.t 20) (.t 21)),
 p 23 (.ld (.t 22)),
 p 24 (.cvi .i64 (.t 23)),
 p 25 (.bin .add (.t 19) (.t 24)),
 p 26 (.bin .add (.t 25) (.k (.int .i64 7))),
 p 27 (.bin .and (.t 26) (.k (.int .i64 1073741823))),
 p 3 (.mv (.t 27))]))
 (.rg [p 16 (.mv (.t 4)),
 p 17 (.bin .add (.t 16) (.k (.int .i64 1))),
 p 4 (.mv (.t 17))]))))))
 (.seq (.rg [p 28 (.mv (.t 0)),
 p 29 (.mv (.t 3)),
 p 30 (.bd [.slice none 0 0, .int .i64 0, .int .i64 0] [(0, 1, (.t 28)), (2, 1, (.t 29))]),
 p 31 (.box (.t 30)),
 p 2 (.mv (.t 31))])
 .ret)))),
 [.tmp 2]⟩
def F233 : Fnc := ⟨(.seq (.rg [p 4 (.mv (.k (.bool false)))])
 (.seq (.rg [p 5 (.mv (.t 0)),
 p 6 (.mv (.t 1)),
 p 7 (.call 228 [(.t 5), (.t 6)]),
 p 8 (.bin .eql (.t 7) (.k (.int .i64 0))),
 p 4 (.mv (.t 8))])
 .ret)),
 [.tmp 4]⟩
def F234 : Fnc := ⟨(.seq (.rg [p 4 (.mv (.k (.int .i64 0)))])
 (.seq (.rg [p 5 (.mv (.t 1)),
 p 6 (.mv (.t 0)),
 p 7 (.mv (.t 1)),
 p 8 (.len (.t 7)),
 p 9 (.call 228 [(.t 6), (.t 8)]),
 p 10 (.ia 1 (.t 5) (.t 9)),
 p 11 (.ld (.t 10)),
 p 4 (.mv (.t 11))])
 .ret)),
 [.tmp 4]⟩
def F235 : Fnc := ⟨(.seq (.rg [p 4 (.mv (.k (.string ⟨#[]⟩)))])
 (.seq (.seq (.rg [p 6 (.mv (.t 1)),
 p 7 (.lens (.t 6)),
 p 8 (.bin .eql (.t 7) (.k (.int .i64 0)))])
 (.cond (.t 8) (.seq (.rg [p 9 (.mv (.t 0)),
 p 10 (.call 236 [(.t 9), (.k (.int .i64 3))]),
 p 4 (.mv (.t 10))])
 .ret)
 .skip))
 (.seq (.rg [p 11 (.mv (.t 0)),
 p 12 (.mv (.t 1)),
 p 13 (.lens (.t 12)),
 p 14 (.call 228 [(.t 11), (.t 13)]),
 p 5 (.mv (.t 14))])
 (.seq (.seq (.rg [p 15 (.mv (.t 0)),
 p 16 (.call 228 [(.t 15), (.k (.int .i64 4))])])
 (.block 0 (.seq (.rg [p 18 (.bin .eql (.t 16) (.k (.int .i64 0))),
 p 17 (.mv (.t 18))])
 (.cond (.t 17) (.seq (.rg [⟨(some 19), .mv (.t 1), none, true⟩,
 ⟨(some 20), .mv (.t 5), none, true⟩,
 ⟨(some 21), .sls (.t 19) none (some (.t 20)), none, true⟩,
 ⟨(some 22), .mv (.t 1), none, true⟩,
 ⟨(some 23), .mv (.t 5), none, true⟩,
 ⟨(some 24), .bin .add (.t 23) (.k (.int .i64 1)), none, true⟩,
 ⟨(some 25), .sls (.t 22) (some (.t 24)) none, none, true⟩,
 p 26 (.bin .add (.t 21) (.t 25)),
 p 4 (.mv (.t 26))])
 .ret)
 (.seq (.rg [p 28 (.bin .eql (.t 16) (.k (.int .i64 1))),
 p 27 (.mv (.t 28))])
 (.cond (.t 27) (.seq (.rg [⟨(some 29), .mv (.t 1), none, true⟩,
 ⟨(some 30), .mv (.t 5), none, true⟩,
 ⟨(some 31), .sls (.t 29) none (some (.t 30)), none, true⟩,
 ⟨(some 32), .mv (.t 0), none, true⟩,
 ⟨(some 33), .call 229 [(.t 32)], none, true⟩,
 ⟨(some 34), .cvi .u8 (.t 33), none, true⟩,
 ⟨(some 35), .bs 1 1 [.int .u8 0] [(0, (.t 34))], none, true⟩,
 ⟨(some 36), .cvbs (.t 35), none, true⟩,
 ⟨(some 37), .bin .add (.t 31) (.t 36), none, true⟩,
 ⟨(some 38), .mv (.t 1), none, true⟩,
 ⟨(some 39), .mv (.t 5), none, true⟩,
 ⟨(some 40), .sls (.t 38) (some (.t 39)) none, none, true⟩,
 p 41 (.bin .add (.t 37) (.t 40)),
 p 4 (.mv (.t 41))])
 .ret)
 (.seq (.rg [p 43 (.bin .eql (.t 16) (.k (.int .i64 2))),
 p 42 (.mv (.t 43))])
 (.cond (.t 42) (.seq (.rg [p 44 (.mv (.t 1)),
 p 45 (.mv (.t 5)),
 p 46 (.sls (.t 44) none (some (.t 45))),
 p 4 (.mv (.t 46))])
 .ret)
 .skip))))))))
 (.seq (.rg [⟨(some 47), .mv (.t 1), none, true⟩,
 ⟨(some 48), .mv (.t 5), none, true⟩,
 ⟨(some 49), .sls (.t 47) none (some (.t 48)), none, true⟩,
 ⟨(some 50), .mv (.t 1), none, true⟩,
 ⟨(some 51), .mv (.t 5), none, true⟩,
 ⟨(some 52), .ix (.t 50) (.t 51), none, true⟩,
 ⟨(some 53), .cvi .i64 (.t 52), none, true⟩,
 ⟨(some 54), .mv (.t 0), none, true⟩,
 ⟨(some 55), .call 228 [(.t 54), (.k (.int .i64 255))], none, true⟩,
 ⟨(some 56), .bin .add (.k (.int .i64 1)) (.t 55), none, true⟩,
 ⟨(some 57), .bin .xor (.t 53) (.t 56), none, true⟩,
 ⟨(some 58), .cvi .u8 (.t 57), none, true⟩,
 ⟨(some 59), .bs 1 1 [.int .u8 0] [(0, (.t 58))], none, true⟩,
 ⟨(some 60), .cvbs (.t 59), none, true⟩,
 ⟨(some 61), .bin .add (.t 49) (.t 60), none, true⟩,
 ⟨(some 62), .mv (.t 1), none, true⟩,
 ⟨(some 63), .mv (.t 5), none, true⟩,
 ⟨(some 64), .bin .add (.t 63) (.k (.int .i64 1)), none, true⟩,
 ⟨(some 65), .sls (.t 62) (some (.t 64)) none, none, true⟩,
 p 66 (.bin .add (.t 61) (.t 65)),
 p 4 (.mv (.t 66))])
 .ret))))),
 [.tmp 4]⟩
def F236 : Fnc := ⟨(.seq (.rg [p 4 (.mv (.k (.string ⟨#[]⟩)))])
 (.seq (.rg [p 9 (.bs 1 0 [.int .u8 0] []),
 p 5 (.mv (.t 9))])
 (.seq (.rg [p 10 (.mv (.t 0)),
 p 11 (.call 228 [(.t 10), (.k (.int .i64 4))]),
 p 6 (.mv (.t 11))])
 (.seq (.seq (.rg [p 12 (.mv (.t 0)),
 p 13 (.mv (.t 1)),
 p 14 (.bin .add (.t 13) (.k (.int .i64 1))),
 p 15 (.call 228 [(.t 12), (.t 14)]),
 p 7 (.mv (.t 15))])
 (.block 0 (.loop (.seq (.seq (.rg [p 16 (.mv (.t 7)),
 p 17 (.bin .gtr (.t 16) (.k (.int .i64 0)))])
 (.cond (.t 17) .skip
 (.exit 0)))
 (.seq (.block 1 (.seq (.rg [p 20 (.mv (.t 0)),
 p 21 (.call 229 [(.t 20)]),
 p 8 (.mv (.t 21))])
 (.seq (.seq (.rg [p 22 (.mv (.t 6)),
 p 23 (.bin .eql (.t 22) (.k (.int .i64 1)))])
 (.cond (.t 23) (.rg [p 24 (.mv (.t 8)),
 p 25 (.bin .rem (.t 24) (.k (.int .i64 2))),
 p 8 (.mv (.t 25))])
 .skip))
 (.seq (.seq (.rg [p 26 (.mv (.t 6)),
 p 27 (.bin .eql (.t 26) (.k (.int .i64 2)))])
 (.cond (.t 27) (.rg [p 28 (.mv (.t 8)),
 p 29 (.bin .rem (.t 28) (.k (.int .i64 4))),
 p 30 (.bin .add (.k (.int .i64 97)) (.t 29)),
 p 8 (.mv (.t 30))])
 .skip))
 (.rg [p 31 (.mv (.t 5)),
 p 32 (.mv (.t 8)),
 p 33 (.cvi .u8 (.t 32)),
 p 34 (.bs 1 1 [.int .u8 0] [(0, (.t 33))]),
 p 35 (.app 1 1 (.t 31) (.t 34)),
 p 5 (.mv (.t 35))])))))
 (.rg [p 18 (.mv (.t 7)),
 p 19 (.bin .sub (.t 18) (.k (.int .i64 1))),
 p 7 (.mv (.t 19))]))))))
 (.seq (.rg [p 36 (.mv (.t 5)),
 p 37 (.cvbs (.t 36)),
 p 4 (.mv (.t 37))])
 .ret))))),
 [.tmp 4]⟩
def F237 : Fnc := ⟨(.seq (.rg [p 2 (.mv (.k (.int .i64 0)))])
 (.seq (.rg [p 3 (.mv (.t 0)),
 p 4 (.call 228 [(.t 3), (.k (.int .i64 6))]),
 p 5 (.bin .sub (.t 4) (.k (.int .i64 1))),
 p 2 (.mv (.t 5))])
 .ret)),
 [.tmp 2]⟩
def F239 : Fnc := ⟨(.seq (.rg [p 2 (.new [.bool false, .int .i64 0, .int .i64 0, .int .i64 0, .bool false, .slice none 0 0])])
 (.seq (.rg [p 4 (.mv (.t 0)),
 p 5 (.call 241 [(.t 4)]),
 p 3 (.new [.bool false, .int .i64 0, .int .i64 0, .int .i64 0, .bool false, .slice none 0 0]),
 ⟨none, .stn 6 (.t 3) (.t 5), none, false⟩])
 (.seq (.seq (.rg [p 6 (.mv (.t 0)),
 p 7 (.call 228 [(.t 6), (.k (.int .i64 12))])])
 (.block 0 (.seq (.rg [p 9 (.bin .eql (.t 7) (.k (.int .i64 0))),
 p 8 (.mv (.t 9))])
 (.cond (.t 8) (.rg [p 10 (.mv (.t 0)),
 p 11 (.bs 1 4 [.int .i64 0] [(0, (.k (.int .i64 (-4)))), (1, (.k (.int .i64 510))), (2, (.k (.int .i64 512))), (3, (.k (.int .i64 61)))]),
 p 12 (.call 234 [(.t 10), (.t 11)]),
 p 13 (.fa 1 (.t 3)),
 ⟨none, .st (.t 13) (.t 12), none, false⟩])
 (.seq (.rg [p 15 (.bin .eql (.t 7) (.k (.int .i64 1))),
 p 14 (.mv (.t 15))])
 (.cond (.t 14) (.rg [p 16 (.fa 0 (.t 3)),
 p 17 (.ld (.t 16)),
 p 18 (.not (.t 17)),
 p 19 (.fa 0 (.t 3)),
 ⟨none, .st (.t 19) (.t 18), none, false⟩])
 (.seq (.rg [p 21 (.bin .eql (.t 7) (.k (.int .i64 2))),
 p 20 (.mv (.t 21))])
 (.cond (.t 20) (.rg [p 22 (.mv (.t 0)),
 p 23 (.call 237 [(.t 22)]),
 p 24 (.fa 2 (.t 3)),
 ⟨none, .st (.t 24) (.t 23), none, false⟩])
 (.seq (.rg [p 26 (.bin .eql (.t 7) (.k (.int .i64 3))),
 p 25 (.mv (.t 26))])
 (.cond (.t 25) (.rg [p 27 (.mv (.t 0)),
 p 28 (.call 237 [(.t 27)]),
 p 29 (.fa 3 (.t 3)),
 ⟨none, .st (.t 29) (.t 28), none, false⟩])
 (.seq (.rg [p 31 (.bin .eql (.t 7) (.k (.int .i64 4))),
 p 30 (.mv (.t 31))])
 (.cond (.t 30) (.rg [p 32 (.fa 5 (.t 3)),
 p 33 (.ld (.t 32)),
 p 34 (.bs 1 1 [.int .i64 0] [(0, (.k (.int .i64 1)))]),
 p 35 (.app 1 8 (.t 33) (.t 34)),
 p 36 (.fa 5 (.t 3)),
 ⟨none, .st (.t 36) (.t 35), none, false⟩])
 .skip))))))))))))
 (.seq (.rg [p 37 (.ldn 6 (.t 3)),
 ⟨none, .stn 6 (.t 2) (.t 37), none, false⟩])
 .ret)))),
 [.celln 2 6]⟩
def F240 : Fnc := ⟨(.seq (.rg [p 4 (.mv (.k (.bool false)))])
 (.seq (.seq (.rg [p 6 (.mv (.t 0)),
 p 7 (.len (.t 6)),
 p 8 (.mv (.t 1)),
 p 9 (.len (.t 8)),
 p 10 (.bin .neq (.t 7) (.t 9))])
 (.cond (.t 10) (.seq (.rg [p 4 (.mv (.k (.bool false)))])
 .ret)
 .skip))
 (.seq (.seq (.rg [p 5 (.mv (.k (.int .i64 0)))])
 (.block 0 (.loop (.seq (.seq (.rg [p 11 (.mv (.t 5)),
 p 12 (.mv (.t 0)),
 p 13 (.len (.t 12)),
 p 14 (.bin .lss (.t 11) (.t 13))])
 (.cond (.t 14) .skip
 (.exit 0)))
 (.seq (.block 1 (.seq (.rg [⟨(some 17), .mv (.t 0), none, true⟩,
 ⟨(some 18), .mv (.t 5), none, true⟩,
 ⟨(some 19), .ia 1 (.t 17) (.t 18), none, true⟩,
 ⟨(some 20), .ld (.t 19), none, true⟩,
 ⟨(some 21), .mv (.t 1), none, true⟩,
 ⟨(some 22), .mv (.t 5), none, true⟩,
 ⟨(some 23), .ia 1 (.t 21) (.t 22), none, true⟩,
 ⟨(some 24), .ld (.t 23), none, true⟩,
 p 25 (.bin .neq (.t 20) (.t 24))])
 (.cond (.t 25) (.seq (.rg [p 4 (.mv (.k (.bool false)))])
 .ret)
 .skip)))
 (.rg [p 15 (.mv (.t 5)),
 p 16 (.bin .add (.t 15) (.k (.int .i64 1))),
 p 5 (.mv (.t 16))]))))))
 (.seq (.rg [p 4 (.mv (.k (.bool true)))])
 .ret)))),
 [.tmp 4]⟩
def F241 : Fnc := ⟨(.seq (.rg [p 2 (.new [.bool false, .int .i64 0, .int .i64 0, .int .i64 0, .bool false, .slice none 0 0])])
 (.seq (.rg [p 6 (.mv (.t 0)),
 p 7 (.call 233 [(.t 6), (.k (.int .i64 2))]),
 p 8 (.mv (.t 0)),
 p 9 (.bs 1 5 [.int .i64 0] [(0, (.k (.int .i64 2))), (1, (.k (.int .i64 2))), (2, (.k (.int .i64 2))), (3, (.k (.int .i64 0))), (4, (.k (.int .i64 1)))]),
 p 10 (.call 234 [(.t 8), (.t 9)]),
 p 11 (.mv (.t 0)),
 p 12 (.bs 1 5 [.int .i64 0] [(0, (.k (.int .i64 0))), (1, (.k (.int .i64 0))), (2, (.k (.int .i64 1))), (3, (.k (.int .i64 2))), (4, (.k (.int .i64 3)))]),
 p 13 (.call 234 [(.t 11), (.t 12)]),
 p 14 (.mv (.t 0)),
 p 15 (.call 233 [(.t 14), (.k (.int .i64 6))]),
 p 16 (.bd [.bool false, .int .i64 0, .int .i64 0, .int .i64 0, .bool false, .slice none 0 0] [(0, 1, (.t 7)), (2, 1, (.t 10)), (3, 1, (.t 13)), (4, 1, (.t 15))]),
 p 3 (.new [.bool false, .int .i64 0, .int .i64 0, .int .i64 0, .bool false, .slice none 0 0]),
 ⟨none, .stn 6 (.t 3) (.t 16), none, false⟩])
 (.seq (.rg [p 17 (.fa 2 (.t 3)),
 p 18 (.ld (.t 17)),
 p 19 (.call 183 [(.t 18)]),
 p 4 (.mv (.t 19))])
 (.seq (.rg [p 20 (.mv (.t 0)),
 p 21 (.mv (.t 0)),
 p 22 (.call 228 [(.t 21), (.k (.int .i64 128))]),
 p 23 (.mv (.t 0)),
 p 24 (.call 228 [(.t 23), (.k (.int .i64 128))]),
 p 25 (.mv (.t 0)),
 p 26 (.call 228 [(.t 25), (.k (.int .i64 64))]),
 p 27 (.bin .add (.k (.int .i64 128)) (.t 26)),
 p 28 (.mv (.t 0)),
 p 29 (.call 228 [(.t 28), (.k (.int .i64 40))]),
 p 30 (.bin .add (.k (.int .i64 192)) (.t 29)),
 p 31 (.mv (.t 0)),
 p 32 (.call 228 [(.t 31), (.k (.int .i64 512))]),
 p 33 (.bs 1 5 [.int .i64 0] [(0, (.t 22)), (1, (.t 24)), (2, (.t 27)), (3, (.t 30)), (4, (.t 32))]),
 p 34 (.call 234 [(.t 20), (.t 33)]),
 p 35 (.mv (.t 4)),
 p 36 (.bin .quo (.t 34) (.t 35)),
 p 37 (.mv (.t 4)),
 p 38 (.bin .mul (.t 36) (.t 37)),
 p 39 (.fa 1 (.t 3)),
 ⟨none, .st (.t 39) (.t 38), none, false⟩])
 (.seq (.seq (.rg [p 40 (.fa 1 (.t 3)),
 p 41 (.ld (.t 40)),
 p 42 (.fa 2 (.t 3)),
 p 43 (.ld (.t 42)),
 p 44 (.fa 3 (.t 3)),
 p 45 (.ld (.t 44)),
 p 46 (.call 180 [(.t 41), (.t 43), (.t 45)]),
 p 47 (.not (.t 46))])
 (.cond (.t 47) (.rg [p 48 (.fa 3 (.t 3)),
 ⟨none, .st (.t 48) (.k (.int .i64 0)), none, false⟩])
 .skip))
 (.seq (.seq (.rg [p 5 (.mv (.k (.int .i64 0)))])
 (.block 0 (.loop (.seq (.seq (.rg [p 49 (.mv (.t 5)),
 p 50 (.fa 3 (.t 3)),
 p 51 (.ld (.t 50)),
 p 52 (.call 173 [(.t 51)]),
 p 53 (.bin .lss (.t 49) (.t 52)),
 p 54 (.mv (.t 53)),
 ⟨(some 55), .fa 0 (.t 3), (some (54, true)), false⟩,
 ⟨(some 56), .ld (.t 55), (some (54, true)), false⟩,
 p 57 (.pick (.t 54) (.t 56) (.k (.bool false)))])
 (.cond (.t 57) .skip
 (.exit 0)))
 (.seq (.block 1 (.rg [⟨(some 60), .fa 5 (.t 3), none, true⟩,
 ⟨(some 61), .ld (.t 60), none, true⟩,
 ⟨(some 62), .mv (.t 0), none, true⟩,
 ⟨(some 63), .mv (.t 0), none, true⟩,
 ⟨(some 64), .fa 2 (.t 3), none, true⟩,
 ⟨(some 65), .ld (.t 64), none, true⟩,
 ⟨(some 66), .call 201 [(.t 65)], none, true⟩,
 ⟨(some 67), .mn [(.t 66), (.k (.int .i64 1000))], none, true⟩,
 ⟨(some 68), .fa 2 (.t 3), none, true⟩,
 ⟨(some 69), .ld (.t 68), none, true⟩,
 ⟨(some 70), .call 201 [(.t 69)], none, true⟩,
 ⟨(some 71), .bs 1 2 [.int .i64 0] [(0, (.t 67)), (1, (.t 70))], none, true⟩,
 ⟨(some 72), .call 234 [(.t 63), (.t 71)], none, true⟩,
 ⟨(some 73), .call 228 [(.t 62), (.t 72)], none, true⟩,
 ⟨(some 74), .bs 1 1 [.int .i64 0] [(0, (.t 73))], none, true⟩,
 p 75 (.app 1 8 (.t 61) (.t 74)),
 p 76 (.fa 5 (.t 3)),
 ⟨none, .st (.t 76) (.t 75), none, false⟩]))
 (.rg [p 58 (.mv (.t 5)),
 p 59 (.bin .add (.t 58) (.k (.int .i64 1))),
 p 5 (.mv (.t 59))]))))))
 (.seq (.rg [p 77 (.ldn 6 (.t 3)),
 ⟨none, .stn 6 (.t 2) (.t 77), none, false⟩])
 .ret))))))),
 [.celln 2 6]⟩
def F257 : Fnc := ⟨(.seq (.rg [p 4 (.mv (.k (.bool false)))])
 (.seq (.rg [p 5 (.mv (.t 0)),
 p 6 (.mv (.t 1)),
 p 7 (.call 266 [(.t 5), (.t 6)]),
 p 8 (.bin .geq (.t 7) (.k (.int .i64 0))),
 p 4 (.mv (.t 8))])
 .ret)),
 [.tmp 4]⟩
def F264 : Fnc := ⟨(.seq (.rg [p 4 (.mv (.k (.bool false)))])
 (.seq (.seq (.rg [p 6 (.mv (.t 0)),
 p 7 (.len (.t 6)),
 p 8 (.mv (.t 1)),
 p 9 (.len (.t 8)),
 p 10 (.bin .neq (.t 7) (.t 9))])
 (.cond (.t 10) (.seq (.rg [p 4 (.mv (.k (.bool false)))])
 .ret)
 .skip))
 (.seq (.seq (.rg [p 11 (.mv (.t 0)),
 p 12 (.len (.t 11)),
 p 13 (.mv (.k (.int .i64 0)))])
 (.block 0 (.loop (.seq (.rg [p 14 (.bin .lss (.t 13) (.t 12))])
 (.seq (.cond (.t 14) .skip
 (.exit 0))
 (.seq (.block 1 (.seq (.rg [p 15 (.mv (.t 13)),
 p 5 (.mv (.t 15))])
 (.seq (.rg [⟨(some 16), .mv (.t 0), none, true⟩,
 ⟨(some 17), .mv (.t 5), none, true⟩,
 ⟨(some 18), .ia 1 (.t 16) (.t 17), none, true⟩,
 ⟨(some 19), .ld (.t 18), none, true⟩,
 ⟨(some 20), .mv (.t 1), none, true⟩,
 ⟨(some 21), .mv (.t 5), none, true⟩,
 ⟨(some 22), .ia 1 (.t 20) (.t 21), none, true⟩,
 ⟨(some 23), .ld (.t 22), none, true⟩,
 p 24 (.bin .neq (.t 19) (.t 23))])
 (.cond (.t 24) (.seq (.rg [p 4 (.mv (.k (.bool false)))])
 .ret)
 .skip))))
 (.rg [p 25 (.bin .add (.t 13) (.k (.int .i64 1))),
 p 13 (.mv (.t 25))])))))))
 (.seq (.rg [p 4 (.mv (.k (.bool true)))])
 .ret)))),
 [.tmp 4]⟩
def F266 : Fnc := ⟨(.seq (.rg [p 4 (.mv (.k (.int .i64 0)))])
 (.seq (.seq (.rg [p 6 (.mv (.t 0)),
 p 7 (.len (.t 6)),
 p 8 (.mv (.k (.int .i64 0)))])
 (.block 0 (.loop (.seq (.rg [p 9 (.bin .lss (.t 8) (.t 7))])
 (.seq (.cond (.t 9) .skip
 (.exit 0))
 (.seq (.block 1 (.seq (.rg [p 10 (.mv (.t 8)),
 p 5 (.mv (.t 10))])
 (.seq (.rg [p 11 (.mv (.t 1)),
 p 12 (.mv (.t 0)),
 p 13 (.mv (.t 5)),
 p 14 (.ia 1 (.t 12) (.t 13)),
 p 15 (.ld (.t 14)),
 p 16 (.calli (.t 11) [(.t 15)])])
 (.cond (.t 16) (.seq (.rg [p 17 (.mv (.t 5)),
 p 4 (.mv (.t 17))])
 .ret)
 .skip))))
 (.rg [p 18 (.bin .add (.t 8) (.k (.int .i64 1))),
 p 8 (.mv (.t 18))])))))))
 (.seq (.rg [p 4 (.mv (.k (.int .i64 (-1))))])
 .ret))),
 [.tmp 4]⟩
def F452 : Fnc := ⟨(.seq (.rg [p 2 (.mv (.k (.bool false)))])
 (.seq (.seq (.rg [p 11 (.mv (.t 0)),
 p 12 (.call 123 [(.t 11)])])
 (.cond (.t 12) (.seq (.rg [p 2 (.mv (.k (.bool true)))])
 .ret)
 .skip))
 (.seq (.rg [p 13 (.mv (.t 0)),
 p 14 (.call 456 [(.t 13)]),
 p 3 (.new [.bool false, .int .i64 0, .int .i64 0, .int .i64 0, .bool false, .slice none 0 0]),
 ⟨none, .stn 6 (.t 3) (.t 14), none, false⟩])
 (.seq (.rg [p 16 (.ldn 6 (.t 3)),
 p 17 (.call 457 [(.t 16)]),
 p 18 (.call 454 [(.t 17)]),
 p 15 (.mv (.t 18)),
 p 19 (.ext 0 (.t 15)),
 p 20 (.ext 1 (.t 15)),
 p 4 (.new [.bool false, .int .i64 0, .int .i64 0, .int .i64 0, .bool false, .slice none 0 0]),
 ⟨none, .stn 6 (.t 4) (.t 19), none, false⟩,
 p 5 (.mv (.t 20))])
 (.seq (.rg [p 21 (.mv (.t 0)),
 p 22 (.call 458 [(.t 21)]),
 p 6 (.mv (.t 22))])
 (.seq (.rg [p 24 (.mv (.t 6)),
 p 25 (.call 454 [(.t 24)]),
 p 23 (.mv (.t 25)),
 p 26 (.ext 0 (.t 23)),
 p 27 (.ext 1 (.t 23)),
 p 7 (.new [.bool false, .int .i64 0, .int .i64 0, .int .i64 0, .bool false, .slice none 0 0]),
 ⟨none, .stn 6 (.t 7) (.t 26), none, false⟩,
 p 8 (.mv (.t 27))])
 (.seq (.rg [p 29 (.mv (.t 6)),
 p 30 (.call 453 [(.t 29)]),
 p 28 (.mv (.t 30)),
 p 31 (.ext 0 (.t 28)),
 p 32 (.ext 1 (.t 28)),
 p 9 (.new [.bool false, .int .i64 0, .int .i64 0, .int .i64 0, .bool false, .slice none 0 0]),
 ⟨none, .stn 6 (.t 9) (.t 31), none, false⟩,
 p 10 (.mv (.t 32))])
 (.seq (.rg [p 33 (.mv (.t 5)),
 p 34 (.ldn 6 (.t 3)),
 p 35 (.call 207 [(.t 34)]),
 p 36 (.eqb false (.t 33) (.t 35)),
 p 37 (.mv (.t 36)),
 ⟨(some 38), .mv (.t 5), (some (37, true)), false⟩,
 ⟨(some 39), .ldn 6 (.t 3), (some (37, true)), false⟩,
 ⟨(some 40), .call 66 [(.t 39)], (some (37, true)), false⟩,
 ⟨(some 41), .eqb false (.t 38) (.t 40), (some (37, true)), false⟩,
 p 42 (.pick (.t 37) (.t 41) (.k (.bool false))),
 p 43 (.mv (.t 42)),
 ⟨(some 44), .mv (.t 5), (some (43, true)), false⟩,
 ⟨(some 45), .not (.t 44), (some (43, true)), false⟩,
 ⟨(some 46), .mv (.t 45), (some (43, true)), false⟩,
 ⟨(some 47), .ldn 6 (.t 4), (some (46, false)), false⟩,
 ⟨(some 48), .ldn 6 (.t 3), (some (46, false)), false⟩,
 ⟨(some 49), .call 211 [(.t 47), (.t 48)], (some (46, false)), false⟩,
 ⟨(some 50), .mv (.t 49), (some (46, false)), false⟩,
 ⟨(some 51), .ldn 6 (.t 4), (some (50, true)), false⟩,
 ⟨(some 52), .ldn 6 (.t 3), (some (50, true)), false⟩,
 ⟨(some 53), .call 71 [(.t 51), (.t 52)], (some (50, true)), false⟩,
 ⟨(some 54), .pick (.t 50) (.t 53) (.k (.bool false)), (some (46, false)), false⟩,
 ⟨(some 55), .pick (.t 46) (.k (.bool true)) (.t 54), (some (43, true)), false⟩,
 p 56 (.pick (.t 43) (.t 55) (.k (.bool false))),
 p 57 (.mv (.t 56)),
 ⟨(some 58), .mv (.t 8), (some (57, true)), false⟩,
 ⟨(some 59), .mv (.t 10), (some (57, true)), false⟩,
 ⟨(some 60), .eqb false (.t 58) (.t 59), (some (57, true)), false⟩,
 p 61 (.pick (.t 57) (.t 60) (.k (.bool false))),
 p 62 (.mv (.t 61)),
 ⟨(some 63), .mv (.t 8), (some (62, true)), false⟩,
 ⟨(some 64), .not (.t 63), (some (62, true)), false⟩,
 ⟨(some 65), .mv (.t 64), (some (62, true)), false⟩,
 ⟨(some 66), .ldn 6 (.t 7), (some (65, false)), false⟩,
 ⟨(some 67), .call 457 [(.t 66)], (some (65, false)), false⟩,
 ⟨(some 68), .mv (.t 6), (some (65, false)), false⟩,
 ⟨(some 69), .bin .eql (.t 67) (.t 68), (some (65, false)), false⟩,
 ⟨(some 70), .pick (.t 65) (.k (.bool true)) (.t 69), (some (62, true)), false⟩,
 p 71 (.pick (.t 62) (.t 70) (.k (.bool false))),
 p 2 (.mv (.t 71))])
 .ret)))))))),
 [.tmp 2]⟩
def F453 : Fnc := ⟨(.seq (.rg [p 2 (.new [.bool false, .int .i64 0, .int .i64 0, .int .i64 0, .bool false, .slice none 0 0]),
 p 3 (.mv (.k (.bool false)))])
 (.seq (.rg [p 7 (.mv (.t 0)),
 p 8 (.call 459 [(.t 7), (.k (.int .u8 32))]),
 p 4 (.mv (.t 8))])
 (.seq (.seq (.rg [p 9 (.mv (.t 4)),
 p 10 (.len (.t 9)),
 p 11 (.bin .lss (.t 10) (.k (.int .i64 4)))])
 (.cond (.t 11) (.seq (.rg [p 12 (.bd [.bool false, .int .i64 0, .int .i64 0, .int .i64 0, .bool false, .slice none 0 0] []),
 ⟨none, .stn 6 (.t 2) (.t 12), none, false⟩,
 p 3 (.mv (.k (.bool false)))])
 .ret)
 .skip))
 (.seq (.rg [⟨(some 13), .mv (.t 4), none, true⟩,
 ⟨(some 14), .ia 1 (.t 13) (.k (.int .i64 0)), none, true⟩,
 ⟨(some 15), .ld (.t 14), none, true⟩,
 ⟨(some 16), .bin .eql (.t 15) (.k (.string ⟨#[119, 114, 105, 116, 101]⟩)), none, true⟩,
 ⟨(some 17), .bs 1 3 [.string ⟨#[]⟩] [(0, (.k (.string ⟨#[98, 121, 116, 101]⟩))), (1, (.k (.string ⟨#[104, 97, 108, 102]⟩))), (2, (.k (.string ⟨#[119, 111, 114, 100]⟩)))], none, true⟩,
 ⟨(some 18), .mv (.t 4), none, true⟩,
 ⟨(some 19), .ia 1 (.t 18) (.k (.int .i64 1)), none, true⟩,
 ⟨(some 20), .ld (.t 19), none, true⟩,
 ⟨(some 21), .call 460 [(.t 17), (.t 20)], none, true⟩,
 ⟨(some 22), .bs 1 4 [.string ⟨#[]⟩] [(0, (.k (.string ⟨#[111, 110, 101]⟩))), (1, (.k (.string ⟨#[102, 111, 117, 114]⟩))), (2, (.k (.string ⟨#[119, 114, 97, 112]⟩))), (3, (.k (.string ⟨#[101, 105, 103, 104, 116]⟩)))], none, true⟩,
 ⟨(some 23), .mv (.t 4), none, true⟩,
 ⟨(some 24), .ia 1 (.t 23) (.k (.int .i64 2)), none, true⟩,
 ⟨(some 25), .ld (.t 24), none, true⟩,
 ⟨(some 26), .call 460 [(.t 22), (.t 25)], none, true⟩,
 ⟨(some 27), .bd [.bool false, .int .i64 0, .int .i64 0, .int .i64 0, .bool false, .slice none 0 0] [(0, 1, (.t 16)), (2, 1, (.t 21)), (3, 1, (.t 26))], none, true⟩,
 ⟨(some 5), .new [.bool false, .int .i64 0, .int .i64 0, .int .i64 0, .bool false, .slice none 0 0], none, true⟩,
 ⟨none, .stn 6 (.t 5) (.t 27), none, false⟩])
 (.seq (.rg [p 28 (.mv (.t 4)),
 p 29 (.ia 1 (.t 28) (.k (.int .i64 3))),
 p 30 (.ld (.t 29)),
 p 31 (.call 461 [(.t 30)]),
 p 32 (.fa 1 (.t 5)),
 ⟨none, .st (.t 32) (.t 31), none, false⟩])
 (.seq (.rg [p 33 (.mv (.t 4)),
 p 34 (.sl 1 (.t 33) (some (.k (.int .i64 4))) none none),
 p 4 (.mv (.t 34))])
 (.seq (.seq (.rg [p 35 (.mv (.t 4)),
 p 36 (.len (.t 35)),
 p 37 (.bin .gtr (.t 36) (.k (.int .i64 0))),
 p 38 (.mv (.t 37)),
 ⟨(some 39), .mv (.t 4), (some (38, true)), false⟩,
 ⟨(some 40), .ia 1 (.t 39) (.k (.int .i64 0)), (some (38, true)), false⟩,
 ⟨(some 41), .ld (.t 40), (some (38, true)), false⟩,
 ⟨(some 42), .bin .eql (.t 41) (.k (.string ⟨#[108, 111, 99, 107]⟩)), (some (38, true)), false⟩,
 p 43 (.pick (.t 38) (.t 42) (.k (.bool false)))])
 (.cond (.t 43) (.seq (.rg [p 44 (.fa 4 (.t 5)),
 ⟨none, .st (.t 44) (.k (.bool true)), none, false⟩])
 (.rg [p 45 (.mv (.t 4)),
 p 46 (.sl 1 (.t 45) (some (.k (.int .i64 1))) none none),
 p 4 (.mv (.t 46))]))
 .skip))
 (.seq (.seq (.rg [p 6 (.mv (.k (.int .i64 0)))])
 (.block 0 (.loop (.seq (.seq (.rg [p 47 (.mv (.t 6)),
 p 48 (.mv (.t 4)),
 p 49 (.len (.t 48)),
 p 50 (.bin .lss (.t 47) (.t 49))])
 (.cond (.t 50) .skip
 (.exit 0)))
 (.seq (.block 1 (.rg [⟨(some 53), .fa 5 (.t 5), none, true⟩,
 ⟨(some 54), .ld (.t 53), none, true⟩,
 ⟨(some 55), .mv (.t 4), none, true⟩,
 ⟨(some 56), .mv (.t 6), none, true⟩,
 ⟨(some 57), .ia 1 (.t 55) (.t 56), none, true⟩,
 ⟨(some 58), .ld (.t 57), none, true⟩,
 ⟨(some 59), .call 461 [(.t 58)], none, true⟩,
 ⟨(some 60), .bs 1 1 [.int .i64 0] [(0, (.t 59))], none, true⟩,
 p 61 (.app 1 8 (.t 54) (.t 60)),
 p 62 (.fa 5 (.t 5)),
 ⟨none, .st (.t 62) (.t 61), none, false⟩]))
 (.rg [p 51 (.mv (.t 6)),
 p 52 (.bin .add (.t 51) (.k (.int .i64 1))),
 p 6 (.mv (.t 52))]))))))
 (.seq (.seq (.rg [p 63 (.ldn 6 (.t 5)),
 p 64 (.call 462 [(.t 63)]),
 p 65 (.mv (.t 0)),
 p 66 (.bin .neq (.t 64) (.t 65))])
 (.cond (.t 66) (.seq (.rg [p 67 (.bd [.bool false, .int .i64 0, .int .i64 0, .int .i64 0, .bool false, .slice none 0 0] []),
 ⟨none, .stn 6 (.t 2) (.t 67), none, false⟩,
 p 3 (.mv (.k (.bool false)))])
 .ret)
 .skip))
 (.seq (.rg [p 68 (.ldn 6 (.t 5)),
 ⟨none, .stn 6 (.t 2) (.t 68), none, false⟩,
 p 3 (.mv (.k (.bool true)))])
 .ret)))))))))),
 [.celln 2 6, .tmp 3]⟩
def F454 : Fnc := ⟨(.seq (.rg [p 2 (.new [.bool false, .int .i64 0, .int .i64 0, .int .i64 0, .bool false, .slice none 0 0]),
 p 3 (.mv (.k (.bool false)))])
 (.seq (.rg [p 11 (.mv (.t 0)),
 p 12 (.call 463 [(.t 11), (.k (.string ⟨#[32]⟩))]),
 p 4 (.mv (.t 12))])
 (.seq (.seq (.rg [p 13 (.mv (.t 4)),
 p 14 (.len (.t 13)),
 p 15 (.bin .lss (.t 14) (.k (.int .i64 4)))])
 (.cond (.t 15) (.seq (.rg [p 16 (.bd [.bool false, .int .i64 0, .int .i64 0, .int .i64 0, .bool false, .slice none 0 0] []),
 ⟨none, .stn 6 (.t 2) (.t 16), none, false⟩,
 p 3 (.mv (.k (.bool false)))])
 .ret)
 .skip))
 (.seq (.rg [⟨(some 17), .mv (.t 4), none, true⟩,
 ⟨(some 18), .ia 1 (.t 17) (.k (.int .i64 0)), none, true⟩,
 ⟨(some 19), .ld (.t 18), none, true⟩,
 ⟨(some 20), .bin .eql (.t 19) (.k (.string ⟨#[119, 114, 105, 116, 101]⟩)), none, true⟩,
 ⟨(some 21), .call 465 [], none, true⟩,
 ⟨(some 22), .mv (.t 4), none, true⟩,
 ⟨(some 23), .ia 1 (.t 22) (.k (.int .i64 1)), none, true⟩,
 ⟨(some 24), .ld (.t 23), none, true⟩,
 ⟨(some 25), .call 464 [(.t 21), (.t 24)], none, true⟩,
 ⟨(some 26), .call 466 [], none, true⟩,
 ⟨(some 27), .mv (.t 4), none, true⟩,
 ⟨(some 28), .ia 1 (.t 27) (.k (.int .i64 2)), none, true⟩,
 ⟨(some 29), .ld (.t 28), none, true⟩,
 ⟨(some 30), .call 464 [(.t 26), (.t 29)], none, true⟩,
 ⟨(some 31), .bd [.bool false, .int .i64 0, .int .i64 0, .int .i64 0, .bool false, .slice none 0 0] [(0, 1, (.t 20)), (2, 1, (.t 25)), (3, 1, (.t 30))], none, true⟩,
 ⟨(some 32), .mv (.t 4), none, true⟩,
 ⟨(some 33), .sl 1 (.t 32) (some (.k (.int .i64 4))) none none, none, true⟩,
 ⟨(some 5), .new [.bool false, .int .i64 0, .int .i64 0, .int .i64 0, .bool false, .slice none 0 0], none, true⟩,
 ⟨none, .stn 6 (.t 5) (.t 31), none, true⟩,
 p 6 (.mv (.t 33))])
 (.seq (.seq (.rg [p 34 (.mv (.t 6)),
 p 35 (.len (.t 34)),
 p 36 (.bin .gtr (.t 35) (.k (.int .i64 0))),
 p 37 (.mv (.t 36)),
 ⟨(some 38), .mv (.t 6), (some (37, true)), false⟩,
 ⟨(some 39), .ia 1 (.t 38) (.k (.int .i64 0)), (some (37, true)), false⟩,
 ⟨(some 40), .ld (.t 39), (some (37, true)), false⟩,
 ⟨(some 41), .bin .eql (.t 40) (.k (.string ⟨#[108, 111, 99, 107]⟩)), (some (37, true)), false⟩,
 p 42 (.pick (.t 37) (.t 41) (.k (.bool false)))])
 (.cond (.t 42) (.rg [⟨(some 43), .mv (.t 6), none, true⟩,
 ⟨(some 44), .sl 1 (.t 43) (some (.k (.int .i64 1))) none none, none, true⟩,
 ⟨(some 45), .fa 4 (.t 5), none, true⟩,
 ⟨none, .st (.t 45) (.k (.bool true)), none, true⟩,
 p 6 (.mv (.t 44))])
 .skip))
 (.seq (.rg [p 47 (.mv (.t 4)),
 p 48 (.ia 1 (.t 47) (.k (.int .i64 3))),
 p 49 (.ld (.t 48)),
 p 50 (.call 408 [(.t 49), (.k (.int .i64 18))]),
 p 46 (.mv (.t 50)),
 p 51 (.ext 0 (.t 46)),
 p 52 (.ext 1 (.t 46)),
 p 7 (.mv (.t 51)),
 p 8 (.mv (.t 52))])
 (.seq (.rg [p 54 (.mv (.t 6)),
 p 55 (.call 467 [(.t 54)]),
 p 53 (.mv (.t 55)),
 p 56 (.ext 0 (.t 53)),
 p 57 (.ext 1 (.t 53)),
 p 9 (.mv (.t 56)),
 p 10 (.mv (.t 57))])
 (.seq (.rg [p 58 (.mv (.t 7)),
 p 59 (.mv (.t 9)),
 p 60 (.fa 1 (.t 5)),
 ⟨none, .st (.t 60) (.t 58), none, false⟩,
 p 61 (.fa 5 (.t 5)),
 ⟨none, .st (.t 61) (.t 59), none, false⟩])
 (.seq (.seq (.rg [p 62 (.mv (.t 8)),
 p 63 (.not (.t 62)),
 p 64 (.mv (.t 63)),
 ⟨(some 65), .mv (.t 10), (some (64, false)), false⟩,
 ⟨(some 66), .not (.t 65), (some (64, false)), false⟩,
 p 67 (.pick (.t 64) (.k (.bool true)) (.t 66)),
 p 68 (.mv (.t 67)),
 ⟨(some 69), .ldn 6 (.t 5), (some (68, false)), false⟩,
 ⟨(some 70), .call 66 [(.t 69)], (some (68, false)), false⟩,
 ⟨(some 71), .not (.t 70), (some (68, false)), false⟩,
 p 72 (.pick (.t 68) (.k (.bool true)) (.t 71)),
 p 73 (.mv (.t 72)),
 ⟨(some 74), .ldn 6 (.t 5), (some (73, false)), false⟩,
 ⟨(some 75), .call 457 [(.t 74)], (some (73, false)), false⟩,
 ⟨(some 76), .mv (.t 0), (some (73, false)), false⟩,
 ⟨(some 77), .bin .neq (.t 75) (.t 76), (some (73, false)), false⟩,
 p 78 (.pick (.t 73) (.k (.bool true)) (.t 77))])
 (.cond (.t 78) (.seq (.rg [p 79 (.bd [.bool false, .int .i64 0, .int .i64 0, .int .i64 0, .bool false, .slice none 0 0] []),
 ⟨none, .stn 6 (.t 2) (.t 79), none, false⟩,
 p 3 (.mv (.k (.bool false)))])
 .ret)
 .skip))
 (.seq (.rg [p 80 (.ldn 6 (.t 5)),
 ⟨none, .stn 6 (.t 2) (.t 80), none, false⟩,
 p 3 (.mv (.k (.bool true)))])
 .ret)))))))))),
 [.celln 2 6, .tmp 3]⟩
def F456 : Fnc := ⟨(.seq (.rg [p 2 (.new [.bool false, .int .i64 0, .int .i64 0, .int .i64 0, .bool false, .slice none 0 0])])
 (.seq (.rg [p 3 (.mv (.t 0)),
 p 4 (.call 231 [(.t 3)]),
 p 5 (.call 239 [(.t 4)]),
 ⟨none, .stn 6 (.t 2) (.t 5), none, false⟩])
 .ret)),
 [.celln 2 6]⟩
def F457 : Fnc := ⟨(.seq (.rg [p 1 (.box (.t 0)),
 p 2 (.mv (.k (.string ⟨#[]⟩)))])
 (.seq (.seq (.rg [p 4 (.ldn 6 (.t 1)),
 p 5 (.call 66 [(.t 4)]),
 p 6 (.not (.t 5))])
 (.cond (.t 6) (.seq (.rg [p 2 (.mv (.k (.string ⟨#[]⟩)))])
 .ret)
 .skip))
 (.seq (.rg [⟨(some 7), .fa 0 (.t 1), none, true⟩,
 ⟨(some 8), .ld (.t 7), none, true⟩,
 ⟨(some 9), .call 468 [(.t 8)], none, true⟩,
 ⟨(some 10), .call 465 [], none, true⟩,
 ⟨(some 11), .fa 2 (.t 1), none, true⟩,
 ⟨(some 12), .ld (.t 11), none, true⟩,
 ⟨(some 13), .ia 1 (.t 10) (.t 12), none, true⟩,
 ⟨(some 14), .ld (.t 13), none, true⟩,
 ⟨(some 15), .call 466 [], none, true⟩,
 ⟨(some 16), .fa 3 (.t 1), none, true⟩,
 ⟨(some 17), .ld (.t 16), none, true⟩,
 ⟨(some 18), .ia 1 (.t 15) (.t 17), none, true⟩,
 ⟨(some 19), .ld (.t 18), none, true⟩,
 ⟨(some 20), .fa 1 (.t 1), none, true⟩,
 ⟨(some 21), .ld (.t 20), none, true⟩,
 ⟨(some 22), .call 38 [(.t 21)], none, true⟩,
 p 23 (.bs 1 4 [.string ⟨#[]⟩] [(0, (.t 9)), (1, (.t 14)), (2, (.t 19)), (3, (.t 22))]),
 p 3 (.mv (.t 23))])
 (.seq (.seq (.rg [p 24 (.fa 4 (.t 1)),
 p 25 (.ld (.t 24))])
 (.cond (.t 25) (.rg [p 26 (.mv (.t 3)),
 p 27 (.bs 1 1 [.string ⟨#[]⟩] [(0, (.k (.string ⟨#[108, 111, 99, 107]⟩)))]),
 p 28 (.app 1 16 (.t 26) (.t 27)),
 p 3 (.mv (.t 28))])
 .skip))
 (.seq (.rg [p 29 (.mv (.t 3)),
 p 30 (.fa 5 (.t 1)),
 p 31 (.ld (.t 30)),
 p 32 (.call 84 [(.t 31)]),
 p 33 (.app 1 16 (.t 29) (.t 32)),
 p 34 (.call 407 [(.t 33), (.k (.string ⟨#[32]⟩))]),
 p 2 (.mv (.t 34))])
 .ret))))),
 [.tmp 2]⟩
def F458 : Fnc := ⟨(.seq (.rg [p 2 (.mv (.k (.string ⟨#[]⟩)))])
 (.seq (.rg [p 5 (.mv (.t 0)),
 p 6 (.call 231 [(.t 5)]),
 p 3 (.mv (.t 6))])
 (.seq (.rg [p 7 (.mv (.t 3)),
 p 8 (.call 241 [(.t 7)]),
 p 9 (.call 462 [(.t 8)]),
 p 4 (.mv (.t 9))])
 (.seq (.seq (.rg [p 10 (.mv (.t 3)),
 p 11 (.call 228 [(.t 10), (.k (.int .i64 4))])])
 (.block 0 (.seq (.rg [p 13 (.bin .eql (.t 11) (.k (.int .i64 0))),
 p 12 (.mv (.t 13))])
 (.cond (.t 12) (.seq (.rg [p 14 (.mv (.t 3)),
 p 15 (.mv (.t 4)),
 p 16 (.call 235 [(.t 14), (.t 15)]),
 p 2 (.mv (.t 16))])
 .ret)
 (.seq (.rg [p 18 (.bin .eql (.t 11) (.k (.int .i64 1))),
 p 17 (.mv (.t 18))])
 (.cond (.t 17) (.seq (.rg [p 19 (.mv (.t 3)),
 p 20 (.mv (.t 4)),
 p 21 (.bin .add (.t 20) (.k (.string ⟨#[32]⟩))),
 p 22 (.bs 1 10 [.string ⟨#[]⟩] [(0, (.k (.string ⟨#[]⟩))), (1, (.k (.string ⟨#[114, 101, 97, 100, 32, 119, 111, 114, 100, 32, 111, 110, 101, 32, 48]⟩))), (2, (.k (.string ⟨#[114, 101, 97, 100, 32, 119, 111, 114, 100, 32, 111, 110, 101, 32, 50]⟩))), (3, (.k (.string ⟨#[114, 101, 97, 100, 32, 119, 111, 114, 100, 32, 111, 110, 101, 32, 48, 32, 53]⟩))), (4, (.k (.string ⟨#[119, 114, 105, 116, 101, 32, 98, 121, 116, 101, 32, 111, 110, 101, 32, 51, 32, 50, 53, 54]⟩))), (5, (.k (.string ⟨#[119, 114, 105, 116, 101, 32, 98, 121, 116, 101, 32, 111, 110, 101, 32, 51, 32, 50, 53, 53]⟩))), (6, (.k (.string ⟨#[114, 101, 97, 100, 32, 119, 111, 114, 100, 32, 102, 111, 117, 114, 32, 54, 48]⟩))), (7, (.k (.string ⟨#[114, 101, 97, 100, 32, 119, 111, 114, 100, 32, 119, 114, 97, 112, 32, 54, 48, 32, 108, 111, 99, 107]⟩))), (8, (.k (.string ⟨#[114, 101, 97, 100, 32, 32, 111, 110, 101, 32, 48]⟩))), (9, (.t 21))]),
 p 23 (.call 469 [(.t 19), (.t 22)]),
 p 2 (.mv (.t 23))])
 .ret)
 .skip))))))
 (.seq (.rg [p 24 (.mv (.t 4)),
 p 2 (.mv (.t 24))])
 .ret))))),
 [.tmp 2]⟩
def F459 : Fnc := ⟨(.seq (.rg [p 4 (.mv (.k (.slice none 0 0)))])
 (.seq (.rg [p 8 (.bs 1 0 [.string ⟨#[]⟩] []),
 p 5 (.mv (.t 8))])
 (.seq (.rg [p 6 (.mv (.k (.int .i64 0)))])
 (.seq (.seq (.rg [p 7 (.mv (.k (.int .i64 0)))])
 (.block 0 (.loop (.seq (.seq (.rg [p 9 (.mv (.t 7)),
 p 10 (.mv (.t 0)),
 p 11 (.lens (.t 10)),
 p 12 (.bin .lss (.t 9) (.t 11))])
 (.cond (.t 12) .skip
 (.exit 0)))
 (.seq (.block 1 (.seq (.rg [p 15 (.mv (.t 0)),
 p 16 (.mv (.t 7)),
 p 17 (.ix (.t 15) (.t 16)),
 p 18 (.mv (.t 1)),
 p 19 (.bin .eql (.t 17) (.t 18))])
 (.cond (.t 19) (.seq (.rg [p 20 (.mv (.t 5)),
 p 21 (.mv (.t 0)),
 p 22 (.mv (.t 6)),
 p 23 (.mv (.t 7)),
 p 24 (.sls (.t 21) (some (.t 22)) (some (.t 23))),
 p 25 (.bs 1 1 [.string ⟨#[]⟩] [(0, (.t 24))]),
 p 26 (.app 1 16 (.t 20) (.t 25)),
 p 5 (.mv (.t 26))])
 (.rg [p 27 (.mv (.t 7)),
 p 28 (.bin .add (.t 27) (.k (.int .i64 1))),
 p 6 (.mv (.t 28))]))
 .skip)))
 (.rg [p 13 (.mv (.t 7)),
 p 14 (.bin .add (.t 13) (.k (.int .i64 1))),
 p 7 (.mv (.t 14))]))))))
 (.seq (.rg [p 29 (.mv (.t 5)),
 p 30 (.mv (.t 0)),
 p 31 (.mv (.t 6)),
 p 32 (.sls (.t 30) (some (.t 31)) none),
 p 33 (.bs 1 1 [.string ⟨#[]⟩] [(0, (.t 32))]),
 p 34 (.app 1 16 (.t 29) (.t 33)),
 p 4 (.mv (.t 34))])
 .ret))))),
 [.tmp 4]⟩
def F460 : Fnc := ⟨(.seq (.rg [p 4 (.mv (.k (.int .i64 0)))])
 (.seq (.seq (.rg [p 5 (.mv (.k (.int .i64 0)))])
 (.block 0 (.loop (.seq (.seq (.rg [p 6 (.mv (.t 5)),
 p 7 (.mv (.t 0)),
 p 8 (.len (.t 7)),
 p 9 (.bin .lss (.t 6) (.t 8))])
 (.cond (.t 9) .skip
 (.exit 0)))
 (.seq (.block 1 (.seq (.rg [p 12 (.mv (.t 0)),
 p 13 (.mv (.t 5)),
 p 14 (.ia 1 (.t 12) (.t 13)),
 p 15 (.ld (.t 14)),
 p 16 (.mv (.t 1)),
 p 17 (.bin .eql (.t 15) (.t 16))])
 (.cond (.t 17) (.seq (.rg [p 18 (.mv (.t 5)),
 p 4 (.mv (.t 18))])
 .ret)
 .skip)))
 (.rg [p 10 (.mv (.t 5)),
 p 11 (.bin .add (.t 10) (.k (.int .i64 1))),
 p 5 (.mv (.t 11))]))))))
 (.seq (.rg [p 4 (.mv (.k (.int .i64 (-1))))])
 .ret))),
 [.tmp 4]⟩
def F461 : Fnc := ⟨(.seq (.rg [p 2 (.mv (.k (.int .i64 0)))])
 (.seq (.rg [p 3 (.mv (.k (.int .i64 1)))])
 (.seq (.seq (.rg [p 6 (.mv (.t 0)),
 p 7 (.lens (.t 6)),
 p 8 (.bin .gtr (.t 7) (.k (.int .i64 0))),
 p 9 (.mv (.t 8)),
 ⟨(some 10), .mv (.t 0), (some (9, true)), false⟩,
 ⟨(some 11), .ix (.t 10) (.k (.int .i64 0)), (some (9, true)), false⟩,
 ⟨(some 12), .bin .eql (.t 11) (.k (.int .u8 45)), (some (9, true)), false⟩,
 p 13 (.pick (.t 9) (.t 12) (.k (.bool false)))])
 (.cond (.t 13) (.seq (.rg [p 3 (.mv (.k (.int .i64 (-1))))])
 (.rg [p 14 (.mv (.t 0)),
 p 15 (.sls (.t 14) (some (.k (.int .i64 1))) none),
 p 0 (.mv (.t 15))]))
 .skip))
 (.seq (.rg [p 4 (.mv (.k (.int .i64 0)))])
 (.seq (.seq (.rg [p 5 (.mv (.k (.int .i64 0)))])
 (.block 0 (.loop (.seq (.seq (.rg [p 16 (.mv (.t 5)),
 p 17 (.mv (.t 0)),
 p 18 (.lens (.t 17)),
 p 19 (.bin .lss (.t 16) (.t 18))])
 (.cond (.t 19) .skip
 (.exit 0)))
 (.seq (.block 1 (.seq (.seq (.rg [p 22 (.mv (.t 0)),
 p 23 (.mv (.t 5)),
 p 24 (.ix (.t 22) (.t 23)),
 p 25 (.bin .lss (.t 24) (.k (.int .u8 48))),
 p 26 (.mv (.t 25)),
 ⟨(some 27), .mv (.t 0), (some (26, false)), false⟩,
 ⟨(some 28), .mv (.t 5), (some (26, false)), false⟩,
 ⟨(some 29), .ix (.t 27) (.t 28), (some (26, false)), false⟩,
 ⟨(some 30), .bin .gtr (.t 29) (.k (.int .u8 57)), (some (26, false)), false⟩,
 p 31 (.pick (.t 26) (.k (.bool true)) (.t 30)),
 p 32 (.mv (.t 31)),
 ⟨(some 33), .mv (.t 0), (some (32, false)), false⟩,
 ⟨(some 34), .lens (.t 33), (some (32, false)), false⟩,
 ⟨(some 35), .bin .gtr (.t 34) (.k (.int .i64 18)), (some (32, false)), false⟩,
 p 36 (.pick (.t 32) (.k (.bool true)) (.t 35))])
 (.cond (.t 36) (.seq (.rg [p 2 (.mv (.k (.int .i64 0)))])
 .ret)
 .skip))
 (.rg [p 37 (.mv (.t 4)),
 p 38 (.bin .mul (.t 37) (.k (.int .i64 10))),
 p 39 (.mv (.t 0)),
 p 40 (.mv (.t 5)),
 p 41 (.ix (.t 39) (.t 40)),
 p 42 (.cvi .i64 (.t 41)),
 p 43 (.bin .add (.t 38) (.t 42)),
 p 44 (.bin .sub (.t 43) (.k (.int .i64 48))),
 p 4 (.mv (.t 44))])))
 (.rg [p 20 (.mv (.t 5)),
 p 21 (.bin .add (.t 20) (.k (.int .i64 1))),
 p 5 (.mv (.t 21))]))))))
 (.seq (.rg [p 45 (.mv (.t 3)),
 p 46 (.mv (.t 4)),
 p 47 (.bin .mul (.t 45) (.t 46)),
 p 2 (.mv (.t 47))])
 .ret)))))),
 [.tmp 2]⟩
def F462 : Fnc := ⟨(.seq (.rg [p 1 (.box (.t 0)),
 p 2 (.mv (.k (.string ⟨#[]⟩)))])
 (.seq (.seq (.rg [p 5 (.ldn 6 (.t 1)),
 p 6 (.call 207 [(.t 5)]),
 p 7 (.not (.t 6))])
 (.cond (.t 7) (.seq (.rg [p 2 (.mv (.k (.string ⟨#[]⟩)))])
 .ret)
 .skip))
 (.seq (.rg [p 3 (.mv (.k (.string ⟨#[114, 101, 97, 100]⟩)))])
 (.seq (.seq (.rg [p 8 (.fa 0 (.t 1)),
 p 9 (.ld (.t 8))])
 (.cond (.t 9) (.rg [p 3 (.mv (.k (.string ⟨#[119, 114, 105, 116, 101]⟩)))])
 .skip))
 (.seq (.rg [⟨(some 10), .mv (.t 3), none, true⟩,
 ⟨(some 11), .bin .add (.t 10) (.k (.string ⟨#[32]⟩)), none, true⟩,
 ⟨(some 12), .bs 1 3 [.string ⟨#[]⟩] [(0, (.k (.string ⟨#[98, 121, 116, 101]⟩))), (1, (.k (.string ⟨#[104, 97, 108, 102]⟩))), (2, (.k (.string ⟨#[119, 111, 114, 100]⟩)))], none, true⟩,
 ⟨(some 13), .fa 2 (.t 1), none, true⟩,
 ⟨(some 14), .ld (.t 13), none, true⟩,
 ⟨(some 15), .ia 1 (.t 12) (.t 14), none, true⟩,
 ⟨(some 16), .ld (.t 15), none, true⟩,
 ⟨(some 17), .bin .add (.t 11) (.t 16), none, true⟩,
 ⟨(some 18), .bin .add (.t 17) (.k (.string ⟨#[32]⟩)), none, true⟩,
 ⟨(some 19), .bs 1 4 [.string ⟨#[]⟩] [(0, (.k (.string ⟨#[111, 110, 101]⟩))), (1, (.k (.string ⟨#[102, 111, 117, 114]⟩))), (2, (.k (.string ⟨#[119, 114, 97, 112]⟩))), (3, (.k (.string ⟨#[101, 105, 103, 104, 116]⟩)))], none, true⟩,
 ⟨(some 20), .fa 3 (.t 1), none, true⟩,
 ⟨(some 21), .ld (.t 20), none, true⟩,
 ⟨(some 22), .ia 1 (.t 19) (.t 21), none, true⟩,
 ⟨(some 23), .ld (.t 22), none, true⟩,
 ⟨(some 24), .bin .add (.t 18) (.t 23), none, true⟩,
 ⟨(some 25), .bin .add (.t 24) (.k (.string ⟨#[32]⟩)), none, true⟩,
 ⟨(some 26), .fa 1 (.t 1), none, true⟩,
 ⟨(some 27), .ld (.t 26), none, true⟩,
 ⟨(some 28), .call 187 [(.t 27)], none, true⟩,
 p 29 (.bin .add (.t 25) (.t 28)),
 p 3 (.mv (.t 29))])
 (.seq (.seq (.rg [p 30 (.fa 4 (.t 1)),
 p 31 (.ld (.t 30))])
 (.cond (.t 31) (.rg [p 32 (.mv (.t 3)),
 p 33 (.bin .add (.t 32) (.k (.string ⟨#[32, 108, 111, 99, 107]⟩))),
 p 3 (.mv (.t 33))])
 .skip))
 (.seq (.seq (.rg [p 4 (.mv (.k (.int .i64 0)))])
 (.block 0 (.loop (.seq (.seq (.rg [p 34 (.mv (.t 4)),
 p 35 (.fa 5 (.t 1)),
 p 36 (.ld (.t 35)),
 p 37 (.len (.t 36)),
 p 38 (.bin .lss (.t 34) (.t 37))])
 (.cond (.t 38) .skip
 (.exit 0)))
 (.seq (.block 1 (.rg [p 41 (.mv (.t 3)),
 p 42 (.bin .add (.t 41) (.k (.string ⟨#[32]⟩))),
 p 43 (.fa 5 (.t 1)),
 p 44 (.ld (.t 43)),
 p 45 (.mv (.t 4)),
 p 46 (.ia 1 (.t 44) (.t 45)),
 p 47 (.ld (.t 46)),
 p 48 (.call 187 [(.t 47)]),
 p 49 (.bin .add (.t 42) (.t 48)),
 p 3 (.mv (.t 49))]))
 (.rg [p 39 (.mv (.t 4)),
 p 40 (.bin .add (.t 39) (.k (.int .i64 1))),
 p 4 (.mv (.t 40))]))))))
 (.seq (.rg [p 50 (.mv (.t 3)),
 p 2 (.mv (.t 50))])
 .ret)))))))),
 [.tmp 2]⟩
def F463 : Fnc := ⟨(.seq (.rg [p 4 (.mv (.k (.slice none 0 0)))])
 (.seq (.rg [p 5 (.mv (.t 0)),
 p 6 (.mv (.t 1)),
 p 7 (.call 470 [(.t 5), (.t 6), (.k (.int .i64 0)), (.k (.int .i64 (-1)))]),
 p 4 (.mv (.t 7))])
 .ret)),
 [.tmp 4]⟩
def F464 : Fnc := ⟨(.seq (.rg [p 4 (.mv (.k (.int .i64 0)))])
 (.seq (.seq (.rg [p 6 (.mv (.t 0)),
 p 7 (.len (.t 6)),
 p 8 (.mv (.k (.int .i64 0)))])
 (.block 0 (.loop (.seq (.rg [p 9 (.bin .lss (.t 8) (.t 7))])
 (.seq (.cond (.t 9) .skip
 (.exit 0))
 (.seq (.block 1 (.seq (.rg [p 10 (.mv (.t 8)),
 p 5 (.mv (.t 10))])
 (.seq (.rg [p 11 (.mv (.t 1)),
 p 12 (.mv (.t 0)),
 p 13 (.mv (.t 5)),
 p 14 (.ia 1 (.t 12) (.t 13)),
 p 15 (.ld (.t 14)),
 p 16 (.bin .eql (.t 11) (.t 15))])
 (.cond (.t 16) (.seq (.rg [p 17 (.mv (.t 5)),
 p 4 (.mv (.t 17))])
 .ret)
 .skip))))
 (.rg [p 18 (.bin .add (.t 8) (.k (.int .i64 1))),
 p 8 (.mv (.t 18))])))))))
 (.seq (.rg [p 4 (.mv (.k (.int .i64 (-1))))])
 .ret))),
 [.tmp 4]⟩
def F465 : Fnc := ⟨(.seq (.rg [p 0 (.mv (.k (.slice none 0 0)))])
 (.seq (.rg [p 1 (.bs 1 3 [.string ⟨#[]⟩] [(0, (.k (.string ⟨#[98, 121, 116, 101]⟩))), (1, (.k (.string ⟨#[104, 97, 108, 102]⟩))), (2, (.k (.string ⟨#[119, 111, 114, 100]⟩)))]),
 p 0 (.mv (.t 1))])
 .ret)),
 [.tmp 0]⟩
def F466 : Fnc := ⟨(.seq (.rg [p 0 (.mv (.k (.slice none 0 0)))])
 (.seq (.rg [p 1 (.bs 1 4 [.string ⟨#[]⟩] [(0, (.k (.string ⟨#[111, 110, 101]⟩))), (1, (.k (.string ⟨#[102, 111, 117, 114]⟩))), (2, (.k (.string ⟨#[119, 114, 97, 112]⟩))), (3, (.k (.string ⟨#[101, 105, 103, 104, 116]⟩)))]),
 p 0 (.mv (.t 1))])
 .ret)),
 [.tmp 0]⟩
def F467 : Fnc := ⟨(.seq (.rg [p 2 (.mv (.k (.slice none 0 0))),
 p 3 (.mv (.k (.bool false)))])
 (.seq (.rg [p 9 (.bs 1 0 [.int .i64 0] []),
 p 4 (.mv (.t 9))])
 (.seq (.seq (.rg [p 10 (.mv (.t 0)),
 p 11 (.len (.t 10)),
 p 12 (.mv (.k (.int .i64 0)))])
 (.block 0 (.loop (.seq (.rg [p 13 (.bin .lss (.t 12) (.t 11))])
 (.seq (.cond (.t 13) .skip
 (.exit 0))
 (.seq (.block 1 (.seq (.rg [p 14 (.ia 1 (.t 10) (.t 12)),
 p 15 (.ld (.t 14)),
 p 6 (.mv (.t 15))])
 (.seq (.rg [p 17 (.mv (.t 6)),
 p 18 (.call 408 [(.t 17), (.k (.int .i64 18))]),
 p 16 (.mv (.t 18)),
 p 19 (.ext 0 (.t 16)),
 p 20 (.ext 1 (.t 16)),
 p 7 (.mv (.t 19)),
 p 8 (.mv (.t 20))])
 (.seq (.seq (.rg [p 21 (.mv (.t 8)),
 p 22 (.not (.t 21))])
 (.cond (.t 22) (.seq (.rg [p 2 (.mv (.k (.slice none 0 0))),
 p 3 (.mv (.k (.bool false)))])
 .ret)
 .skip))
 (.rg [p 23 (.mv (.t 4)),
 p 24 (.mv (.t 7)),
 p 25 (.bs 1 1 [.int .i64 0] [(0, (.t 24))]),
 p 26 (.app 1 8 (.t 23) (.t 25)),
 p 4 (.mv (.t 26))])))))
 (.rg [p 27 (.bin .add (.t 12) (.k (.int .i64 1))),
 p 12 (.mv (.t 27))])))))))
 (.seq (.rg [p 28 (.mv (.t 4)),
 p 2 (.mv (.t 28)),
 p 3 (.mv (.k (.bool true)))])
 .ret)))),
 [.tmp 2, .tmp 3]⟩
def F468 : Fnc := ⟨(.seq (.rg [p 2 (.mv (.k (.string ⟨#[]⟩)))])
 (.seq (.seq (.rg [p 3 (.mv (.t 0))])
 (.cond (.t 3) (.seq (.rg [p 2 (.mv (.k (.string ⟨#[119, 114, 105, 116, 101]⟩)))])
 .ret)
 .skip))
 (.seq (.rg [p 2 (.mv (.k (.string ⟨#[114, 101, 97, 100]⟩)))])
 .ret))),
 [.tmp 2]⟩
def F469 : Fnc := ⟨(.seq (.rg [p 4 (.mv (.k (.string ⟨#[]⟩)))])
 (.seq (.rg [p 5 (.mv (.t 1)),
 p 6 (.mv (.t 0)),
 p 7 (.mv (.t 1)),
 p 8 (.len (.t 7)),
 p 9 (.call 228 [(.t 6), (.t 8)]),
 p 10 (.ia 1 (.t 5) (.t 9)),
 p 11 (.ld (.t 10)),
 p 4 (.mv (.t 11))])
 .ret)),
 [.tmp 4]⟩
def F470 : Fnc := ⟨(.seq (.rg [p 8 (.mv (.k (.slice none 0 0)))])
 (.seq (.seq (.rg [p 12 (.mv (.t 3)),
 p 13 (.bin .eql (.t 12) (.k (.int .i64 0)))])
 (.cond (.t 13) (.seq (.rg [p 8 (.mv (.k (.slice none 0 0)))])
 .ret)
 .skip))
 (.seq (.seq (.rg [p 14 (.mv (.t 1)),
 p 15 (.bin .eql (.t 14) (.k (.string ⟨#[]⟩)))])
 (.cond (.t 15) (.seq (.rg [p 16 (.mv (.t 0)),
 p 17 (.mv (.t 3)),
 p 18 (.call 471 [(.t 16), (.t 17)]),
 p 8 (.mv (.t 18))])
 .ret)
 .skip))
 (.seq (.seq (.rg [p 19 (.mv (.t 3)),
 p 20 (.bin .lss (.t 19) (.k (.int .i64 0)))])
 (.cond (.t 20) (.rg [p 21 (.mv (.t 0)),
 p 22 (.mv (.t 1)),
 p 23 (.call 472 [(.t 21), (.t 22)]),
 p 24 (.bin .add (.t 23) (.k (.int .i64 1))),
 p 3 (.mv (.t 24))])
 .skip))
 (.seq (.rg [p 25 (.mv (.t 3)),
 p 26 (.mv (.t 0)),
 p 27 (.lens (.t 26)),
 p 28 (.bin .add (.t 27) (.k (.int .i64 1))),
 p 29 (.mn [(.t 25), (.t 28)]),
 p 3 (.mv (.t 29))])
 (.seq (.rg [p 30 (.mv (.t 3)),
 p 31 (.mk 1 16 [.string ⟨#[]⟩] (.t 30) (.t 30)),
 p 9 (.mv (.t 31))])
 (.seq (.rg [p 32 (.mv (.t 3)),
 p 33 (.bin .sub (.t 32) (.k (.int .i64 1))),
 p 3 (.mv (.t 33))])
 (.seq (.rg [p 10 (.mv (.k (.int .i64 0)))])
 (.seq (.block 0 (.loop (.seq (.seq (.rg [p 34 (.mv (.t 10)),
 p 35 (.mv (.t 3)),
 p 36 (.bin .lss (.t 34) (.t 35))])
 (.cond (.t 36) .skip
 (.exit 0)))
 (.block 1 (.seq (.rg [p 37 (.mv (.t 0)),
 p 38 (.mv (.t 1)),
 p 39 (.call 473 [(.t 37), (.t 38)]),
 p 11 (.mv (.t 39))])
 (.seq (.seq (.rg [p 40 (.mv (.t 11)),
 p 41 (.bin .lss (.t 40) (.k (.int .i64 0)))])
 (.cond (.t 41) (.exit 0)
 .skip))
 (.seq (.rg [p 42 (.mv (.t 9)),
 p 43 (.mv (.t 10)),
 p 44 (.mv (.t 0)),
 p 45 (.mv (.t 11)),
 p 46 (.mv (.t 2)),
 p 47 (.bin .add (.t 45) (.t 46)),
 p 48 (.sls (.t 44) none (some (.t 47))),
 p 49 (.ia 1 (.t 42) (.t 43)),
 ⟨none, .st (.t 49) (.t 48), none, false⟩])
 (.seq (.rg [p 50 (.mv (.t 0)),
 p 51 (.mv (.t 11)),
 p 52 (.mv (.t 1)),
 p 53 (.lens (.t 52)),
 p 54 (.bin .add (.t 51) (.t 53)),
 p 55 (.sls (.t 50) (some (.t 54)) none),
 p 0 (.mv (.t 55))])
 (.rg [p 56 (.mv (.t 10)),
 p 57 (.bin .add (.t 56) (.k (.int .i64 1))),
 p 10 (.mv (.t 57))])))))))))
 (.seq (.rg [p 58 (.mv (.t 9)),
 p 59 (.mv (.t 10)),
 p 60 (.mv (.t 0)),
 p 61 (.ia 1 (.t 58) (.t 59)),
 ⟨none, .st (.t 61) (.t 60), none, false⟩])
 (.seq (.rg [p 62 (.mv (.t 9)),
 p 63 (.mv (.t 10)),
 p 64 (.bin .add (.t 63) (.k (.int .i64 1))),
 p 65 (.sl 1 (.t 62) none (some (.t 64)) none),
 p 8 (.mv (.t 65))])
 .ret))))))))))),
 [.tmp 8]⟩
end Go.Proofs.YtoppcdecolponaaGreatDoor.AL
namespace Go.Proofs.YtoppcdecolponaaGreatDoor.AL
open Go
def prgT : List (Nat × Fnc) := [(21, F21),
 (22, F22),
 (29, F29),
 (30, F30),
 (33, F33),
 (38, F38),
 (51, F51),
 (60, F60),
 (66, F66),
 (67, F67),
 (71, F71),
 (84, F84),
 (92, F92),
 (103, F103),
 (123, F123),
 (172, F172),
 (173, F173),
 (179, F179),
 (180, F180),
 (183, F183),
 (187, F187),
 (201, F201),
 (205, F205),
 (207, F207),
 (211, F211),
 (228, F228),
 (229, F229),
 (230, F230),
 (231, F231),
 (233, F233),
 (234, F234),
 (235, F235),
 (236, F236),
 (237, F237),
 (239, F239),
 (240, F240),
 (241, F241),
 (257, F257),
 (264, F264),
 (266, F266),
 (452, F452),
 (453, F453),
 (454, F454),
 (456, F456),
 (457, F457),
 (458, F458),
 (459, F459),
 (460, F460),
 (461, F461),
 (462, F462),
 (463, F463),
 (464, F464),
 (465, F465),
 (466, F466),
 (467, F467),
 (468, F468),
 (469, F469),
 (470, F470)]
def prg : Prg := fun f => prgT.lookup f
theorem g21 : prg 21 = some F21 := by kernel_rfl
theorem g22 : prg 22 = some F22 := by kernel_rfl
theorem g29 : prg 29 = some F29 := by kernel_rfl
theorem g30 : prg 30 = some F30 := by kernel_rfl
theorem g33 : prg 33 = some F33 := by kernel_rfl
theorem g38 : prg 38 = some F38 := by kernel_rfl
theorem g51 : prg 51 = some F51 := by kernel_rfl
theorem g60 : prg 60 = some F60 := by kernel_rfl
theorem g66 : prg 66 = some F66 := by kernel_rfl
theorem g67 : prg 67 = some F67 := by kernel_rfl
theorem g71 : prg 71 = some F71 := by kernel_rfl
theorem g84 : prg 84 = some F84 := by kernel_rfl
theorem g92 : prg 92 = some F92 := by kernel_rfl
theorem g103 : prg 103 = some F103 := by kernel_rfl
theorem g123 : prg 123 = some F123 := by kernel_rfl
theorem g172 : prg 172 = some F172 := by kernel_rfl
theorem g173 : prg 173 = some F173 := by kernel_rfl
theorem g179 : prg 179 = some F179 := by kernel_rfl
theorem g180 : prg 180 = some F180 := by kernel_rfl
theorem g183 : prg 183 = some F183 := by kernel_rfl
theorem g187 : prg 187 = some F187 := by kernel_rfl
theorem g201 : prg 201 = some F201 := by kernel_rfl
theorem g205 : prg 205 = some F205 := by kernel_rfl
theorem g207 : prg 207 = some F207 := by kernel_rfl
theorem g211 : prg 211 = some F211 := by kernel_rfl
theorem g228 : prg 228 = some F228 := by kernel_rfl
theorem g229 : prg 229 = some F229 := by kernel_rfl
theorem g230 : prg 230 = some F230 := by kernel_rfl
theorem g231 : prg 231 = some F231 := by kernel_rfl
theorem g233 : prg 233 = some F233 := by kernel_rfl
theorem g234 : prg 234 = some F234 := by kernel_rfl
theorem g235 : prg 235 = some F235 := by kernel_rfl
theorem g236 : prg 236 = some F236 := by kernel_rfl
theorem g237 : prg 237 = some F237 := by kernel_rfl
theorem g239 : prg 239 = some F239 := by kernel_rfl
theorem g240 : prg 240 = some F240 := by kernel_rfl
theorem g241 : prg 241 = some F241 := by kernel_rfl
theorem g257 : prg 257 = some F257 := by kernel_rfl
theorem g264 : prg 264 = some F264 := by kernel_rfl
theorem g266 : prg 266 = some F266 := by kernel_rfl
theorem g452 : prg 452 = some F452 := by kernel_rfl
theorem g453 : prg 453 = some F453 := by kernel_rfl
theorem g454 : prg 454 = some F454 := by kernel_rfl
theorem g456 : prg 456 = some F456 := by kernel_rfl
theorem g457 : prg 457 = some F457 := by kernel_rfl
theorem g458 : prg 458 = some F458 := by kernel_rfl
theorem g459 : prg 459 = some F459 := by kernel_rfl
theorem g460 : prg 460 = some F460 := by kernel_rfl
theorem g461 : prg 461 = some F461 := by kernel_rfl
theorem g462 : prg 462 = some F462 := by kernel_rfl
theorem g463 : prg 463 = some F463 := by kernel_rfl
theorem g464 : prg 464 = some F464 := by kernel_rfl
theorem g465 : prg 465 = some F465 := by kernel_rfl
theorem g466 : prg 466 = some F466 := by kernel_rfl
theorem g467 : prg 467 = some F467 := by kernel_rfl
theorem g468 : prg 468 = some F468 := by kernel_rfl
theorem g469 : prg 469 = some F469 := by kernel_rfl
theorem g470 : prg 470 = some F470 := by kernel_rfl
theorem prg_ok : prgT.all (fun p => p.2.body.ok) = true := by kernel_rfl
end Go.Proofs.YtoppcdecolponaaGreatDoor.AL
