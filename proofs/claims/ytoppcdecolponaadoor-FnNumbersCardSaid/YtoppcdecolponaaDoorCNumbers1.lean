/- What functions do with plain data, each by the form of its code. Printed by program. -/
import Derived.Test.YtoppcdecolponaaDoorCNumbers0
namespace Go.Proofs.YtoppcdecolponaaDoor.AL
open Go
set_option linter.unusedVariables false
set_option linter.unusedSimpArgs false
set_option maxRecDepth 4096
theorem c_48 (s : List UInt8) (hs : s.length ≤ 1000) : CV prg 48 [.w (.string ⟨(s).toArray⟩)] (fun res => res = .w (.string ⟨(hexS s).toArray⟩)) := by
 refine cv_in g48 (Ed [0] rfl (Ei (Eo (Ea (Eb rfl) (Eg (Ee (Ed [0] rfl (Ei (Eo (Ea (o_bs rfl rfl rfl rfl) (Ea (Eb rfl) ?_)))))))))))
 refine Eg (Ee (Ed [0, 3] rfl (Ei (Ei (Eo (Ea (Eb rfl) (Ea (Ev rfl) (Ea (Eb rfl) (Eg (Ee (Ed [0, 3, 7, 8] rfl ?_)))))))))))
 refine S_block (S_loop (ι := Nat) (fun i => i ≤ s.length) (fun i => [(3, .ls 0 ((hexS (s.take i)).map byR).length), (8, .w (.int .i64 (i : Int)))]) (fun i => [.arr 1 ((hexS (s.take i)).map byR)]) (fun i => s.length - i) 1 0 (by simp) rfl (hasOf ⟨rfl, rfl, trivial⟩ rfl) rfl (fun _ _ => rfl) (fun _ _ => ⟨rfl, rfl⟩) ?_)
 intro i hi
 obtain ⟨x0, hx0⟩ : ∃ x, i < s.length → s[i]? = some x := by
  by_cases h : i < s.length
  · exact ⟨s[i], fun _ => List.getElem?_eq_getElem h⟩
  · exact ⟨0, fun h2 => absurd h2 h⟩
 have hxl := x0.toNat_lt
 have hfl := hexS_len (s.take i)
 have htl : (s.take i).length = i := by rw [List.length_take]; omega
 have hml : ((hexS (s.take i)).map byR).length = 2 * i := by rw [List.length_map, hfl, htl]
 refine Ed [0, 3, 7, 8] rfl (Ei (Eo (Ea (o_lss rfl rfl) (Eg (Ee (Ed [0, 3, 7, 8, 9] rfl (Ei ?_)))))))
 first | refine s_condD rfl ?_ ?_ | refine s_condB rfl ?_ ?_
 intro h1
 try rw [nnp] at h1
 refine Ew (Ee (Ed [0, 3, 7, 8] rfl (Ei (S_block (Ei (Eo (Ea (Eb rfl) (Ea (Eb rfl) (Eg (Ee (Ed [0, 3, 4, 7, 8] rfl ?_)))))))))))
 refine Eo (Ea (Eb rfl) (Ea (Eb rfl) (Ea (Eb rfl) (s_ixM rfl rfl (by omega) ?_))))
 intro y2 e2
 first | (simp only [Int.toNat_natCast] at e2; obtain rfl := Option.some.inj ((hx0 (by omega)).symm.trans e2)) | skip
 refine Ea (o_shr4 rfl rfl) (Ea (o_ixb (a := hexL) rfl rfl (by omega) (hex_at (k := x0.toNat / 16) (by omega))) (Ea (Eb rfl) (Ea (Eb rfl) (s_ixM rfl rfl (by omega) ?_))))
 intro y3 e3
 first | (simp only [Int.toNat_natCast] at e3; obtain rfl := Option.some.inj ((hx0 (by omega)).symm.trans e3)) | skip
 refine Ea (o_and15 rfl rfl) (Ea (o_ixb (a := hexL) rfl rfl (by omega) (hex_at (k := x0.toNat % 16) (by omega))) (Ea (o_bs rfl rfl rfl rfl) ?_))
 first | refine Ea (o_appL rfl rfl rfl rfl rfl rfl rfl (by simp [roomy]; omega)) ?_ | refine Ea (o_app rfl rfl rfl rfl rfl (by simp [roomy]; omega)) ?_
 refine Ea (Eb rfl) (Eg (q_blkN (Ee (Ed [0, 3, 7, 8] rfl (Eo ?_)))))
 first | refine Ea (o_addn rfl rfl (by omega)) ?_ | refine Ea (o_add rfl rfl) ?_
 refine Ea (Eb rfl) (Eg (q_loopN ?_))
 · refine ⟨i + 1, by omega, by omega, hasOf ⟨?_, rfl, trivial⟩ ?_⟩ <;> rw [hexS_snoc (hx0 (by omega))] <;> rfl
 intro h1
 try rw [nnp] at h1
 refine s_exit (q_seqX (q_loopX (q_blkH (Ee (Ed [3] rfl (Ei (Eo (Ea (Eb rfl) (Ea (o_cvbsb rfl rfl rfl) (Ea (Eb rfl) (Eg ?_)))))))))))
 refine Ee (Ed [2] rfl (Eu (ret_leafR rfl rfl ?_)))
 rotate_left
 all_goals
  rw [take_end (by omega)]
theorem c_78 (t : List UInt8) (ht : t.length ≤ 1000) : CV prg 78 [.w (.string ⟨(hexS t).toArray⟩)] (fun res => res = .tup [.w (.string ⟨t.toArray⟩), .w (.bool true)]) := by
 have hhl := hexS_len t
 refine cv_in g78 (Ed [0] rfl (Ei (Eo (Ea (Eb rfl) (Ea (Eb rfl) (Eg (Ee (Ed [0] rfl (Ei (Ei (Eo ?_)))))))))))
 refine Ea (Eb rfl) (Ea (Ev rfl) ?_)
 first | refine Ea (o_rem rfl rfl (by decide)) ?_ | refine Ea (o_rem rfl rfl (by omega)) ?_
 refine Ea (o_neq rfl rfl) (Eg (Ee (Ed [0, 11] rfl ?_)))
 first | refine s_condD rfl ?_ ?_ | refine s_condB rfl ?_ ?_
 · intro h1
   exfalso
   exact h1 (hex_even t)
 intro h1
 try rw [nnp] at h1
 refine Ew (Ee (Ed [0] rfl (Ei (Eo (Ea (o_bs rfl rfl rfl rfl) (Ea (Eb rfl) (Eg (Ee (Ed [0, 4] rfl (Ei (Ei ?_)))))))))))
 refine Eo (Ea (Eb rfl) (Eg (Ee (Ed [0, 4, 5] rfl (S_block (S_loop (ι := Nat) (fun i => i ≤ t.length) (fun i => [(4, .ls 0 ((t.take i).map byR).length), (5, .w (.int .i64 (2 * (i : Int))))]) (fun i => [.arr 1 ((t.take i).map byR)]) (fun i => t.length - i) 1 0 (by simp) rfl (hasOf ⟨rfl, rfl, trivial⟩ rfl) rfl (fun _ _ => rfl) (fun _ _ => ⟨rfl, rfl⟩) ?_))))))
 intro i hi
 obtain ⟨x0, hx0⟩ : ∃ x, i < t.length → t[i]? = some x := by
  by_cases h : i < t.length
  · exact ⟨t[i], fun _ => List.getElem?_eq_getElem h⟩
  · exact ⟨0, fun h2 => absurd h2 h⟩
 have hxl := x0.toNat_lt
 have htl : (t.take i).length = i := by rw [List.length_take]; omega
 have hml : ((t.take i).map byR).length = i := by rw [List.length_map, htl]
 refine Ed [0, 4, 5] rfl (Ei (Ei (Eo (Ea (Eb rfl) (Ea (Eb rfl) (Ea (Ev rfl) (Ea (o_lss rfl rfl) (Eg (Ee (Ed [0, 4, 5, 16] rfl ?_))))))))))
 first | refine s_condD rfl ?_ ?_ | refine s_condB rfl ?_ ?_
 intro h2
 try rw [nnp] at h2
 refine Ew (Ee (Ed [0, 4, 5] rfl (Ei (S_block (Ei (Eo (Ea (Eb rfl) (Ea (Eb rfl) (Ea (o_ixb rfl rfl (by omega) (hex_at1 (hx0 (by omega)))) (Eh rfl rfl (c_273h (k := x0.toNat / 16) (by omega)) (Ea (Eb rfl) ?_)))))))))))
 refine Ea (Eb rfl) ?_
 first | refine Ea (o_addn rfl rfl (by omega)) ?_ | refine Ea (o_add rfl rfl) ?_
 refine Ea (o_ixb rfl rfl (by omega) (hex_at2 (hx0 (by omega)))) (Eh rfl rfl (c_273h (k := x0.toNat % 16) (by omega)) (Ea (Eb rfl) (Ea (Eb rfl) (Eg (Ee (Ed [0, 4, 5, 6, 7] rfl (Ei (Ei (Eo (Ea (Eb rfl) (Ea (o_lss rfl rfl) ?_)))))))))))
 rw [nlt_false (by omega)]
 refine Ea (Eb rfl) (Ec rfl (Ea (Eb rfl) (Ec rfl (Ea (o_lss rfl rfl) ?_))))
 rw [nlt_false (by omega)]
 refine Ea (En rfl rfl) (Eg (Ee (Ed [0, 4, 5, 6, 7, 31, 32, 33] rfl (s_condF rfl (Ew (Ee (Ed [0, 4, 5, 6, 7, 31, 32] rfl (Eo (Ea (Eb rfl) (Ea (Eb rfl) ?_))))))))))
 first | refine Ea (o_muln rfl rfl (by omega)) ?_ | refine Ea (o_mul rfl rfl) ?_
 refine Ea (Eb rfl) ?_
 first | refine Ea (o_addn rfl rfl (by omega)) ?_ | refine Ea (o_add rfl rfl) ?_
 refine Ea (o_cvi rfl) (Ea (o_bs rfl rfl rfl rfl) ?_)
 first | refine Ea (o_appL rfl rfl rfl rfl rfl rfl rfl (by simp [roomy]; omega)) ?_ | refine Ea (o_app rfl rfl rfl rfl rfl (by simp [roomy]; omega)) ?_
 refine Ea (Eb rfl) (Eg (q_blkN (Ee (Ed [0, 4, 5, 31, 32] rfl (Eo (Ea (Eb rfl) ?_))))))
 first | refine Ea (o_addn rfl rfl (by omega)) ?_ | refine Ea (o_add rfl rfl) ?_
 refine Ea (Eb rfl) (Eg (q_loopN ?_))
 · refine ⟨i + 1, by omega, by omega, hasOf ⟨?_, ?_, trivial⟩ ?_⟩
   · rw [un_snoc (hx0 (by omega))]; rfl
   · exact congrArg (fun b => some (V.w (.int .i64 b))) (by omega)
   · rw [un_snoc (hx0 (by omega))]; rfl
 intro h2
 try rw [nnp] at h2
 refine s_exit (q_seqX (q_loopX (q_blkH (Ee (Ed [4] rfl (Ei (Eo (Ea (Eb rfl) (Ea (o_cvbsb rfl rfl rfl) (Ea (Eb rfl) (Ea (Eb rfl) ?_)))))))))))
 refine Eg (Ee (Ed [2, 3] rfl (Eu (ret_leafR rfl rfl ?_))))
 rotate_left
 all_goals
  rw [take_end (by omega)]
def cutS (s : List UInt8) (l h : Int) : List UInt8 := (s.take h.toNat).drop l.toNat
theorem cutS_len {s : List UInt8} {l h : Int} (h0 : 0 ≤ l ∧ l ≤ h ∧ h ≤ s.length) : ((cutS s l h).length : Int) = h - l := by
 simp only [cutS, List.length_drop, List.length_take]; omega
def oneB (v : Int) : List UInt8 := [UInt8.ofNat (IntKind.wrap .u8 v).toNat]
def spF (code : List Int) (i h : Int) (s : List UInt8) : List UInt8 × Int × Int :=
 if (s.length : Int) = 0 then textF code i h 3 else
 let k := bwF code i h s.length
 let z := bwF code k.2.1 k.2.2 4
 if z.1 = 0 then (cutS s 0 k.1 ++ cutS s (k.1 + 1) s.length, z.2) else if z.1 = 1 then
  let b := byF code z.2.1 z.2.2
  (cutS s 0 k.1 ++ oneB b.1 ++ cutS s k.1 s.length, b.2)
 else if z.1 = 2 then (cutS s 0 k.1, z.2) else
  let x := bwF code z.2.1 z.2.2 255
  (cutS s 0 k.1 ++ oneB (bxor (IntKind.wrap .i64 (((s[k.1.toNat]?).getD 0).toNat : Int)) (1 + x.1)) ++ cutS s (k.1 + 1) s.length, x.2)
theorem sp_e {code : List Int} {i h : Int} {s t : List UInt8} {i1 g1 : Int} (h0 : (s.length : Int) = 0) (ht : textF code i h 3 = (t, i1, g1)) : spF code i h s = (t, i1, g1) := by rw [spF, if_pos h0, ht]
theorem sp_0 {code : List Int} {i h k i1 g1 z i2 g2 : Int} {s : List UInt8} (h0 : ¬ (s.length : Int) = 0) (hk : bwF code i h s.length = (k, i1, g1)) (hz : bwF code i1 g1 4 = (z, i2, g2)) (h1 : z = 0) : spF code i h s = (cutS s 0 k ++ cutS s (k + 1) s.length, i2, g2) := by
 rw [spF, if_neg h0]; simp only [hk, hz]; rw [if_pos h1]
theorem sp_1 {code : List Int} {i h k i1 g1 z i2 g2 b i3 g3 : Int} {s : List UInt8} (h0 : ¬ (s.length : Int) = 0) (hk : bwF code i h s.length = (k, i1, g1)) (hz : bwF code i1 g1 4 = (z, i2, g2)) (h1 : ¬ z = 0) (h2 : z = 1) (hb : byF code i2 g2 = (b, i3, g3)) : spF code i h s = (cutS s 0 k ++ oneB b ++ cutS s k s.length, i3, g3) := by
 rw [spF, if_neg h0]; simp only [hk, hz]; rw [if_neg h1, if_pos h2, hb]
theorem sp_2 {code : List Int} {i h k i1 g1 z i2 g2 : Int} {s : List UInt8} (h0 : ¬ (s.length : Int) = 0) (hk : bwF code i h s.length = (k, i1, g1)) (hz : bwF code i1 g1 4 = (z, i2, g2)) (h1 : ¬ z = 0) (h2 : ¬ z = 1) (h3 : z = 2) : spF code i h s = (cutS s 0 k, i2, g2) := by
 rw [spF, if_neg h0]; simp only [hk, hz]; rw [if_neg h1, if_neg h2, if_pos h3]
theorem sp_3 {code : List Int} {i h k i1 g1 z i2 g2 x i3 g3 : Int} {s : List UInt8} {y : UInt8} (h0 : ¬ (s.length : Int) = 0) (hk : bwF code i h s.length = (k, i1, g1)) (hz : bwF code i1 g1 4 = (z, i2, g2)) (h1 : ¬ z = 0) (h2 : ¬ z = 1) (h3 : ¬ z = 2) (hy : s[k.toNat]? = some y) (hx : bwF code i2 g2 255 = (x, i3, g3)) :
 spF code i h s = (cutS s 0 k ++ oneB (bxor (IntKind.wrap .i64 (y.toNat : Int)) (1 + x)) ++ cutS s (k + 1) s.length, i3, g3) := by
 rw [spF, if_neg h0]; simp only [hk, hz]; rw [if_neg h1, if_neg h2, if_neg h3, hx, hy]; rfl
theorem cgf_235 (code : List Int) (hc : code.length ≤ 1048576) (i h : Int) (hi : 0 ≤ i ∧ i ≤ code.length) (s : List UInt8) (hs : s.length ≤ 1000) : GV prg 235 [cur code i h] [.cp 0 0, .w (.string ⟨(s).toArray⟩)] (fun u L1 => ∃ (x : List UInt8) (i2 h2 : Int), spF code i h s = (x, i2, h2) ∧ u = .w (.string ⟨(x).toArray⟩) ∧ ((x.length : Int) ≤ s.length + 3) ∧ (0 ≤ i2 ∧ i2 ≤ code.length) ∧ L1 = [cur code i2 h2]) := by
 refine gv_in g235 (Ed [0, 1] rfl (Ei (Eo (Ea (Eb rfl) (Eg (Ee (Ed [0, 1] rfl (Ei (Ei (Eo (Ea (Eb rfl) ?_)))))))))))
 refine Ea (Ev rfl) (Ea (o_eql rfl rfl) (Eg (Ee (Ed [0, 1, 8] rfl ?_))))
 first | refine s_condD rfl ?_ ?_ | refine s_condB rfl ?_ ?_
 intro h1
 try rw [nnp] at h1
 refine Ei (Eo (Ea (Eb rfl) (s_callG [0] rfl rfl rfl rfl (by simp) (.inl rfl) (cgf_236 _ hc _ _ hi _ (by omega)) ?_)))
 rintro u L1 ⟨t0, i, h, hFt0, rfl, ht0, hi, rfl⟩
 refine ⟨_, _, rfl, rfl, ?_⟩
 refine Ea (Eb rfl) (Eg (Ee (Ed [4] rfl (Eu (q_seqR ?_)))))
 · refine retG_leaf [] (.inr rfl) rfl rfl rfl rfl (show (List.range 1 ++ []).Nodup by decide) ?_
   first | exact ⟨_, _, _, sp_e (by assumption) hFt0, rfl, by omega, hi, rfl⟩ | exact ⟨_, _, _, sp_0 (by assumption) hFk hFz (by assumption), rfl, by rw [List.length_append]; have g1 := cutS_len (s := s) (l := 0) (h := k) (by omega); have g2 := cutS_len (s := s) (l := k + 1) (h := s.length) (by omega); omega, hi, rfl⟩ | exact ⟨_, _, _, sp_1 (by assumption) hFk hFz (by assumption) (by assumption) hFb, rfl, by rw [List.length_append, List.length_append]; have g1 := cutS_len (s := s) (l := 0) (h := k) (by omega); have g2 := cutS_len (s := s) (l := k) (h := s.length) (by omega); have g3 : (oneB b).length = 1 := rfl; omega, hi, rfl⟩ | exact ⟨_, _, _, sp_2 (by assumption) hFk hFz (by assumption) (by assumption) (by assumption), rfl, by have g1 := cutS_len (s := s) (l := 0) (h := k) (by omega); omega, hi, rfl⟩ | exact ⟨_, _, _, sp_3 (by assumption) hFk hFz (by assumption) (by assumption) (by assumption) hy hFx1, rfl, by rw [List.length_append, List.length_append]; have g1 := cutS_len (s := s) (l := 0) (h := k) (by omega); have g2 := cutS_len (s := s) (l := k + 1) (h := s.length) (by omega); have g3 : (oneB (bxor (IntKind.wrap .i64 (y.toNat : Int)) (1 + x1))).length = 1 := rfl; omega, hi, rfl⟩
 intro h1
 try rw [nnp] at h1
 refine Ew (Ee (Ed [0, 1] rfl (Ei (Eo (Ea (Eb rfl) (Ea (Eb rfl) (Ea (Ev rfl) (s_callG [0] rfl rfl rfl rfl (by simp) (.inl rfl) (cgf_228 _ hc _ _ hi _) ?_))))))))
 rintro u L1 ⟨k, i, h, hFk, rfl, hk, hi, rfl⟩
 refine ⟨_, _, rfl, rfl, ?_⟩
 have hk1 := hk.1 (by omega)
 obtain ⟨y, hy⟩ : ∃ y, s[k.toNat]? = some y := ⟨_, List.getElem?_eq_getElem (show k.toNat < s.length by omega)⟩
 refine Ea (Eb rfl) (Eg (Ee (Ed [0, 1, 5] rfl (Ei (Ei (Eo (Ea (Eb rfl) (s_callG [0] rfl rfl rfl rfl (by simp) (.inl rfl) (cgf_228 _ hc _ _ hi _) ?_))))))))
 rintro u L1 ⟨z, i, h, hFz, rfl, hz, hi, rfl⟩
 refine ⟨_, _, rfl, rfl, ?_⟩
 refine Eg (Ee (Ed [0, 1, 5, 16] rfl (S_block (Ei (Eo (Ea (o_eql rfl rfl) (Ea (Eb rfl) (Eg (Ee (Ed [0, 1, 5, 16, 17] rfl ?_))))))))))
 first | refine s_condD rfl ?_ ?_ | refine s_condB rfl ?_ ?_
 intro h2
 try rw [nnp] at h2
 refine Ei (Eo (Ea (Eb rfl) (Ea (Eb rfl) (Ea (o_slsb rfl rfl rfl (by omega)) (Ea (Eb rfl) (Ea (Eb rfl) ?_))))))
 first | refine Ea (o_addn rfl rfl (by omega)) ?_ | refine Ea (o_add rfl rfl) ?_
 refine Ea (o_slsb rfl rfl rfl (by omega)) (Ea (o_adds rfl rfl (by simp only [List.length_append, List.length_drop, List.length_take, List.length_cons, List.length_nil]; omega)) (Ea (Eb rfl) (Eg (Ee (Ed [4] rfl (Eu (q_blkR (q_seqR ?_))))))))
 · refine retG_leaf [] (.inr rfl) rfl rfl rfl rfl (show (List.range 1 ++ []).Nodup by decide) ?_
   first | exact ⟨_, _, _, sp_e (by assumption) hFt0, rfl, by omega, hi, rfl⟩ | exact ⟨_, _, _, sp_0 (by assumption) hFk hFz (by assumption), rfl, by rw [List.length_append]; have g1 := cutS_len (s := s) (l := 0) (h := k) (by omega); have g2 := cutS_len (s := s) (l := k + 1) (h := s.length) (by omega); omega, hi, rfl⟩ | exact ⟨_, _, _, sp_1 (by assumption) hFk hFz (by assumption) (by assumption) hFb, rfl, by rw [List.length_append, List.length_append]; have g1 := cutS_len (s := s) (l := 0) (h := k) (by omega); have g2 := cutS_len (s := s) (l := k) (h := s.length) (by omega); have g3 : (oneB b).length = 1 := rfl; omega, hi, rfl⟩ | exact ⟨_, _, _, sp_2 (by assumption) hFk hFz (by assumption) (by assumption) (by assumption), rfl, by have g1 := cutS_len (s := s) (l := 0) (h := k) (by omega); omega, hi, rfl⟩ | exact ⟨_, _, _, sp_3 (by assumption) hFk hFz (by assumption) (by assumption) (by assumption) hy hFx1, rfl, by rw [List.length_append, List.length_append]; have g1 := cutS_len (s := s) (l := 0) (h := k) (by omega); have g2 := cutS_len (s := s) (l := k + 1) (h := s.length) (by omega); have g3 : (oneB (bxor (IntKind.wrap .i64 (y.toNat : Int)) (1 + x1))).length = 1 := rfl; omega, hi, rfl⟩
 intro h2
 try rw [nnp] at h2
 refine Ei (Eo (Ea (o_eql rfl rfl) (Ea (Eb rfl) (Eg (Ee (Ed [0, 1, 5, 16, 27] rfl ?_))))))
 first | refine s_condD rfl ?_ ?_ | refine s_condB rfl ?_ ?_
 intro h3
 try rw [nnp] at h3
 refine Ei (s_rgH [0] rfl (h_op (Eb rfl) rfl (h_op (Eb rfl) rfl (h_op (o_slsb rfl rfl rfl (by omega)) rfl (h_op (Eb rfl) rfl (h_callG [0] [] rfl rfl rfl rfl rfl rfl (by simp) rfl (cgf_229 _ hc _ _ hi) (by simp) ?_))))))
 rintro u L1 ⟨b, i, h, hFb, rfl, hb, hi, rfl⟩
 refine ⟨rfl, _, _, _, _, rfl, rfl, rfl, rfl, ?_⟩
 refine h_op (o_cvi rfl) rfl (h_op (o_bs rfl rfl rfl rfl) rfl (h_op (o_cvbs1 rfl rfl (wrap_u8 _)) rfl (h_op (o_adds rfl rfl (by simp only [List.length_append, List.length_drop, List.length_take, List.length_cons, List.length_nil]; omega)) rfl (h_op (Eb rfl) rfl (h_op (Eb rfl) rfl (h_op (o_slsb rfl rfl rfl (by omega)) rfl (h_bar rfl (Ea (o_adds rfl rfl (by simp only [List.length_append, List.length_drop, List.length_take, List.length_cons, List.length_nil]; omega)) (Ea (Eb rfl) (Eg (Ee ?_)))))))))))
 refine Ed [4] rfl (Eu (q_blkR (q_seqR ?_)))
 · refine retG_leaf [] (.inr rfl) rfl rfl rfl rfl (show (List.range 1 ++ []).Nodup by decide) ?_
   first | exact ⟨_, _, _, sp_e (by assumption) hFt0, rfl, by omega, hi, rfl⟩ | exact ⟨_, _, _, sp_0 (by assumption) hFk hFz (by assumption), rfl, by rw [List.length_append]; have g1 := cutS_len (s := s) (l := 0) (h := k) (by omega); have g2 := cutS_len (s := s) (l := k + 1) (h := s.length) (by omega); omega, hi, rfl⟩ | exact ⟨_, _, _, sp_1 (by assumption) hFk hFz (by assumption) (by assumption) hFb, rfl, by rw [List.length_append, List.length_append]; have g1 := cutS_len (s := s) (l := 0) (h := k) (by omega); have g2 := cutS_len (s := s) (l := k) (h := s.length) (by omega); have g3 : (oneB b).length = 1 := rfl; omega, hi, rfl⟩ | exact ⟨_, _, _, sp_2 (by assumption) hFk hFz (by assumption) (by assumption) (by assumption), rfl, by have g1 := cutS_len (s := s) (l := 0) (h := k) (by omega); omega, hi, rfl⟩ | exact ⟨_, _, _, sp_3 (by assumption) hFk hFz (by assumption) (by assumption) (by assumption) hy hFx1, rfl, by rw [List.length_append, List.length_append]; have g1 := cutS_len (s := s) (l := 0) (h := k) (by omega); have g2 := cutS_len (s := s) (l := k + 1) (h := s.length) (by omega); have g3 : (oneB (bxor (IntKind.wrap .i64 (y.toNat : Int)) (1 + x1))).length = 1 := rfl; omega, hi, rfl⟩
 intro h3
 try rw [nnp] at h3
 refine Ei (Eo (Ea (o_eql rfl rfl) (Ea (Eb rfl) (Eg (Ee (Ed [0, 1, 5, 42] rfl ?_))))))
 first | refine s_condD rfl ?_ ?_ | refine s_condB rfl ?_ ?_
 intro h4
 try rw [nnp] at h4
 refine Ei (Eo (Ea (Eb rfl) (Ea (Eb rfl) (Ea (o_slsb rfl rfl rfl (by omega)) (Ea (Eb rfl) (Eg (Ee (Ed [4] rfl (Eu (q_blkR (q_seqR ?_)))))))))))
 · refine retG_leaf [] (.inr rfl) rfl rfl rfl rfl (show (List.range 1 ++ []).Nodup by decide) ?_
   first | exact ⟨_, _, _, sp_e (by assumption) hFt0, rfl, by omega, hi, rfl⟩ | exact ⟨_, _, _, sp_0 (by assumption) hFk hFz (by assumption), rfl, by rw [List.length_append]; have g1 := cutS_len (s := s) (l := 0) (h := k) (by omega); have g2 := cutS_len (s := s) (l := k + 1) (h := s.length) (by omega); omega, hi, rfl⟩ | exact ⟨_, _, _, sp_1 (by assumption) hFk hFz (by assumption) (by assumption) hFb, rfl, by rw [List.length_append, List.length_append]; have g1 := cutS_len (s := s) (l := 0) (h := k) (by omega); have g2 := cutS_len (s := s) (l := k) (h := s.length) (by omega); have g3 : (oneB b).length = 1 := rfl; omega, hi, rfl⟩ | exact ⟨_, _, _, sp_2 (by assumption) hFk hFz (by assumption) (by assumption) (by assumption), rfl, by have g1 := cutS_len (s := s) (l := 0) (h := k) (by omega); omega, hi, rfl⟩ | exact ⟨_, _, _, sp_3 (by assumption) hFk hFz (by assumption) (by assumption) (by assumption) hy hFx1, rfl, by rw [List.length_append, List.length_append]; have g1 := cutS_len (s := s) (l := 0) (h := k) (by omega); have g2 := cutS_len (s := s) (l := k + 1) (h := s.length) (by omega); have g3 : (oneB (bxor (IntKind.wrap .i64 (y.toNat : Int)) (1 + x1))).length = 1 := rfl; omega, hi, rfl⟩
 intro h4
 try rw [nnp] at h4
 refine Ew (q_blkN (Ee (Ed [0, 1, 5] rfl (Ei (s_rgH [0] rfl (h_op (Eb rfl) rfl (h_op (Eb rfl) rfl (h_op (o_slsb rfl rfl rfl (by omega)) rfl (h_op (Eb rfl) rfl (h_op (Eb rfl) rfl (h_op (o_ixb rfl rfl hk1.1 hy) rfl ?_)))))))))))
 refine h_op (o_cvi rfl) rfl (h_op (Eb rfl) rfl (h_callG [0] [] rfl rfl rfl rfl rfl rfl (by simp) rfl (cgf_228 _ hc _ _ hi _) (by simp) ?_))
 rintro u L1 ⟨x1, i, h, hFx1, rfl, hx1, hi, rfl⟩
 refine ⟨rfl, _, _, _, _, rfl, rfl, rfl, rfl, ?_⟩
 first | refine h_op (o_addn rfl rfl (by omega)) rfl ?_ | refine h_op (o_add rfl rfl) rfl ?_
 refine h_op (o_bxor rfl rfl) rfl (h_op (o_cvi rfl) rfl (h_op (o_bs rfl rfl rfl rfl) rfl (h_op (o_cvbs1 rfl rfl (wrap_u8 _)) rfl (h_op (o_adds rfl rfl (by simp only [List.length_append, List.length_drop, List.length_take, List.length_cons, List.length_nil]; omega)) rfl (h_op (Eb rfl) rfl (h_op (Eb rfl) rfl ?_))))))
 first | refine h_op (o_addn rfl rfl (by omega)) rfl ?_ | refine h_op (o_add rfl rfl) rfl ?_
 refine h_op (o_slsb rfl rfl rfl (by omega)) rfl (h_bar rfl (Em (is := [61, 65]) rfl (Ea (o_adds rfl rfl (by simp only [List.length_append, List.length_drop, List.length_take, List.length_cons, List.length_nil]; omega)) (Ea (Eb rfl) (Eg (Ee (Ed [4] rfl (Eu ?_))))))))
 · refine retG_leaf [] (.inr rfl) rfl rfl rfl rfl (show (List.range 1 ++ []).Nodup by decide) ?_
   first | exact ⟨_, _, _, sp_e (by assumption) hFt0, rfl, by omega, hi, rfl⟩ | exact ⟨_, _, _, sp_0 (by assumption) hFk hFz (by assumption), rfl, by rw [List.length_append]; have g1 := cutS_len (s := s) (l := 0) (h := k) (by omega); have g2 := cutS_len (s := s) (l := k + 1) (h := s.length) (by omega); omega, hi, rfl⟩ | exact ⟨_, _, _, sp_1 (by assumption) hFk hFz (by assumption) (by assumption) hFb, rfl, by rw [List.length_append, List.length_append]; have g1 := cutS_len (s := s) (l := 0) (h := k) (by omega); have g2 := cutS_len (s := s) (l := k) (h := s.length) (by omega); have g3 : (oneB b).length = 1 := rfl; omega, hi, rfl⟩ | exact ⟨_, _, _, sp_2 (by assumption) hFk hFz (by assumption) (by assumption) (by assumption), rfl, by have g1 := cutS_len (s := s) (l := 0) (h := k) (by omega); omega, hi, rfl⟩ | exact ⟨_, _, _, sp_3 (by assumption) hFk hFz (by assumption) (by assumption) (by assumption) hy hFx1, rfl, by rw [List.length_append, List.length_append]; have g1 := cutS_len (s := s) (l := 0) (h := k) (by omega); have g2 := cutS_len (s := s) (l := k + 1) (h := s.length) (by omega); have g3 : (oneB (bxor (IntKind.wrap .i64 (y.toNat : Int)) (1 + x1))).length = 1 := rfl; omega, hi, rfl⟩
theorem c_196 (code : List Int) (hc : code.length ≤ 1048576) : CV prg 196 [.sl 1 (code.map uR)] (fun u => ∃ n : Int, u = .w (.int .i64 n) ∧ i64 n) := by
 refine cv_in g196 (Ed [0] rfl (Ei (Eo (Ea (Eb rfl) (Eg (Ee (Ed [0] rfl (Ei (Eo (Ea (Eb rfl) (s_callG [] rfl rfl rfl rfl (by simp) (.inl rfl) (cgf_231 _ hc) ?_)))))))))))
 rintro u L1 ⟨rfl, rfl⟩
 refine ⟨_, _, rfl, rfl, ?_⟩
 have hi : (0 : Int) ≤ 0 ∧ (0 : Int) ≤ (code.length : Int) := by omega
 refine Ea (Eb rfl) (Eg (Ee (Ed [3] rfl (Ei (Eo (Ea (Eb rfl) (s_callG [0] rfl rfl rfl rfl (by simp) (.inl rfl) (cgf_232 _ hc _ _ hi) ?_)))))))
 rintro u L1 ⟨x, i, h, hF, rfl, hx, hi, rfl⟩
 refine ⟨_, _, rfl, rfl, ?_⟩
 refine Ea (Eb rfl) (Eg (Ee (Ed [2] rfl (Eu ?_))))
 · refine ret_leaf (.inr rfl) rfl rfl ?_
   exact ⟨_, rfl, hx⟩
theorem c_193 (code : List Int) (hc : code.length ≤ 1048576) : CV prg 193 [.sl 1 (code.map uR)] (fun u => ∃ s : List UInt8, u = .w (.string ⟨s.toArray⟩) ∧ (s.length : Int) ≤ 40) := by
 refine cv_in g193 (Ed [0] rfl (Ei (Eo (Ea (Eb rfl) (Eg (Ee (Ed [0] rfl (Ei (Eo (Ea (Eb rfl) (s_callG [] rfl rfl rfl rfl (by simp) (.inl rfl) (cgf_231 _ hc) ?_)))))))))))
 rintro u L1 ⟨rfl, rfl⟩
 refine ⟨_, _, rfl, rfl, ?_⟩
 have hi : (0 : Int) ≤ 0 ∧ (0 : Int) ≤ (code.length : Int) := by omega
 refine Ea (Eb rfl) (Eg (Ee (Ed [3] rfl (Ei (Eo (Ea (Eb rfl) (s_callG [0] rfl rfl rfl rfl (by simp) (.inl rfl) (cgf_236 _ hc _ _ hi _ (by omega)) ?_)))))))
 rintro u L1 ⟨x, i, h, hF, rfl, hx, hi, rfl⟩
 refine ⟨_, _, rfl, rfl, ?_⟩
 refine Ea (Eb rfl) (Eg (Ee (Ed [2] rfl (Eu ?_))))
 · refine ret_leaf (.inr rfl) rfl rfl ?_
   exact ⟨_, rfl, hx⟩
def rvF (code : List Int) : List UInt8 :=
 let r := nuF code 0 (newF code)
 let t := textF code r.2.1 r.2.2 4
 let o := onF code t.2.1 t.2.2 4
 if o.1 = true then (spF code o.2.1 o.2.2 (varS r.1 ++ t.1)).1 else varS r.1 ++ t.1
theorem rv_1 {code : List Int} {n i1 g1 i2 g2 i3 g3 i4 g4 : Int} {t s : List UInt8} (hn : nuF code 0 (newF code) = (n, i1, g1)) (ht : textF code i1 g1 4 = (t, i2, g2)) (ho : onF code i2 g2 4 = (true, i3, g3)) (hs : spF code i3 g3 (varS n ++ t) = (s, i4, g4)) : rvF code = s := by
 rw [rvF, hn]; simp only [ht, ho]; rw [if_pos trivial, hs]
theorem rv_2 {code : List Int} {n i1 g1 i2 g2 i3 g3 : Int} {t : List UInt8} (hn : nuF code 0 (newF code) = (n, i1, g1)) (ht : textF code i1 g1 4 = (t, i2, g2)) (ho : onF code i2 g2 4 = (false, i3, g3)) : rvF code = varS n ++ t := by
 rw [rvF, hn]; simp only [ht, ho]; rw [if_neg (by simp)]
theorem c_195 (code : List Int) (hc : code.length ≤ 1048576) : CV prg 195 [.sl 1 (code.map uR)] (fun u => ∃ s : List UInt8, rvF code = s ∧ u = .w (.string ⟨s.toArray⟩)) := by
 refine cv_in g195 (Ed [0] rfl (Ei (Eo (Ea (Eb rfl) (Eg (Ee (Ed [0] rfl (Ei (Eo (Ea (Eb rfl) (s_callG [] rfl rfl rfl rfl (by simp) (.inl rfl) (cgf_231 _ hc) ?_)))))))))))
 rintro u L1 ⟨rfl, rfl⟩
 refine ⟨_, _, rfl, rfl, ?_⟩
 have hi : (0 : Int) ≤ 0 ∧ (0 : Int) ≤ (code.length : Int) := by omega
 refine Ea (Eb rfl) (Eg (Ee (Ed [3] rfl (Ei (Eo (Ea (Eb rfl) (s_callG [0] rfl rfl rfl rfl (by simp) (.inl rfl) (cgf_232 _ hc _ _ hi) ?_)))))))
 rintro u L1 ⟨n, i, h, hFn, rfl, hn, hi, rfl⟩
 refine ⟨_, _, rfl, rfl, ?_⟩
 refine Eh rfl rfl (c_216 ..) (Ea (Eb rfl) (s_callG [0] rfl rfl rfl rfl (by simp) (.inl rfl) (cgf_236 _ hc _ _ hi _ (by omega)) ?_))
 rintro u L1 ⟨t, i, h, hFt, rfl, ht, hi, rfl⟩
 refine ⟨_, _, rfl, rfl, ?_⟩
 refine Ea (o_adds rfl rfl (by have := varS_len n; omega)) ?_
 have hvl := varS_len n
 have hvt : (varS n ++ t).length = (varS n).length + t.length := List.length_append ..
 refine Ea (Eb rfl) (Eg (Ee (Ed [3, 4] rfl (Ei (Ei (Eo (Ea (Eb rfl) (s_callG [0] rfl rfl rfl rfl (by simp) (.inl rfl) (cgf_233 _ hc _ _ hi _) ?_))))))))
 rintro u L1 ⟨o, i, h, hFo, rfl, ho, hi, rfl⟩
 refine ⟨_, _, rfl, rfl, ?_⟩
 refine Eg (Ee (Ed [3, 4, 14] rfl ?_))
 first | refine s_condD rfl ?_ ?_ | refine s_condN rfl ?_ ?_ | refine s_condNB rfl ?_ ?_ | refine s_condB rfl ?_ ?_
 intro h1
 try rw [nnp] at h1
 try subst h1
 refine Ei (Eo (Ea (Eb rfl) (Ea (Eb rfl) (s_callG [0] rfl rfl rfl rfl (by simp) (.inl rfl) (cgf_235 _ hc _ _ hi _ (by omega)) ?_))))
 rintro u L1 ⟨s, i, h, hFs, rfl, hs, hi, rfl⟩
 refine ⟨_, _, rfl, rfl, ?_⟩
 refine Ea (Eb rfl) (Eg (Ee (Ed [2] rfl (Eu (q_seqR ?_)))))
 · refine ret_leaf (.inr rfl) rfl rfl ?_
   first | exact ⟨_, rv_1 hFn hFt hFo hFs, rfl⟩ | exact ⟨_, rv_2 hFn hFt hFo, rfl⟩
 intro h1
 try rw [nnp] at h1
 try subst h1
 refine Ew (Ee (Ed [4] rfl (Ei (Eo (Ea (Eb rfl) (Ea (Eb rfl) (Eg (Ee (Ed [2] rfl (Eu ?_))))))))))
 · refine ret_leaf (.inr rfl) rfl rfl ?_
   first | exact ⟨_, rv_1 hFn hFt hFo hFs, rfl⟩ | exact ⟨_, rv_2 hFn hFt hFo, rfl⟩
theorem Er (code : List Int) (hc : code.length ≤ 1048576) : CV prg 195 [.sl 1 (code.map uR)] (fun v => v = .w (.string ⟨(rvF code).toArray⟩)) :=
 (c_195 code hc).mono fun u ⟨s, h1, h2⟩ => by rw [h2, h1]
theorem c_121 (code : List Int) (hw : code.length ≤ 140737488355328) : CV prg 121 [.sl 1 (code.map uR)] (fun res => res = .w (.bool true)) := by
 refine cv_in g121 (Ed [0] rfl (Ei (Eo (Ea (Eb rfl) (Eg (Ee (Ed [0] rfl (Ei (Ei (Eo (Ea (Eb rfl) ?_)))))))))))
 refine Eh rfl rfl (c_123 code hw) (Eg (Ee (Ed [0, 18] rfl ?_)))
 first | refine s_condD rfl ?_ ?_ | refine s_condN rfl ?_ ?_ | refine s_condNB rfl ?_ ?_ | refine s_condB rfl ?_ ?_
 intro h1
 try rw [nnp] at h1
 refine Ei (Eo (Ea (Eb rfl) (Eg (Ee (Ed [2] rfl (Eu (q_seqR (Eq rfl rfl ?_))))))))
 rotate_left
 intro h1
 try rw [nnp] at h1
 refine Ew (Ee (Ed [0] rfl (Ei (Eo (Ea (Eb rfl) (s_callP rfl rfl (c_196 _ (by omega)) ?_))))))
 rintro u ⟨n, rfl, hn⟩
 refine Ea (Eb rfl) (Eg (Ee (Ed [0, 3] rfl (Ei (Eo (Ea (Eb rfl) (s_callP rfl rfl (c_193 _ (by omega)) ?_)))))))
 rintro u ⟨tail, rfl, htail⟩
 refine Ea (Eb rfl) (Eg (Ee (Ed [0, 3, 4] rfl (Ei (Eo (Ea (Eb rfl) ?_))))))
 first | refine Eh rfl rfl (c_79 _) ?_ | refine Et rfl rfl (by simp) (c_79 _) rfl ?_
 have hvl := varS_len n
 have hvt : (varS n ++ tail).length = (varS n).length + tail.length := List.length_append ..
 have hfl := fixS_le n
 have hft : (fixS n ++ tail).length = (fixS n).length + tail.length := List.length_append ..
 by_cases hA : 0 ≤ n ∧ n ≤ 562949953421311
 refine Ea (Eb rfl) (Eg (Ee (Ed [0, 3, 4, 5] rfl (Ei (Eo (Ea (Eb rfl) (Ea (Eb rfl) (Ea (o_adds rfl rfl (by first | omega | (simp only [List.length_nil]; omega))) (Eh rfl rfl (c_65 _) ?_)))))))))
 rw [readV_var hA]
 refine Ea (Eb rfl) (Ea (Ep rfl rfl) (Ea (Ep rfl rfl) (Ea (Eb rfl) (Ea (Eb rfl) (Eg (Ee (Ed [0, 3, 4, 5, 6, 7] rfl (Ei (Ei (Eo (Ea (Eb rfl) ?_)))))))))))
 refine Ea (o_neqs rfl rfl) ?_
 rw [decide_eq_true (varS_some hA)]
 refine Ea (Eb rfl) (Ea (o_geq rfl rfl) ?_)
 rw [decide_eq_true hA.1]
 refine Ea (Eb rfl) (Ec rfl (Ea (Eb rfl) (Ec rfl (Ea (o_leq rfl rfl) ?_))))
 rw [decide_eq_true hA.2]
 refine Ea (Ef rfl rfl) (Ea (o_eqb rfl rfl) (Ea (Eb rfl) (Ec rfl (Ea (Eb rfl) (Ec rfl (Ea (o_neqs rfl rfl) (Ec rfl (Ea (Eb rfl) ?_))))))))
 first | refine s_gDT rfl ?_ ?_ | refine s_gB rfl ?_ ?_
 intro h2
 try rw [nnp] at h2
 refine Ea (Eb rfl) (Em (is := [0, 3, 4, 5, 7, 41, 44, 45]) rfl (Ec rfl (Ea (Eb rfl) (Ec rfl (Ea (o_neq rfl rfl) ?_)))))
 rw [dne]
 refine Ec rfl (Ea (Eb rfl) (Ec rfl (Ea (Eb rfl) (Ec rfl (Ea (Eb rfl) (Ec rfl (Ea (Ev rfl) (Ec rfl (Ea (o_neq rfl rfl) ?_)))))))))
 rw [dne]
 refine Ec rfl (Ea (En rfl rfl) (Ec rfl (Ea (Ef rfl rfl) (Ea (En rfl rfl) (Eg (Ee (Ed [0, 3, 4, 55] rfl (s_condF rfl (Ew (Ee (Ed [0, 3, 4] rfl ?_)))))))))))
 refine Ei (Eo (Ea (Eb rfl) ?_))
 first | refine Eh rfl rfl (c_45 n) ?_ | refine Et rfl rfl (by simp) (c_45 n) rfl ?_
 by_cases hB : 0 ≤ n ∧ n < 72057594037927936
 refine Ea (Eb rfl) (Eg (Ee (Ed [0, 3, 4, 8] rfl (Ei (Eo (Ea (Eb rfl) (Ea (Eb rfl) (Ea (o_adds rfl rfl (by first | omega | (simp only [List.length_nil]; omega))) (Eh rfl rfl (c_64 _) ?_)))))))))
 rw [readFx_fix hB]
 refine Ea (Eb rfl) (Ea (Ep rfl rfl) (Ea (Ep rfl rfl) (Ea (Eb rfl) (Ea (Eb rfl) (Eg (Ee (Ed [0, 3, 4, 8, 9, 10] rfl (Ei (Ei (Eo (Ea (Eb rfl) ?_)))))))))))
 refine Ea (o_neqs rfl rfl) ?_
 rw [decide_eq_true (fixS_some hB)]
 refine Ea (Eb rfl) (Ec rfl (Ea (Eb rfl) (Ec rfl (Ea (o_not rfl) (Ec rfl (Ea (Eb rfl) (Ec rfl (Ea (Eb rfl) (Ec rfl (Ea (Eb rfl) (Ec rfl ?_)))))))))))
 refine Ea (o_neq rfl rfl) ?_
 rw [dne]
 refine Ec rfl (Ea (En rfl rfl) (Ec rfl (Ea (Eb rfl) (Ec rfl (Ea (Eb rfl) (Ec rfl (Ea (Ev rfl) (Ec rfl (Ea (o_neq rfl rfl) ?_)))))))))
 rw [fixS_len7 hB]
 refine Em (is := [0, 3, 4, 8, 67, 75, 78]) rfl (Ec rfl (Ea (En rfl rfl) (Ea (Ef rfl rfl) (Ea (Eb rfl) (Ec rfl (Ea (Eb rfl) (Ec rfl (Ea (Ey rfl rfl) ?_))))))))
 rw [decide_eq_false (fixS_some hB)]
 refine Ec rfl (Ea (Eb rfl) (Ec rfl (Ea (o_lss rfl rfl) ?_)))
 rw [decide_eq_false (by omega)]
 refine Ec rfl (Ea (Eb rfl) (Ec rfl (Ea (Eb rfl) (Ec rfl (Ea (o_geq rfl rfl) ?_)))))
 rw [decide_eq_false (by omega)]
 refine Ec rfl (Ea (En rfl rfl) (Ec rfl (Ea (o_eqb rfl rfl) (Ea (En rfl rfl) (Eg (Ee (Ed [0, 3, 4, 91] rfl (s_condF rfl (Ew (Ee (Ed [0, 3, 4] rfl ?_)))))))))))
 refine Ei (Eo (Ea (Eb rfl) ?_))
 first | refine Eh rfl rfl (c_38 n hn) ?_ | refine Et rfl rfl (by simp) (c_38 n hn) rfl ?_
 refine Eh rfl rfl (c_63 _ (by have := itoa_len hn; omega)) ?_
 by_cases hC : -1000000000 < n ∧ n < 1000000000
 rw [numN_yes hn hC]
 refine Ea (Eb rfl) (Ea (Ep rfl rfl) (Ea (Ep rfl rfl) (Ea (Eb rfl) (Ea (Eb rfl) (Eg (Ee (Ed [0, 3, 4, 11, 12] rfl (Ei (Ei (Eo (Ea (Eb rfl) ?_)))))))))))
 refine Ea (Eb rfl) (Ea (Ez rfl rfl) ?_)
 rw [decide_eq_true (by omega)]
 refine Ea (Eb rfl) (Ec rfl (Ea (Eb rfl) (Ec rfl (Ea (o_lss rfl rfl) ?_))))
 rw [decide_eq_true (by omega)]
 refine Ea (Ef rfl rfl) (Ea (o_eqb rfl rfl) (Ea (Eb rfl) (Ec rfl (Ea (Eb rfl) (Ec rfl (Ea (Eb rfl) (Ec rfl (Ea (Eb rfl) (Ec rfl (Ea (Eb rfl) (Ec rfl ?_)))))))))))
 refine Ea (o_neq rfl rfl) ?_
 rw [dne]
 refine Em (is := [0, 4, 106, 108, 111]) rfl (Ec rfl (Ea (Ef rfl rfl) (Ea (En rfl rfl) (Eg (Ee (Ed [0, 4, 113] rfl (s_condF rfl (Ew (Ee (Ed [0, 4] rfl (Ei ?_)))))))))))
 refine Eo (Ea (Eb rfl) ?_)
 first | refine Eh rfl rfl (c_48 tail (by omega)) ?_ | refine Et rfl rfl (by simp) (c_48 tail (by omega)) rfl ?_
 refine Eh rfl rfl (c_78 tail (by omega)) (Ea (Eb rfl) (Ea (Ep rfl rfl) (Ea (Ep rfl rfl) (Ea (Eb rfl) (Ea (Eb rfl) (Eg (Ee (Ed [0, 4, 13, 14] rfl (Ei (Eo (Ea (Eb rfl) ?_)))))))))))
 refine Eh rfl rfl (Er code (by omega)) (Eh rfl rfl (c_65 _) ?_)
 obtain ⟨z, j, hz⟩ : ∃ z j, readV (rvF code) = (z, j) := ⟨_, _, rfl⟩
 rw [hz]
 have hS := readV_cut hz
 refine Ea (Eb rfl) (Ea (Ep rfl rfl) (Ea (Ep rfl rfl) (Ea (Eb rfl) (Ea (Eb rfl) (Eg (Ee (Ed [0, 4, 13, 14, 15, 16] rfl (Ei (Eo (Ea (Eb rfl) (Ea (Eb rfl) ?_)))))))))))
 refine Ec rfl (Ea (Eb rfl) (Ec rfl (Ea (Eb rfl) (Ec rfl (Ea (Ey rfl rfl) ?_)))))
 rw [deq]
 refine Ea (Ef rfl rfl) (Ea (Eb rfl) (Ec rfl (Ea (Eb rfl) (Ec rfl (Ea (o_eql rfl rfl) (Ec rfl (Ea (Eb rfl) ?_)))))))
 first | refine s_gDF rfl ?_ ?_ | refine s_gB rfl ?_ ?_
 intro h3
 try rw [nnp] at h3
 refine Ea (Eb rfl) (Ec rfl (Ea (Ez rfl rfl) ?_))
 rw [decide_eq_true (hS (by assumption)).1]
 refine Ec rfl (Ea (Eb rfl) (Ec rfl (Ea (Eb rfl) (Em (is := [0, 15, 16, 132, 135, 138, 139]) rfl (Ec rfl (Ea (Eb rfl) (Ec rfl (Eh rfl rfl (Er code (by omega)) (Ec rfl (Ea (Ev rfl) (Ec rfl ?_)))))))))))
 refine Ea (o_leq rfl rfl) ?_
 rw [decide_eq_true (hS (by assumption)).2.1]
 refine Ec rfl (Ea (Ef rfl rfl) (Ec rfl (Ea (Eb rfl) (Ec rfl (Ea (Eb rfl) (Ec rfl (Ea (Ez rfl rfl) ?_)))))))
 rw [decide_eq_true (hS (by assumption)).1]
 refine Ec rfl (Ea (Ef rfl rfl) (Ec rfl (Ea (Eb rfl) (Ec rfl (Ea (Eb rfl) (Ec rfl (Ea (Eb rfl) (Ec rfl (Eh rfl rfl (Er code (by omega)) (Ec rfl (Ea (Ev rfl) ?_)))))))))))
 refine Em (is := [0, 15, 16, 132, 135, 149, 150, 153]) rfl (Ec rfl (Ea (o_leq rfl rfl) ?_))
 rw [decide_eq_true (hS (by assumption)).2.1]
 refine Ec rfl (Ea (Ef rfl rfl) (Ec rfl (Ea (Eb rfl) (Ec rfl (Ea (Eb rfl) (Ec rfl ?_))))))
 first | refine Eh rfl rfl (c_79 _) ?_ | refine Et rfl rfl (by simp) (c_79 _) rfl ?_
 refine Ec rfl (Ea (Eb rfl) (Ec rfl (Eh rfl rfl (Er code (by omega)) (Ec rfl (Ea (Eb rfl) (Ec rfl (Ea (o_slsb rfl rfl rfl (by have := hS (by assumption); omega)) (Ec rfl (Ea (Ey rfl rfl) ?_)))))))))
 rw [decide_eq_true (hS (by assumption)).2.2]
 refine Ec rfl (Ea (Ef rfl rfl) (Ec rfl (Ea (En rfl rfl) (Ea (Ef rfl rfl) (Ea (Eb rfl) (Eg (Ee (Ed [2] rfl (Eu (Eq rfl rfl ?_))))))))))
 rotate_left
 intro h3
 try rw [nnp] at h3
 refine Ej rfl (Ej rfl (Ej rfl (Ek rfl (Em (is := [0, 15, 16, 132, 135, 138, 139]) rfl (Ek rfl (Ek rfl (Ek rfl (Ek rfl (Ej rfl (Ej rfl (Ek rfl ?_)))))))))))
 refine Ek rfl (Ej rfl (Ej rfl (Ek rfl (Ek rfl (Ek rfl (Ek rfl (Em (is := [0, 15, 16, 132, 135, 149, 150, 153]) rfl (Ek rfl (Ej rfl (Ej rfl ?_))))))))))
 iterate 7 refine Ek rfl ?_
 refine Ej rfl (Ec rfl (Ea (Ef rfl rfl) (Ea (Ef rfl rfl) (Ea (Eb rfl) (Eg (Ee (Ed [2] rfl (Eu (Eq rfl rfl ?_)))))))))
 rotate_left
 rw [numN_no9 hn hC]
 refine Ea (Eb rfl) (Ea (Ep rfl rfl) (Ea (Ep rfl rfl) (Ea (Eb rfl) (Ea (Eb rfl) (Eg (Ee (Ed [0, 3, 4, 11, 12] rfl (Ei (Ei (Eo (Ea (Eb rfl) ?_)))))))))))
 refine Ea (Eb rfl) (Ea (Ez rfl rfl) (Ea (Eb rfl) ?_))
 first | refine s_gDT rfl ?_ ?_ | refine s_gB rfl ?_ ?_
 intro h4
 try rw [nnp] at h4
 refine Ea (Eb rfl) (Ec rfl (Ea (o_lss rfl rfl) ?_))
 rw [decide_eq_false (by omega)]
 refine Ea (Ef rfl rfl) (Ea (o_eqb rfl rfl) (Ea (Eb rfl) (Ec rfl (Ea (Eb rfl) (Ec rfl (Ea (Eb rfl) (Ej rfl (Ej rfl (Ej rfl (Em (is := [0, 4, 106, 108, 111]) rfl (Ec rfl ?_)))))))))))
 refine Ea (En rfl rfl) (Ea (En rfl rfl) (Eg (Ee (Ed [0, 4, 113] rfl (s_condF rfl (Ew (Ee (Ed [0, 4] rfl (Ei (Eo (Ea (Eb rfl) ?_)))))))))))
 first | refine Eh rfl rfl (c_48 tail (by omega)) ?_ | refine Et rfl rfl (by simp) (c_48 tail (by omega)) rfl ?_
 refine Eh rfl rfl (c_78 tail (by omega)) (Ea (Eb rfl) (Ea (Ep rfl rfl) (Ea (Ep rfl rfl) (Ea (Eb rfl) (Ea (Eb rfl) (Eg (Ee (Ed [0, 4, 13, 14] rfl (Ei (Eo (Ea (Eb rfl) ?_)))))))))))
 refine Eh rfl rfl (Er code (by omega)) (Eh rfl rfl (c_65 _) ?_)
 obtain ⟨z, j, hz⟩ : ∃ z j, readV (rvF code) = (z, j) := ⟨_, _, rfl⟩
 rw [hz]
 have hS := readV_cut hz
 refine Ea (Eb rfl) (Ea (Ep rfl rfl) (Ea (Ep rfl rfl) (Ea (Eb rfl) (Ea (Eb rfl) (Eg (Ee (Ed [0, 4, 13, 14, 15, 16] rfl (Ei (Eo (Ea (Eb rfl) (Ea (Eb rfl) ?_)))))))))))
 refine Ec rfl (Ea (Eb rfl) (Ec rfl (Ea (Eb rfl) (Ec rfl (Ea (Ey rfl rfl) ?_)))))
 rw [deq]
 refine Ea (Ef rfl rfl) (Ea (Eb rfl) (Ec rfl (Ea (Eb rfl) (Ec rfl (Ea (o_eql rfl rfl) (Ec rfl (Ea (Eb rfl) ?_)))))))
 first | refine s_gDF rfl ?_ ?_ | refine s_gB rfl ?_ ?_
 intro h5
 try rw [nnp] at h5
 refine Ea (Eb rfl) (Ec rfl (Ea (Ez rfl rfl) ?_))
 rw [decide_eq_true (hS (by assumption)).1]
 refine Ec rfl (Ea (Eb rfl) (Ec rfl (Ea (Eb rfl) (Em (is := [0, 15, 16, 132, 135, 138, 139]) rfl (Ec rfl (Ea (Eb rfl) (Ec rfl (Eh rfl rfl (Er code (by omega)) (Ec rfl (Ea (Ev rfl) (Ec rfl ?_)))))))))))
 refine Ea (o_leq rfl rfl) ?_
 rw [decide_eq_true (hS (by assumption)).2.1]
 refine Ec rfl (Ea (Ef rfl rfl) (Ec rfl (Ea (Eb rfl) (Ec rfl (Ea (Eb rfl) (Ec rfl (Ea (Ez rfl rfl) ?_)))))))
 rw [decide_eq_true (hS (by assumption)).1]
 refine Ec rfl (Ea (Ef rfl rfl) (Ec rfl (Ea (Eb rfl) (Ec rfl (Ea (Eb rfl) (Ec rfl (Ea (Eb rfl) (Ec rfl (Eh rfl rfl (Er code (by omega)) (Ec rfl (Ea (Ev rfl) ?_)))))))))))
 refine Em (is := [0, 15, 16, 132, 135, 149, 150, 153]) rfl (Ec rfl (Ea (o_leq rfl rfl) ?_))
 rw [decide_eq_true (hS (by assumption)).2.1]
 refine Ec rfl (Ea (Ef rfl rfl) (Ec rfl (Ea (Eb rfl) (Ec rfl (Ea (Eb rfl) (Ec rfl ?_))))))
 first | refine Eh rfl rfl (c_79 _) ?_ | refine Et rfl rfl (by simp) (c_79 _) rfl ?_
 refine Ec rfl (Ea (Eb rfl) (Ec rfl (Eh rfl rfl (Er code (by omega)) (Ec rfl (Ea (Eb rfl) (Ec rfl (Ea (o_slsb rfl rfl rfl (by have := hS (by assumption); omega)) (Ec rfl (Ea (Ey rfl rfl) ?_)))))))))
 rw [decide_eq_true (hS (by assumption)).2.2]
 refine Ec rfl (Ea (Ef rfl rfl) (Ec rfl (Ea (En rfl rfl) (Ea (Ef rfl rfl) (Ea (Eb rfl) (Eg (Ee (Ed [2] rfl (Eu (Eq rfl rfl ?_))))))))))
 rotate_left
 intro h5
 try rw [nnp] at h5
 refine Ej rfl (Ej rfl (Ej rfl (Ek rfl (Em (is := [0, 15, 16, 132, 135, 138, 139]) rfl (Ek rfl (Ek rfl (Ek rfl (Ek rfl (Ej rfl (Ej rfl (Ek rfl ?_)))))))))))
 refine Ek rfl (Ej rfl (Ej rfl (Ek rfl (Ek rfl (Ek rfl (Ek rfl (Em (is := [0, 15, 16, 132, 135, 149, 150, 153]) rfl (Ek rfl (Ej rfl (Ej rfl ?_))))))))))
 iterate 7 refine Ek rfl ?_
 refine Ej rfl (Ec rfl (Ea (Ef rfl rfl) (Ea (Ef rfl rfl) (Ea (Eb rfl) (Eg (Ee (Ed [2] rfl (Eu (Eq rfl rfl ?_)))))))))
 rotate_left
 intro h4
 try rw [nnp] at h4
 refine Ej rfl (Ej rfl (Ea (En rfl rfl) (Ea (o_eqb rfl rfl) (Ea (Eb rfl) (Ec rfl (Ea (Eb rfl) (Ec rfl (Ea (Eb rfl) (Ej rfl (Ej rfl (Ej rfl ?_)))))))))))
 refine Em (is := [0, 4, 106, 108, 111]) rfl (Ec rfl (Ea (En rfl rfl) (Ea (En rfl rfl) (Eg (Ee (Ed [0, 4, 113] rfl (s_condF rfl (Ew (Ee (Ed [0, 4] rfl (Ei ?_)))))))))))
 refine Eo (Ea (Eb rfl) ?_)
 first | refine Eh rfl rfl (c_48 tail (by omega)) ?_ | refine Et rfl rfl (by simp) (c_48 tail (by omega)) rfl ?_
 refine Eh rfl rfl (c_78 tail (by omega)) (Ea (Eb rfl) (Ea (Ep rfl rfl) (Ea (Ep rfl rfl) (Ea (Eb rfl) (Ea (Eb rfl) (Eg (Ee (Ed [0, 4, 13, 14] rfl (Ei (Eo (Ea (Eb rfl) ?_)))))))))))
 refine Eh rfl rfl (Er code (by omega)) (Eh rfl rfl (c_65 _) ?_)
 obtain ⟨z, j, hz⟩ : ∃ z j, readV (rvF code) = (z, j) := ⟨_, _, rfl⟩
 rw [hz]
 have hS := readV_cut hz
 refine Ea (Eb rfl) (Ea (Ep rfl rfl) (Ea (Ep rfl rfl) (Ea (Eb rfl) (Ea (Eb rfl) (Eg (Ee (Ed [0, 4, 13, 14, 15, 16] rfl (Ei (Eo (Ea (Eb rfl) (Ea (Eb rfl) ?_)))))))))))
 refine Ec rfl (Ea (Eb rfl) (Ec rfl (Ea (Eb rfl) (Ec rfl (Ea (Ey rfl rfl) ?_)))))
 rw [deq]
 refine Ea (Ef rfl rfl) (Ea (Eb rfl) (Ec rfl (Ea (Eb rfl) (Ec rfl (Ea (o_eql rfl rfl) (Ec rfl (Ea (Eb rfl) ?_)))))))
 first | refine s_gDF rfl ?_ ?_ | refine s_gB rfl ?_ ?_
 intro h6
 try rw [nnp] at h6
 refine Ea (Eb rfl) (Ec rfl (Ea (Ez rfl rfl) ?_))
 rw [decide_eq_true (hS (by assumption)).1]
 refine Ec rfl (Ea (Eb rfl) (Ec rfl (Ea (Eb rfl) (Em (is := [0, 15, 16, 132, 135, 138, 139]) rfl (Ec rfl (Ea (Eb rfl) (Ec rfl (Eh rfl rfl (Er code (by omega)) (Ec rfl (Ea (Ev rfl) (Ec rfl ?_)))))))))))
 refine Ea (o_leq rfl rfl) ?_
 rw [decide_eq_true (hS (by assumption)).2.1]
 refine Ec rfl (Ea (Ef rfl rfl) (Ec rfl (Ea (Eb rfl) (Ec rfl (Ea (Eb rfl) (Ec rfl (Ea (Ez rfl rfl) ?_)))))))
 rw [decide_eq_true (hS (by assumption)).1]
 refine Ec rfl (Ea (Ef rfl rfl) (Ec rfl (Ea (Eb rfl) (Ec rfl (Ea (Eb rfl) (Ec rfl (Ea (Eb rfl) (Ec rfl (Eh rfl rfl (Er code (by omega)) (Ec rfl (Ea (Ev rfl) ?_)))))))))))
 refine Em (is := [0, 15, 16, 132, 135, 149, 150, 153]) rfl (Ec rfl (Ea (o_leq rfl rfl) ?_))
 rw [decide_eq_true (hS (by assumption)).2.1]
 refine Ec rfl (Ea (Ef rfl rfl) (Ec rfl (Ea (Eb rfl) (Ec rfl (Ea (Eb rfl) (Ec rfl ?_))))))
 first | refine Eh rfl rfl (c_79 _) ?_ | refine Et rfl rfl (by simp) (c_79 _) rfl ?_
 refine Ec rfl (Ea (Eb rfl) (Ec rfl (Eh rfl rfl (Er code (by omega)) (Ec rfl (Ea (Eb rfl) (Ec rfl (Ea (o_slsb rfl rfl rfl (by have := hS (by assumption); omega)) (Ec rfl (Ea (Ey rfl rfl) ?_)))))))))
 rw [decide_eq_true (hS (by assumption)).2.2]
 refine Ec rfl (Ea (Ef rfl rfl) (Ec rfl (Ea (En rfl rfl) (Ea (Ef rfl rfl) (Ea (Eb rfl) (Eg (Ee (Ed [2] rfl (Eu (Eq rfl rfl ?_))))))))))
 rotate_left
 intro h6
 try rw [nnp] at h6
 refine Ej rfl (Ej rfl (Ej rfl (Ek rfl (Em (is := [0, 15, 16, 132, 135, 138, 139]) rfl (Ek rfl (Ek rfl (Ek rfl (Ek rfl (Ej rfl (Ej rfl (Ek rfl ?_)))))))))))
 refine Ek rfl (Ej rfl (Ej rfl (Ek rfl (Ek rfl (Ek rfl (Ek rfl (Em (is := [0, 15, 16, 132, 135, 149, 150, 153]) rfl (Ek rfl (Ej rfl (Ej rfl ?_))))))))))
 iterate 7 refine Ek rfl ?_
 refine Ej rfl (Ec rfl (Ea (Ef rfl rfl) (Ea (Ef rfl rfl) (Ea (Eb rfl) (Eg (Ee (Ed [2] rfl (Eu (Eq rfl rfl ?_)))))))))
 rotate_left
 rw [fixS_no hB]
 refine Ea (Eb rfl) (Eg (Ee (Ed [0, 3, 4, 8] rfl (Ei (Eo (Ea (Eb rfl) (Ea (Eb rfl) (Ea (o_adds rfl rfl (by first | omega | (simp only [List.length_nil]; omega))) (Eh rfl rfl (c_64 _) (Ea (Eb rfl) (Ea (Ep rfl rfl) ?_)))))))))))
 refine Ea (Ep rfl rfl) (Ea (Eb rfl) (Ea (Eb rfl) (Eg (Ee (Ed [0, 3, 4, 8, 9, 10] rfl (Ei (Ei (Eo (Ea (Eb rfl) (Ea (o_neqs rfl rfl) ?_))))))))))
 rw [dne]
 refine Ea (Eb rfl) (Ej rfl (Ej rfl (Ej rfl (Ek rfl (Ek rfl (Ek rfl (Ej rfl (Ej rfl (Ek rfl (Ek rfl (Ek rfl ?_)))))))))))
 refine Em (is := [0, 3, 4, 8, 67, 75, 78]) rfl (Ej rfl (Ea (En rfl rfl) (Ea (Eb rfl) (Ec rfl (Ea (Eb rfl) (Ec rfl (Ea (Ey rfl rfl) ?_)))))))
 rw [deq]
 refine Ec rfl (Ea (Eb rfl) (Ec rfl (Ea (o_lss rfl rfl) (Ec rfl (Ea (Eb rfl) ?_)))))
 first | refine s_gDF rfl ?_ ?_ | refine s_gB rfl ?_ ?_
 intro h7
 try rw [nnp] at h7
 refine Ea (Eb rfl) (Ec rfl (Ea (o_geq rfl rfl) ?_))
 rw [decide_eq_true (by omega)]
 refine Ec rfl (Ea (En rfl rfl) (Ec rfl (Ea (o_eqb rfl rfl) (Ea (En rfl rfl) (Eg (Ee (Ed [0, 3, 4, 91] rfl (s_condF rfl (Ew (Ee (Ed [0, 3, 4] rfl ?_)))))))))))
 refine Ei (Eo (Ea (Eb rfl) ?_))
 first | refine Eh rfl rfl (c_38 n hn) ?_ | refine Et rfl rfl (by simp) (c_38 n hn) rfl ?_
 refine Eh rfl rfl (c_63 _ (by have := itoa_len hn; omega)) ?_
 by_cases hC : -1000000000 < n ∧ n < 1000000000
 rw [numN_yes hn hC]
 refine Ea (Eb rfl) (Ea (Ep rfl rfl) (Ea (Ep rfl rfl) (Ea (Eb rfl) (Ea (Eb rfl) (Eg (Ee (Ed [0, 3, 4, 11, 12] rfl (Ei (Ei (Eo (Ea (Eb rfl) ?_)))))))))))
 refine Ea (Eb rfl) (Ea (Ez rfl rfl) ?_)
 rw [decide_eq_true (by omega)]
 refine Ea (Eb rfl) (Ec rfl (Ea (Eb rfl) (Ec rfl (Ea (o_lss rfl rfl) ?_))))
 rw [decide_eq_true (by omega)]
 refine Ea (Ef rfl rfl) (Ea (o_eqb rfl rfl) (Ea (Eb rfl) (Ec rfl (Ea (Eb rfl) (Ec rfl (Ea (Eb rfl) (Ec rfl (Ea (Eb rfl) (Ec rfl (Ea (Eb rfl) (Ec rfl ?_)))))))))))
 refine Ea (o_neq rfl rfl) ?_
 rw [dne]
 refine Em (is := [0, 4, 106, 108, 111]) rfl (Ec rfl (Ea (Ef rfl rfl) (Ea (En rfl rfl) (Eg (Ee (Ed [0, 4, 113] rfl (s_condF rfl (Ew (Ee (Ed [0, 4] rfl (Ei ?_)))))))))))
 refine Eo (Ea (Eb rfl) ?_)
 first | refine Eh rfl rfl (c_48 tail (by omega)) ?_ | refine Et rfl rfl (by simp) (c_48 tail (by omega)) rfl ?_
 refine Eh rfl rfl (c_78 tail (by omega)) (Ea (Eb rfl) (Ea (Ep rfl rfl) (Ea (Ep rfl rfl) (Ea (Eb rfl) (Ea (Eb rfl) (Eg (Ee (Ed [0, 4, 13, 14] rfl (Ei (Eo (Ea (Eb rfl) ?_)))))))))))
 refine Eh rfl rfl (Er code (by omega)) (Eh rfl rfl (c_65 _) ?_)
 obtain ⟨z, j, hz⟩ : ∃ z j, readV (rvF code) = (z, j) := ⟨_, _, rfl⟩
 rw [hz]
 have hS := readV_cut hz
 refine Ea (Eb rfl) (Ea (Ep rfl rfl) (Ea (Ep rfl rfl) (Ea (Eb rfl) (Ea (Eb rfl) (Eg (Ee (Ed [0, 4, 13, 14, 15, 16] rfl (Ei (Eo (Ea (Eb rfl) (Ea (Eb rfl) ?_)))))))))))
 refine Ec rfl (Ea (Eb rfl) (Ec rfl (Ea (Eb rfl) (Ec rfl (Ea (Ey rfl rfl) ?_)))))
 rw [deq]
 refine Ea (Ef rfl rfl) (Ea (Eb rfl) (Ec rfl (Ea (Eb rfl) (Ec rfl (Ea (o_eql rfl rfl) (Ec rfl (Ea (Eb rfl) ?_)))))))
 first | refine s_gDF rfl ?_ ?_ | refine s_gB rfl ?_ ?_
 intro h8
 try rw [nnp] at h8
 refine Ea (Eb rfl) (Ec rfl (Ea (Ez rfl rfl) ?_))
 rw [decide_eq_true (hS (by assumption)).1]
 refine Ec rfl (Ea (Eb rfl) (Ec rfl (Ea (Eb rfl) (Em (is := [0, 15, 16, 132, 135, 138, 139]) rfl (Ec rfl (Ea (Eb rfl) (Ec rfl (Eh rfl rfl (Er code (by omega)) (Ec rfl (Ea (Ev rfl) (Ec rfl ?_)))))))))))
 refine Ea (o_leq rfl rfl) ?_
 rw [decide_eq_true (hS (by assumption)).2.1]
 refine Ec rfl (Ea (Ef rfl rfl) (Ec rfl (Ea (Eb rfl) (Ec rfl (Ea (Eb rfl) (Ec rfl (Ea (Ez rfl rfl) ?_)))))))
 rw [decide_eq_true (hS (by assumption)).1]
 refine Ec rfl (Ea (Ef rfl rfl) (Ec rfl (Ea (Eb rfl) (Ec rfl (Ea (Eb rfl) (Ec rfl (Ea (Eb rfl) (Ec rfl (Eh rfl rfl (Er code (by omega)) (Ec rfl (Ea (Ev rfl) ?_)))))))))))
 refine Em (is := [0, 15, 16, 132, 135, 149, 150, 153]) rfl (Ec rfl (Ea (o_leq rfl rfl) ?_))
 rw [decide_eq_true (hS (by assumption)).2.1]
 refine Ec rfl (Ea (Ef rfl rfl) (Ec rfl (Ea (Eb rfl) (Ec rfl (Ea (Eb rfl) (Ec rfl ?_))))))
 first | refine Eh rfl rfl (c_79 _) ?_ | refine Et rfl rfl (by simp) (c_79 _) rfl ?_
 refine Ec rfl (Ea (Eb rfl) (Ec rfl (Eh rfl rfl (Er code (by omega)) (Ec rfl (Ea (Eb rfl) (Ec rfl (Ea (o_slsb rfl rfl rfl (by have := hS (by assumption); omega)) (Ec rfl (Ea (Ey rfl rfl) ?_)))))))))
 rw [decide_eq_true (hS (by assumption)).2.2]
 refine Ec rfl (Ea (Ef rfl rfl) (Ec rfl (Ea (En rfl rfl) (Ea (Ef rfl rfl) (Ea (Eb rfl) (Eg (Ee (Ed [2] rfl (Eu (Eq rfl rfl ?_))))))))))
 rotate_left
 intro h8
 try rw [nnp] at h8
 refine Ej rfl (Ej rfl (Ej rfl (Ek rfl (Em (is := [0, 15, 16, 132, 135, 138, 139]) rfl (Ek rfl (Ek rfl (Ek rfl (Ek rfl (Ej rfl (Ej rfl (Ek rfl ?_)))))))))))
 refine Ek rfl (Ej rfl (Ej rfl (Ek rfl (Ek rfl (Ek rfl (Ek rfl (Em (is := [0, 15, 16, 132, 135, 149, 150, 153]) rfl (Ek rfl (Ej rfl (Ej rfl ?_))))))))))
 iterate 7 refine Ek rfl ?_
 refine Ej rfl (Ec rfl (Ea (Ef rfl rfl) (Ea (Ef rfl rfl) (Ea (Eb rfl) (Eg (Ee (Ed [2] rfl (Eu (Eq rfl rfl ?_)))))))))
 rotate_left
 rw [numN_no9 hn hC]
 refine Ea (Eb rfl) (Ea (Ep rfl rfl) (Ea (Ep rfl rfl) (Ea (Eb rfl) (Ea (Eb rfl) (Eg (Ee (Ed [0, 3, 4, 11, 12] rfl (Ei (Ei (Eo (Ea (Eb rfl) ?_)))))))))))
 refine Ea (Eb rfl) (Ea (Ez rfl rfl) (Ea (Eb rfl) ?_))
 first | refine s_gDT rfl ?_ ?_ | refine s_gB rfl ?_ ?_
 intro h9
 try rw [nnp] at h9
 refine Ea (Eb rfl) (Ec rfl (Ea (o_lss rfl rfl) ?_))
 rw [decide_eq_false (by omega)]
 refine Ea (Ef rfl rfl) (Ea (o_eqb rfl rfl) (Ea (Eb rfl) (Ec rfl (Ea (Eb rfl) (Ec rfl (Ea (Eb rfl) (Ej rfl (Ej rfl (Ej rfl (Em (is := [0, 4, 106, 108, 111]) rfl (Ec rfl ?_)))))))))))
 refine Ea (En rfl rfl) (Ea (En rfl rfl) (Eg (Ee (Ed [0, 4, 113] rfl (s_condF rfl (Ew (Ee (Ed [0, 4] rfl (Ei (Eo (Ea (Eb rfl) ?_)))))))))))
 first | refine Eh rfl rfl (c_48 tail (by omega)) ?_ | refine Et rfl rfl (by simp) (c_48 tail (by omega)) rfl ?_
 refine Eh rfl rfl (c_78 tail (by omega)) (Ea (Eb rfl) (Ea (Ep rfl rfl) (Ea (Ep rfl rfl) (Ea (Eb rfl) (Ea (Eb rfl) (Eg (Ee (Ed [0, 4, 13, 14] rfl (Ei (Eo (Ea (Eb rfl) ?_)))))))))))
 refine Eh rfl rfl (Er code (by omega)) (Eh rfl rfl (c_65 _) ?_)
 obtain ⟨z, j, hz⟩ : ∃ z j, readV (rvF code) = (z, j) := ⟨_, _, rfl⟩
 rw [hz]
 have hS := readV_cut hz
 refine Ea (Eb rfl) (Ea (Ep rfl rfl) (Ea (Ep rfl rfl) (Ea (Eb rfl) (Ea (Eb rfl) (Eg (Ee (Ed [0, 4, 13, 14, 15, 16] rfl (Ei (Eo (Ea (Eb rfl) (Ea (Eb rfl) ?_)))))))))))
 refine Ec rfl (Ea (Eb rfl) (Ec rfl (Ea (Eb rfl) (Ec rfl (Ea (Ey rfl rfl) ?_)))))
 rw [deq]
 refine Ea (Ef rfl rfl) (Ea (Eb rfl) (Ec rfl (Ea (Eb rfl) (Ec rfl (Ea (o_eql rfl rfl) (Ec rfl (Ea (Eb rfl) ?_)))))))
 first | refine s_gDF rfl ?_ ?_ | refine s_gB rfl ?_ ?_
 intro h10
 try rw [nnp] at h10
 refine Ea (Eb rfl) (Ec rfl (Ea (Ez rfl rfl) ?_))
 rw [decide_eq_true (hS (by assumption)).1]
 refine Ec rfl (Ea (Eb rfl) (Ec rfl (Ea (Eb rfl) (Em (is := [0, 15, 16, 132, 135, 138, 139]) rfl (Ec rfl (Ea (Eb rfl) (Ec rfl (Eh rfl rfl (Er code (by omega)) (Ec rfl (Ea (Ev rfl) (Ec rfl ?_)))))))))))
 refine Ea (o_leq rfl rfl) ?_
 rw [decide_eq_true (hS (by assumption)).2.1]
 refine Ec rfl (Ea (Ef rfl rfl) (Ec rfl (Ea (Eb rfl) (Ec rfl (Ea (Eb rfl) (Ec rfl (Ea (Ez rfl rfl) ?_)))))))
 rw [decide_eq_true (hS (by assumption)).1]
 refine Ec rfl (Ea (Ef rfl rfl) (Ec rfl (Ea (Eb rfl) (Ec rfl (Ea (Eb rfl) (Ec rfl (Ea (Eb rfl) (Ec rfl (Eh rfl rfl (Er code (by omega)) (Ec rfl (Ea (Ev rfl) ?_)))))))))))
 refine Em (is := [0, 15, 16, 132, 135, 149, 150, 153]) rfl (Ec rfl (Ea (o_leq rfl rfl) ?_))
 rw [decide_eq_true (hS (by assumption)).2.1]
 refine Ec rfl (Ea (Ef rfl rfl) (Ec rfl (Ea (Eb rfl) (Ec rfl (Ea (Eb rfl) (Ec rfl ?_))))))
 first | refine Eh rfl rfl (c_79 _) ?_ | refine Et rfl rfl (by simp) (c_79 _) rfl ?_
 refine Ec rfl (Ea (Eb rfl) (Ec rfl (Eh rfl rfl (Er code (by omega)) (Ec rfl (Ea (Eb rfl) (Ec rfl (Ea (o_slsb rfl rfl rfl (by have := hS (by assumption); omega)) (Ec rfl (Ea (Ey rfl rfl) ?_)))))))))
 rw [decide_eq_true (hS (by assumption)).2.2]
 refine Ec rfl (Ea (Ef rfl rfl) (Ec rfl (Ea (En rfl rfl) (Ea (Ef rfl rfl) (Ea (Eb rfl) (Eg (Ee (Ed [2] rfl (Eu (Eq rfl rfl ?_))))))))))
 rotate_left
 intro h10
 try rw [nnp] at h10
 refine Ej rfl (Ej rfl (Ej rfl (Ek rfl (Em (is := [0, 15, 16, 132, 135, 138, 139]) rfl (Ek rfl (Ek rfl (Ek rfl (Ek rfl (Ej rfl (Ej rfl (Ek rfl ?_)))))))))))
 refine Ek rfl (Ej rfl (Ej rfl (Ek rfl (Ek rfl (Ek rfl (Ek rfl (Em (is := [0, 15, 16, 132, 135, 149, 150, 153]) rfl (Ek rfl (Ej rfl (Ej rfl ?_))))))))))
 iterate 7 refine Ek rfl ?_
 refine Ej rfl (Ec rfl (Ea (Ef rfl rfl) (Ea (Ef rfl rfl) (Ea (Eb rfl) (Eg (Ee (Ed [2] rfl (Eu (Eq rfl rfl ?_)))))))))
 rotate_left
 intro h9
 try rw [nnp] at h9
 refine Ej rfl (Ej rfl (Ea (En rfl rfl) (Ea (o_eqb rfl rfl) (Ea (Eb rfl) (Ec rfl (Ea (Eb rfl) (Ec rfl (Ea (Eb rfl) (Ej rfl (Ej rfl (Ej rfl ?_)))))))))))
 refine Em (is := [0, 4, 106, 108, 111]) rfl (Ec rfl (Ea (En rfl rfl) (Ea (En rfl rfl) (Eg (Ee (Ed [0, 4, 113] rfl (s_condF rfl (Ew (Ee (Ed [0, 4] rfl (Ei ?_)))))))))))
 refine Eo (Ea (Eb rfl) ?_)
 first | refine Eh rfl rfl (c_48 tail (by omega)) ?_ | refine Et rfl rfl (by simp) (c_48 tail (by omega)) rfl ?_
 refine Eh rfl rfl (c_78 tail (by omega)) (Ea (Eb rfl) (Ea (Ep rfl rfl) (Ea (Ep rfl rfl) (Ea (Eb rfl) (Ea (Eb rfl) (Eg (Ee (Ed [0, 4, 13, 14] rfl (Ei (Eo (Ea (Eb rfl) ?_)))))))))))
 refine Eh rfl rfl (Er code (by omega)) (Eh rfl rfl (c_65 _) ?_)
 obtain ⟨z, j, hz⟩ : ∃ z j, readV (rvF code) = (z, j) := ⟨_, _, rfl⟩
 rw [hz]
 have hS := readV_cut hz
 refine Ea (Eb rfl) (Ea (Ep rfl rfl) (Ea (Ep rfl rfl) (Ea (Eb rfl) (Ea (Eb rfl) (Eg (Ee (Ed [0, 4, 13, 14, 15, 16] rfl (Ei (Eo (Ea (Eb rfl) (Ea (Eb rfl) ?_)))))))))))
 refine Ec rfl (Ea (Eb rfl) (Ec rfl (Ea (Eb rfl) (Ec rfl (Ea (Ey rfl rfl) ?_)))))
 rw [deq]
 refine Ea (Ef rfl rfl) (Ea (Eb rfl) (Ec rfl (Ea (Eb rfl) (Ec rfl (Ea (o_eql rfl rfl) (Ec rfl (Ea (Eb rfl) ?_)))))))
 first | refine s_gDF rfl ?_ ?_ | refine s_gB rfl ?_ ?_
 intro h11
 try rw [nnp] at h11
 refine Ea (Eb rfl) (Ec rfl (Ea (Ez rfl rfl) ?_))
 rw [decide_eq_true (hS (by assumption)).1]
 refine Ec rfl (Ea (Eb rfl) (Ec rfl (Ea (Eb rfl) (Em (is := [0, 15, 16, 132, 135, 138, 139]) rfl (Ec rfl (Ea (Eb rfl) (Ec rfl (Eh rfl rfl (Er code (by omega)) (Ec rfl (Ea (Ev rfl) (Ec rfl ?_)))))))))))
 refine Ea (o_leq rfl rfl) ?_
 rw [decide_eq_true (hS (by assumption)).2.1]
 refine Ec rfl (Ea (Ef rfl rfl) (Ec rfl (Ea (Eb rfl) (Ec rfl (Ea (Eb rfl) (Ec rfl (Ea (Ez rfl rfl) ?_)))))))
 rw [decide_eq_true (hS (by assumption)).1]
 refine Ec rfl (Ea (Ef rfl rfl) (Ec rfl (Ea (Eb rfl) (Ec rfl (Ea (Eb rfl) (Ec rfl (Ea (Eb rfl) (Ec rfl (Eh rfl rfl (Er code (by omega)) (Ec rfl (Ea (Ev rfl) ?_)))))))))))
 refine Em (is := [0, 15, 16, 132, 135, 149, 150, 153]) rfl (Ec rfl (Ea (o_leq rfl rfl) ?_))
 rw [decide_eq_true (hS (by assumption)).2.1]
 refine Ec rfl (Ea (Ef rfl rfl) (Ec rfl (Ea (Eb rfl) (Ec rfl (Ea (Eb rfl) (Ec rfl ?_))))))
 first | refine Eh rfl rfl (c_79 _) ?_ | refine Et rfl rfl (by simp) (c_79 _) rfl ?_
 refine Ec rfl (Ea (Eb rfl) (Ec rfl (Eh rfl rfl (Er code (by omega)) (Ec rfl (Ea (Eb rfl) (Ec rfl (Ea (o_slsb rfl rfl rfl (by have := hS (by assumption); omega)) (Ec rfl (Ea (Ey rfl rfl) ?_)))))))))
 rw [decide_eq_true (hS (by assumption)).2.2]
 refine Ec rfl (Ea (Ef rfl rfl) (Ec rfl (Ea (En rfl rfl) (Ea (Ef rfl rfl) (Ea (Eb rfl) (Eg (Ee (Ed [2] rfl (Eu (Eq rfl rfl ?_))))))))))
 rotate_left
 intro h11
 try rw [nnp] at h11
 refine Ej rfl (Ej rfl (Ej rfl (Ek rfl (Em (is := [0, 15, 16, 132, 135, 138, 139]) rfl (Ek rfl (Ek rfl (Ek rfl (Ek rfl (Ej rfl (Ej rfl (Ek rfl ?_)))))))))))
 refine Ek rfl (Ej rfl (Ej rfl (Ek rfl (Ek rfl (Ek rfl (Ek rfl (Em (is := [0, 15, 16, 132, 135, 149, 150, 153]) rfl (Ek rfl (Ej rfl (Ej rfl ?_))))))))))
 iterate 7 refine Ek rfl ?_
 refine Ej rfl (Ec rfl (Ea (Ef rfl rfl) (Ea (Ef rfl rfl) (Ea (Eb rfl) (Eg (Ee (Ed [2] rfl (Eu (Eq rfl rfl ?_)))))))))
 rotate_left
 intro h7
 try rw [nnp] at h7
 refine Ej rfl (Ej rfl (Ec rfl (Ea (Ef rfl rfl) (Ec rfl (Ea (o_eqb rfl rfl) (Ea (En rfl rfl) (Eg (Ee (Ed [0, 3, 4, 91] rfl (s_condF rfl (Ew ?_)))))))))))
 refine Ee (Ed [0, 3, 4] rfl (Ei (Eo (Ea (Eb rfl) ?_))))
 first | refine Eh rfl rfl (c_38 n hn) ?_ | refine Et rfl rfl (by simp) (c_38 n hn) rfl ?_
 refine Eh rfl rfl (c_63 _ (by have := itoa_len hn; omega)) ?_
 by_cases hC : -1000000000 < n ∧ n < 1000000000
 rw [numN_yes hn hC]
 refine Ea (Eb rfl) (Ea (Ep rfl rfl) (Ea (Ep rfl rfl) (Ea (Eb rfl) (Ea (Eb rfl) (Eg (Ee (Ed [0, 3, 4, 11, 12] rfl (Ei (Ei (Eo (Ea (Eb rfl) ?_)))))))))))
 refine Ea (Eb rfl) (Ea (Ez rfl rfl) ?_)
 rw [decide_eq_true (by omega)]
 refine Ea (Eb rfl) (Ec rfl (Ea (Eb rfl) (Ec rfl (Ea (o_lss rfl rfl) ?_))))
 rw [decide_eq_true (by omega)]
 refine Ea (Ef rfl rfl) (Ea (o_eqb rfl rfl) (Ea (Eb rfl) (Ec rfl (Ea (Eb rfl) (Ec rfl (Ea (Eb rfl) (Ec rfl (Ea (Eb rfl) (Ec rfl (Ea (Eb rfl) (Ec rfl ?_)))))))))))
 refine Ea (o_neq rfl rfl) ?_
 rw [dne]
 refine Em (is := [0, 4, 106, 108, 111]) rfl (Ec rfl (Ea (Ef rfl rfl) (Ea (En rfl rfl) (Eg (Ee (Ed [0, 4, 113] rfl (s_condF rfl (Ew (Ee (Ed [0, 4] rfl (Ei ?_)))))))))))
 refine Eo (Ea (Eb rfl) ?_)
 first | refine Eh rfl rfl (c_48 tail (by omega)) ?_ | refine Et rfl rfl (by simp) (c_48 tail (by omega)) rfl ?_
 refine Eh rfl rfl (c_78 tail (by omega)) (Ea (Eb rfl) (Ea (Ep rfl rfl) (Ea (Ep rfl rfl) (Ea (Eb rfl) (Ea (Eb rfl) (Eg (Ee (Ed [0, 4, 13, 14] rfl (Ei (Eo (Ea (Eb rfl) ?_)))))))))))
 refine Eh rfl rfl (Er code (by omega)) (Eh rfl rfl (c_65 _) ?_)
 obtain ⟨z, j, hz⟩ : ∃ z j, readV (rvF code) = (z, j) := ⟨_, _, rfl⟩
 rw [hz]
 have hS := readV_cut hz
 refine Ea (Eb rfl) (Ea (Ep rfl rfl) (Ea (Ep rfl rfl) (Ea (Eb rfl) (Ea (Eb rfl) (Eg (Ee (Ed [0, 4, 13, 14, 15, 16] rfl (Ei (Eo (Ea (Eb rfl) (Ea (Eb rfl) ?_)))))))))))
 refine Ec rfl (Ea (Eb rfl) (Ec rfl (Ea (Eb rfl) (Ec rfl (Ea (Ey rfl rfl) ?_)))))
 rw [deq]
 refine Ea (Ef rfl rfl) (Ea (Eb rfl) (Ec rfl (Ea (Eb rfl) (Ec rfl (Ea (o_eql rfl rfl) (Ec rfl (Ea (Eb rfl) ?_)))))))
 first | refine s_gDF rfl ?_ ?_ | refine s_gB rfl ?_ ?_
 intro h12
 try rw [nnp] at h12
 refine Ea (Eb rfl) (Ec rfl (Ea (Ez rfl rfl) ?_))
 rw [decide_eq_true (hS (by assumption)).1]
 refine Ec rfl (Ea (Eb rfl) (Ec rfl (Ea (Eb rfl) (Em (is := [0, 15, 16, 132, 135, 138, 139]) rfl (Ec rfl (Ea (Eb rfl) (Ec rfl (Eh rfl rfl (Er code (by omega)) (Ec rfl (Ea (Ev rfl) (Ec rfl ?_)))))))))))
 refine Ea (o_leq rfl rfl) ?_
 rw [decide_eq_true (hS (by assumption)).2.1]
 refine Ec rfl (Ea (Ef rfl rfl) (Ec rfl (Ea (Eb rfl) (Ec rfl (Ea (Eb rfl) (Ec rfl (Ea (Ez rfl rfl) ?_)))))))
 rw [decide_eq_true (hS (by assumption)).1]
 refine Ec rfl (Ea (Ef rfl rfl) (Ec rfl (Ea (Eb rfl) (Ec rfl (Ea (Eb rfl) (Ec rfl (Ea (Eb rfl) (Ec rfl (Eh rfl rfl (Er code (by omega)) (Ec rfl (Ea (Ev rfl) ?_)))))))))))
 refine Em (is := [0, 15, 16, 132, 135, 149, 150, 153]) rfl (Ec rfl (Ea (o_leq rfl rfl) ?_))
 rw [decide_eq_true (hS (by assumption)).2.1]
 refine Ec rfl (Ea (Ef rfl rfl) (Ec rfl (Ea (Eb rfl) (Ec rfl (Ea (Eb rfl) (Ec rfl ?_))))))
 first | refine Eh rfl rfl (c_79 _) ?_ | refine Et rfl rfl (by simp) (c_79 _) rfl ?_
 refine Ec rfl (Ea (Eb rfl) (Ec rfl (Eh rfl rfl (Er code (by omega)) (Ec rfl (Ea (Eb rfl) (Ec rfl (Ea (o_slsb rfl rfl rfl (by have := hS (by assumption); omega)) (Ec rfl (Ea (Ey rfl rfl) ?_)))))))))
 rw [decide_eq_true (hS (by assumption)).2.2]
 refine Ec rfl (Ea (Ef rfl rfl) (Ec rfl (Ea (En rfl rfl) (Ea (Ef rfl rfl) (Ea (Eb rfl) (Eg (Ee (Ed [2] rfl (Eu (Eq rfl rfl ?_))))))))))
 rotate_left
 intro h12
 try rw [nnp] at h12
 refine Ej rfl (Ej rfl (Ej rfl (Ek rfl (Em (is := [0, 15, 16, 132, 135, 138, 139]) rfl (Ek rfl (Ek rfl (Ek rfl (Ek rfl (Ej rfl (Ej rfl (Ek rfl ?_)))))))))))
 refine Ek rfl (Ej rfl (Ej rfl (Ek rfl (Ek rfl (Ek rfl (Ek rfl (Em (is := [0, 15, 16, 132, 135, 149, 150, 153]) rfl (Ek rfl (Ej rfl (Ej rfl ?_))))))))))
 iterate 7 refine Ek rfl ?_
 refine Ej rfl (Ec rfl (Ea (Ef rfl rfl) (Ea (Ef rfl rfl) (Ea (Eb rfl) (Eg (Ee (Ed [2] rfl (Eu (Eq rfl rfl ?_)))))))))
 rotate_left
 rw [numN_no9 hn hC]
 refine Ea (Eb rfl) (Ea (Ep rfl rfl) (Ea (Ep rfl rfl) (Ea (Eb rfl) (Ea (Eb rfl) (Eg (Ee (Ed [0, 3, 4, 11, 12] rfl (Ei (Ei (Eo (Ea (Eb rfl) ?_)))))))))))
 refine Ea (Eb rfl) (Ea (Ez rfl rfl) (Ea (Eb rfl) ?_))
 first | refine s_gDT rfl ?_ ?_ | refine s_gB rfl ?_ ?_
 intro h13
 try rw [nnp] at h13
 refine Ea (Eb rfl) (Ec rfl (Ea (o_lss rfl rfl) ?_))
 rw [decide_eq_false (by omega)]
 refine Ea (Ef rfl rfl) (Ea (o_eqb rfl rfl) (Ea (Eb rfl) (Ec rfl (Ea (Eb rfl) (Ec rfl (Ea (Eb rfl) (Ej rfl (Ej rfl (Ej rfl (Em (is := [0, 4, 106, 108, 111]) rfl (Ec rfl ?_)))))))))))
 refine Ea (En rfl rfl) (Ea (En rfl rfl) (Eg (Ee (Ed [0, 4, 113] rfl (s_condF rfl (Ew (Ee (Ed [0, 4] rfl (Ei (Eo (Ea (Eb rfl) ?_)))))))))))
 first | refine Eh rfl rfl (c_48 tail (by omega)) ?_ | refine Et rfl rfl (by simp) (c_48 tail (by omega)) rfl ?_
 refine Eh rfl rfl (c_78 tail (by omega)) (Ea (Eb rfl) (Ea (Ep rfl rfl) (Ea (Ep rfl rfl) (Ea (Eb rfl) (Ea (Eb rfl) (Eg (Ee (Ed [0, 4, 13, 14] rfl (Ei (Eo (Ea (Eb rfl) ?_)))))))))))
 refine Eh rfl rfl (Er code (by omega)) (Eh rfl rfl (c_65 _) ?_)
 obtain ⟨z, j, hz⟩ : ∃ z j, readV (rvF code) = (z, j) := ⟨_, _, rfl⟩
 rw [hz]
 have hS := readV_cut hz
 refine Ea (Eb rfl) (Ea (Ep rfl rfl) (Ea (Ep rfl rfl) (Ea (Eb rfl) (Ea (Eb rfl) (Eg (Ee (Ed [0, 4, 13, 14, 15, 16] rfl (Ei (Eo (Ea (Eb rfl) (Ea (Eb rfl) ?_)))))))))))
 refine Ec rfl (Ea (Eb rfl) (Ec rfl (Ea (Eb rfl) (Ec rfl (Ea (Ey rfl rfl) ?_)))))
 rw [deq]
 refine Ea (Ef rfl rfl) (Ea (Eb rfl) (Ec rfl (Ea (Eb rfl) (Ec rfl (Ea (o_eql rfl rfl) (Ec rfl (Ea (Eb rfl) ?_)))))))
 first | refine s_gDF rfl ?_ ?_ | refine s_gB rfl ?_ ?_
 intro h14
 try rw [nnp] at h14
 refine Ea (Eb rfl) (Ec rfl (Ea (Ez rfl rfl) ?_))
 rw [decide_eq_true (hS (by assumption)).1]
 refine Ec rfl (Ea (Eb rfl) (Ec rfl (Ea (Eb rfl) (Em (is := [0, 15, 16, 132, 135, 138, 139]) rfl (Ec rfl (Ea (Eb rfl) (Ec rfl (Eh rfl rfl (Er code (by omega)) (Ec rfl (Ea (Ev rfl) (Ec rfl ?_)))))))))))
 refine Ea (o_leq rfl rfl) ?_
 rw [decide_eq_true (hS (by assumption)).2.1]
 refine Ec rfl (Ea (Ef rfl rfl) (Ec rfl (Ea (Eb rfl) (Ec rfl (Ea (Eb rfl) (Ec rfl (Ea (Ez rfl rfl) ?_)))))))
 rw [decide_eq_true (hS (by assumption)).1]
 refine Ec rfl (Ea (Ef rfl rfl) (Ec rfl (Ea (Eb rfl) (Ec rfl (Ea (Eb rfl) (Ec rfl (Ea (Eb rfl) (Ec rfl (Eh rfl rfl (Er code (by omega)) (Ec rfl (Ea (Ev rfl) ?_)))))))))))
 refine Em (is := [0, 15, 16, 132, 135, 149, 150, 153]) rfl (Ec rfl (Ea (o_leq rfl rfl) ?_))
 rw [decide_eq_true (hS (by assumption)).2.1]
 refine Ec rfl (Ea (Ef rfl rfl) (Ec rfl (Ea (Eb rfl) (Ec rfl (Ea (Eb rfl) (Ec rfl ?_))))))
 first | refine Eh rfl rfl (c_79 _) ?_ | refine Et rfl rfl (by simp) (c_79 _) rfl ?_
 refine Ec rfl (Ea (Eb rfl) (Ec rfl (Eh rfl rfl (Er code (by omega)) (Ec rfl (Ea (Eb rfl) (Ec rfl (Ea (o_slsb rfl rfl rfl (by have := hS (by assumption); omega)) (Ec rfl (Ea (Ey rfl rfl) ?_)))))))))
 rw [decide_eq_true (hS (by assumption)).2.2]
 refine Ec rfl (Ea (Ef rfl rfl) (Ec rfl (Ea (En rfl rfl) (Ea (Ef rfl rfl) (Ea (Eb rfl) (Eg (Ee (Ed [2] rfl (Eu (Eq rfl rfl ?_))))))))))
 rotate_left
 intro h14
 try rw [nnp] at h14
 refine Ej rfl (Ej rfl (Ej rfl (Ek rfl (Em (is := [0, 15, 16, 132, 135, 138, 139]) rfl (Ek rfl (Ek rfl (Ek rfl (Ek rfl (Ej rfl (Ej rfl (Ek rfl ?_)))))))))))
 refine Ek rfl (Ej rfl (Ej rfl (Ek rfl (Ek rfl (Ek rfl (Ek rfl (Em (is := [0, 15, 16, 132, 135, 149, 150, 153]) rfl (Ek rfl (Ej rfl (Ej rfl ?_))))))))))
 iterate 7 refine Ek rfl ?_
 refine Ej rfl (Ec rfl (Ea (Ef rfl rfl) (Ea (Ef rfl rfl) (Ea (Eb rfl) (Eg (Ee (Ed [2] rfl (Eu (Eq rfl rfl ?_)))))))))
 rotate_left
 intro h13
 try rw [nnp] at h13
 refine Ej rfl (Ej rfl (Ea (En rfl rfl) (Ea (o_eqb rfl rfl) (Ea (Eb rfl) (Ec rfl (Ea (Eb rfl) (Ec rfl (Ea (Eb rfl) (Ej rfl (Ej rfl (Ej rfl ?_)))))))))))
 refine Em (is := [0, 4, 106, 108, 111]) rfl (Ec rfl (Ea (En rfl rfl) (Ea (En rfl rfl) (Eg (Ee (Ed [0, 4, 113] rfl (s_condF rfl (Ew (Ee (Ed [0, 4] rfl (Ei ?_)))))))))))
 refine Eo (Ea (Eb rfl) ?_)
 first | refine Eh rfl rfl (c_48 tail (by omega)) ?_ | refine Et rfl rfl (by simp) (c_48 tail (by omega)) rfl ?_
 refine Eh rfl rfl (c_78 tail (by omega)) (Ea (Eb rfl) (Ea (Ep rfl rfl) (Ea (Ep rfl rfl) (Ea (Eb rfl) (Ea (Eb rfl) (Eg (Ee (Ed [0, 4, 13, 14] rfl (Ei (Eo (Ea (Eb rfl) ?_)))))))))))
 refine Eh rfl rfl (Er code (by omega)) (Eh rfl rfl (c_65 _) ?_)
 obtain ⟨z, j, hz⟩ : ∃ z j, readV (rvF code) = (z, j) := ⟨_, _, rfl⟩
 rw [hz]
 have hS := readV_cut hz
 refine Ea (Eb rfl) (Ea (Ep rfl rfl) (Ea (Ep rfl rfl) (Ea (Eb rfl) (Ea (Eb rfl) (Eg (Ee (Ed [0, 4, 13, 14, 15, 16] rfl (Ei (Eo (Ea (Eb rfl) (Ea (Eb rfl) ?_)))))))))))
 refine Ec rfl (Ea (Eb rfl) (Ec rfl (Ea (Eb rfl) (Ec rfl (Ea (Ey rfl rfl) ?_)))))
 rw [deq]
 refine Ea (Ef rfl rfl) (Ea (Eb rfl) (Ec rfl (Ea (Eb rfl) (Ec rfl (Ea (o_eql rfl rfl) (Ec rfl (Ea (Eb rfl) ?_)))))))
 first | refine s_gDF rfl ?_ ?_ | refine s_gB rfl ?_ ?_
 intro h15
 try rw [nnp] at h15
 refine Ea (Eb rfl) (Ec rfl (Ea (Ez rfl rfl) ?_))
 rw [decide_eq_true (hS (by assumption)).1]
 refine Ec rfl (Ea (Eb rfl) (Ec rfl (Ea (Eb rfl) (Em (is := [0, 15, 16, 132, 135, 138, 139]) rfl (Ec rfl (Ea (Eb rfl) (Ec rfl (Eh rfl rfl (Er code (by omega)) (Ec rfl (Ea (Ev rfl) (Ec rfl ?_)))))))))))
 refine Ea (o_leq rfl rfl) ?_
 rw [decide_eq_true (hS (by assumption)).2.1]
 refine Ec rfl (Ea (Ef rfl rfl) (Ec rfl (Ea (Eb rfl) (Ec rfl (Ea (Eb rfl) (Ec rfl (Ea (Ez rfl rfl) ?_)))))))
 rw [decide_eq_true (hS (by assumption)).1]
 refine Ec rfl (Ea (Ef rfl rfl) (Ec rfl (Ea (Eb rfl) (Ec rfl (Ea (Eb rfl) (Ec rfl (Ea (Eb rfl) (Ec rfl (Eh rfl rfl (Er code (by omega)) (Ec rfl (Ea (Ev rfl) ?_)))))))))))
 refine Em (is := [0, 15, 16, 132, 135, 149, 150, 153]) rfl (Ec rfl (Ea (o_leq rfl rfl) ?_))
 rw [decide_eq_true (hS (by assumption)).2.1]
 refine Ec rfl (Ea (Ef rfl rfl) (Ec rfl (Ea (Eb rfl) (Ec rfl (Ea (Eb rfl) (Ec rfl ?_))))))
 first | refine Eh rfl rfl (c_79 _) ?_ | refine Et rfl rfl (by simp) (c_79 _) rfl ?_
 refine Ec rfl (Ea (Eb rfl) (Ec rfl (Eh rfl rfl (Er code (by omega)) (Ec rfl (Ea (Eb rfl) (Ec rfl (Ea (o_slsb rfl rfl rfl (by have := hS (by assumption); omega)) (Ec rfl (Ea (Ey rfl rfl) ?_)))))))))
 rw [decide_eq_true (hS (by assumption)).2.2]
 refine Ec rfl (Ea (Ef rfl rfl) (Ec rfl (Ea (En rfl rfl) (Ea (Ef rfl rfl) (Ea (Eb rfl) (Eg (Ee (Ed [2] rfl (Eu (Eq rfl rfl ?_))))))))))
 rotate_left
 intro h15
 try rw [nnp] at h15
 refine Ej rfl (Ej rfl (Ej rfl (Ek rfl (Em (is := [0, 15, 16, 132, 135, 138, 139]) rfl (Ek rfl (Ek rfl (Ek rfl (Ek rfl (Ej rfl (Ej rfl (Ek rfl ?_)))))))))))
 refine Ek rfl (Ej rfl (Ej rfl (Ek rfl (Ek rfl (Ek rfl (Ek rfl (Em (is := [0, 15, 16, 132, 135, 149, 150, 153]) rfl (Ek rfl (Ej rfl (Ej rfl ?_))))))))))
 iterate 7 refine Ek rfl ?_
 refine Ej rfl (Ec rfl (Ea (Ef rfl rfl) (Ea (Ef rfl rfl) (Ea (Eb rfl) (Eg (Ee (Ed [2] rfl (Eu (Eq rfl rfl ?_)))))))))
 rotate_left
 intro h2
 try rw [nnp] at h2
 refine Ej rfl (Em (is := [0, 3, 4, 5, 7, 41, 44, 45]) rfl (Ej rfl (Ej rfl (Ej rfl (Ek rfl (Ek rfl (Ek rfl (Ek rfl (Ej rfl (Ec rfl (Ea (En rfl rfl) ?_)))))))))))
 refine Ea (En rfl rfl) (Eg (Ee (Ed [0, 3, 4, 55] rfl (s_condF rfl (Ew (Ee (Ed [0, 3, 4] rfl (Ei (Eo (Ea (Eb rfl) ?_))))))))))
 first | refine Eh rfl rfl (c_45 n) ?_ | refine Et rfl rfl (by simp) (c_45 n) rfl ?_
 by_cases hB : 0 ≤ n ∧ n < 72057594037927936
 refine Ea (Eb rfl) (Eg (Ee (Ed [0, 3, 4, 8] rfl (Ei (Eo (Ea (Eb rfl) (Ea (Eb rfl) (Ea (o_adds rfl rfl (by first | omega | (simp only [List.length_nil]; omega))) (Eh rfl rfl (c_64 _) ?_)))))))))
 rw [readFx_fix hB]
 refine Ea (Eb rfl) (Ea (Ep rfl rfl) (Ea (Ep rfl rfl) (Ea (Eb rfl) (Ea (Eb rfl) (Eg (Ee (Ed [0, 3, 4, 8, 9, 10] rfl (Ei (Ei (Eo (Ea (Eb rfl) ?_)))))))))))
 refine Ea (o_neqs rfl rfl) ?_
 rw [decide_eq_true (fixS_some hB)]
 refine Ea (Eb rfl) (Ec rfl (Ea (Eb rfl) (Ec rfl (Ea (o_not rfl) (Ec rfl (Ea (Eb rfl) (Ec rfl (Ea (Eb rfl) (Ec rfl (Ea (Eb rfl) (Ec rfl ?_)))))))))))
 refine Ea (o_neq rfl rfl) ?_
 rw [dne]
 refine Ec rfl (Ea (En rfl rfl) (Ec rfl (Ea (Eb rfl) (Ec rfl (Ea (Eb rfl) (Ec rfl (Ea (Ev rfl) (Ec rfl (Ea (o_neq rfl rfl) ?_)))))))))
 rw [fixS_len7 hB]
 refine Em (is := [0, 3, 4, 8, 67, 75, 78]) rfl (Ec rfl (Ea (En rfl rfl) (Ea (Ef rfl rfl) (Ea (Eb rfl) (Ec rfl (Ea (Eb rfl) (Ec rfl (Ea (Ey rfl rfl) ?_))))))))
 rw [decide_eq_false (fixS_some hB)]
 refine Ec rfl (Ea (Eb rfl) (Ec rfl (Ea (o_lss rfl rfl) ?_)))
 rw [decide_eq_false (by omega)]
 refine Ec rfl (Ea (Eb rfl) (Ec rfl (Ea (Eb rfl) (Ec rfl (Ea (o_geq rfl rfl) ?_)))))
 rw [decide_eq_false (by omega)]
 refine Ec rfl (Ea (En rfl rfl) (Ec rfl (Ea (o_eqb rfl rfl) (Ea (En rfl rfl) (Eg (Ee (Ed [0, 3, 4, 91] rfl (s_condF rfl (Ew (Ee (Ed [0, 3, 4] rfl ?_)))))))))))
 refine Ei (Eo (Ea (Eb rfl) ?_))
 first | refine Eh rfl rfl (c_38 n hn) ?_ | refine Et rfl rfl (by simp) (c_38 n hn) rfl ?_
 refine Eh rfl rfl (c_63 _ (by have := itoa_len hn; omega)) ?_
 by_cases hC : -1000000000 < n ∧ n < 1000000000
 rw [numN_yes hn hC]
 refine Ea (Eb rfl) (Ea (Ep rfl rfl) (Ea (Ep rfl rfl) (Ea (Eb rfl) (Ea (Eb rfl) (Eg (Ee (Ed [0, 3, 4, 11, 12] rfl (Ei (Ei (Eo (Ea (Eb rfl) ?_)))))))))))
 refine Ea (Eb rfl) (Ea (Ez rfl rfl) ?_)
 rw [decide_eq_true (by omega)]
 refine Ea (Eb rfl) (Ec rfl (Ea (Eb rfl) (Ec rfl (Ea (o_lss rfl rfl) ?_))))
 rw [decide_eq_true (by omega)]
 refine Ea (Ef rfl rfl) (Ea (o_eqb rfl rfl) (Ea (Eb rfl) (Ec rfl (Ea (Eb rfl) (Ec rfl (Ea (Eb rfl) (Ec rfl (Ea (Eb rfl) (Ec rfl (Ea (Eb rfl) (Ec rfl ?_)))))))))))
 refine Ea (o_neq rfl rfl) ?_
 rw [dne]
 refine Em (is := [0, 4, 106, 108, 111]) rfl (Ec rfl (Ea (Ef rfl rfl) (Ea (En rfl rfl) (Eg (Ee (Ed [0, 4, 113] rfl (s_condF rfl (Ew (Ee (Ed [0, 4] rfl (Ei ?_)))))))))))
 refine Eo (Ea (Eb rfl) ?_)
 first | refine Eh rfl rfl (c_48 tail (by omega)) ?_ | refine Et rfl rfl (by simp) (c_48 tail (by omega)) rfl ?_
 refine Eh rfl rfl (c_78 tail (by omega)) (Ea (Eb rfl) (Ea (Ep rfl rfl) (Ea (Ep rfl rfl) (Ea (Eb rfl) (Ea (Eb rfl) (Eg (Ee (Ed [0, 4, 13, 14] rfl (Ei (Eo (Ea (Eb rfl) ?_)))))))))))
 refine Eh rfl rfl (Er code (by omega)) (Eh rfl rfl (c_65 _) ?_)
 obtain ⟨z, j, hz⟩ : ∃ z j, readV (rvF code) = (z, j) := ⟨_, _, rfl⟩
 rw [hz]
 have hS := readV_cut hz
 refine Ea (Eb rfl) (Ea (Ep rfl rfl) (Ea (Ep rfl rfl) (Ea (Eb rfl) (Ea (Eb rfl) (Eg (Ee (Ed [0, 4, 13, 14, 15, 16] rfl (Ei (Eo (Ea (Eb rfl) (Ea (Eb rfl) ?_)))))))))))
 refine Ec rfl (Ea (Eb rfl) (Ec rfl (Ea (Eb rfl) (Ec rfl (Ea (Ey rfl rfl) ?_)))))
 rw [deq]
 refine Ea (Ef rfl rfl) (Ea (Eb rfl) (Ec rfl (Ea (Eb rfl) (Ec rfl (Ea (o_eql rfl rfl) (Ec rfl (Ea (Eb rfl) ?_)))))))
 first | refine s_gDF rfl ?_ ?_ | refine s_gB rfl ?_ ?_
 intro h16
 try rw [nnp] at h16
 refine Ea (Eb rfl) (Ec rfl (Ea (Ez rfl rfl) ?_))
 rw [decide_eq_true (hS (by assumption)).1]
 refine Ec rfl (Ea (Eb rfl) (Ec rfl (Ea (Eb rfl) (Em (is := [0, 15, 16, 132, 135, 138, 139]) rfl (Ec rfl (Ea (Eb rfl) (Ec rfl (Eh rfl rfl (Er code (by omega)) (Ec rfl (Ea (Ev rfl) (Ec rfl ?_)))))))))))
 refine Ea (o_leq rfl rfl) ?_
 rw [decide_eq_true (hS (by assumption)).2.1]
 refine Ec rfl (Ea (Ef rfl rfl) (Ec rfl (Ea (Eb rfl) (Ec rfl (Ea (Eb rfl) (Ec rfl (Ea (Ez rfl rfl) ?_)))))))
 rw [decide_eq_true (hS (by assumption)).1]
 refine Ec rfl (Ea (Ef rfl rfl) (Ec rfl (Ea (Eb rfl) (Ec rfl (Ea (Eb rfl) (Ec rfl (Ea (Eb rfl) (Ec rfl (Eh rfl rfl (Er code (by omega)) (Ec rfl (Ea (Ev rfl) ?_)))))))))))
 refine Em (is := [0, 15, 16, 132, 135, 149, 150, 153]) rfl (Ec rfl (Ea (o_leq rfl rfl) ?_))
 rw [decide_eq_true (hS (by assumption)).2.1]
 refine Ec rfl (Ea (Ef rfl rfl) (Ec rfl (Ea (Eb rfl) (Ec rfl (Ea (Eb rfl) (Ec rfl ?_))))))
 first | refine Eh rfl rfl (c_79 _) ?_ | refine Et rfl rfl (by simp) (c_79 _) rfl ?_
 refine Ec rfl (Ea (Eb rfl) (Ec rfl (Eh rfl rfl (Er code (by omega)) (Ec rfl (Ea (Eb rfl) (Ec rfl (Ea (o_slsb rfl rfl rfl (by have := hS (by assumption); omega)) (Ec rfl (Ea (Ey rfl rfl) ?_)))))))))
 rw [decide_eq_true (hS (by assumption)).2.2]
 refine Ec rfl (Ea (Ef rfl rfl) (Ec rfl (Ea (En rfl rfl) (Ea (Ef rfl rfl) (Ea (Eb rfl) (Eg (Ee (Ed [2] rfl (Eu (Eq rfl rfl ?_))))))))))
 rotate_left
 intro h16
 try rw [nnp] at h16
 refine Ej rfl (Ej rfl (Ej rfl (Ek rfl (Em (is := [0, 15, 16, 132, 135, 138, 139]) rfl (Ek rfl (Ek rfl (Ek rfl (Ek rfl (Ej rfl (Ej rfl (Ek rfl ?_)))))))))))
 refine Ek rfl (Ej rfl (Ej rfl (Ek rfl (Ek rfl (Ek rfl (Ek rfl (Em (is := [0, 15, 16, 132, 135, 149, 150, 153]) rfl (Ek rfl (Ej rfl (Ej rfl ?_))))))))))
 iterate 7 refine Ek rfl ?_
 refine Ej rfl (Ec rfl (Ea (Ef rfl rfl) (Ea (Ef rfl rfl) (Ea (Eb rfl) (Eg (Ee (Ed [2] rfl (Eu (Eq rfl rfl ?_)))))))))
 rotate_left
 rw [numN_no9 hn hC]
 refine Ea (Eb rfl) (Ea (Ep rfl rfl) (Ea (Ep rfl rfl) (Ea (Eb rfl) (Ea (Eb rfl) (Eg (Ee (Ed [0, 3, 4, 11, 12] rfl (Ei (Ei (Eo (Ea (Eb rfl) ?_)))))))))))
 refine Ea (Eb rfl) (Ea (Ez rfl rfl) (Ea (Eb rfl) ?_))
 first | refine s_gDT rfl ?_ ?_ | refine s_gB rfl ?_ ?_
 intro h17
 try rw [nnp] at h17
 refine Ea (Eb rfl) (Ec rfl (Ea (o_lss rfl rfl) ?_))
 rw [decide_eq_false (by omega)]
 refine Ea (Ef rfl rfl) (Ea (o_eqb rfl rfl) (Ea (Eb rfl) (Ec rfl (Ea (Eb rfl) (Ec rfl (Ea (Eb rfl) (Ej rfl (Ej rfl (Ej rfl (Em (is := [0, 4, 106, 108, 111]) rfl (Ec rfl ?_)))))))))))
 refine Ea (En rfl rfl) (Ea (En rfl rfl) (Eg (Ee (Ed [0, 4, 113] rfl (s_condF rfl (Ew (Ee (Ed [0, 4] rfl (Ei (Eo (Ea (Eb rfl) ?_)))))))))))
 first | refine Eh rfl rfl (c_48 tail (by omega)) ?_ | refine Et rfl rfl (by simp) (c_48 tail (by omega)) rfl ?_
 refine Eh rfl rfl (c_78 tail (by omega)) (Ea (Eb rfl) (Ea (Ep rfl rfl) (Ea (Ep rfl rfl) (Ea (Eb rfl) (Ea (Eb rfl) (Eg (Ee (Ed [0, 4, 13, 14] rfl (Ei (Eo (Ea (Eb rfl) ?_)))))))))))
 refine Eh rfl rfl (Er code (by omega)) (Eh rfl rfl (c_65 _) ?_)
 obtain ⟨z, j, hz⟩ : ∃ z j, readV (rvF code) = (z, j) := ⟨_, _, rfl⟩
 rw [hz]
 have hS := readV_cut hz
 refine Ea (Eb rfl) (Ea (Ep rfl rfl) (Ea (Ep rfl rfl) (Ea (Eb rfl) (Ea (Eb rfl) (Eg (Ee (Ed [0, 4, 13, 14, 15, 16] rfl (Ei (Eo (Ea (Eb rfl) (Ea (Eb rfl) ?_)))))))))))
 refine Ec rfl (Ea (Eb rfl) (Ec rfl (Ea (Eb rfl) (Ec rfl (Ea (Ey rfl rfl) ?_)))))
 rw [deq]
 refine Ea (Ef rfl rfl) (Ea (Eb rfl) (Ec rfl (Ea (Eb rfl) (Ec rfl (Ea (o_eql rfl rfl) (Ec rfl (Ea (Eb rfl) ?_)))))))
 first | refine s_gDF rfl ?_ ?_ | refine s_gB rfl ?_ ?_
 intro h18
 try rw [nnp] at h18
 refine Ea (Eb rfl) (Ec rfl (Ea (Ez rfl rfl) ?_))
 rw [decide_eq_true (hS (by assumption)).1]
 refine Ec rfl (Ea (Eb rfl) (Ec rfl (Ea (Eb rfl) (Em (is := [0, 15, 16, 132, 135, 138, 139]) rfl (Ec rfl (Ea (Eb rfl) (Ec rfl (Eh rfl rfl (Er code (by omega)) (Ec rfl (Ea (Ev rfl) (Ec rfl ?_)))))))))))
 refine Ea (o_leq rfl rfl) ?_
 rw [decide_eq_true (hS (by assumption)).2.1]
 refine Ec rfl (Ea (Ef rfl rfl) (Ec rfl (Ea (Eb rfl) (Ec rfl (Ea (Eb rfl) (Ec rfl (Ea (Ez rfl rfl) ?_)))))))
 rw [decide_eq_true (hS (by assumption)).1]
 refine Ec rfl (Ea (Ef rfl rfl) (Ec rfl (Ea (Eb rfl) (Ec rfl (Ea (Eb rfl) (Ec rfl (Ea (Eb rfl) (Ec rfl (Eh rfl rfl (Er code (by omega)) (Ec rfl (Ea (Ev rfl) ?_)))))))))))
 refine Em (is := [0, 15, 16, 132, 135, 149, 150, 153]) rfl (Ec rfl (Ea (o_leq rfl rfl) ?_))
 rw [decide_eq_true (hS (by assumption)).2.1]
 refine Ec rfl (Ea (Ef rfl rfl) (Ec rfl (Ea (Eb rfl) (Ec rfl (Ea (Eb rfl) (Ec rfl ?_))))))
 first | refine Eh rfl rfl (c_79 _) ?_ | refine Et rfl rfl (by simp) (c_79 _) rfl ?_
 refine Ec rfl (Ea (Eb rfl) (Ec rfl (Eh rfl rfl (Er code (by omega)) (Ec rfl (Ea (Eb rfl) (Ec rfl (Ea (o_slsb rfl rfl rfl (by have := hS (by assumption); omega)) (Ec rfl (Ea (Ey rfl rfl) ?_)))))))))
 rw [decide_eq_true (hS (by assumption)).2.2]
 refine Ec rfl (Ea (Ef rfl rfl) (Ec rfl (Ea (En rfl rfl) (Ea (Ef rfl rfl) (Ea (Eb rfl) (Eg (Ee (Ed [2] rfl (Eu (Eq rfl rfl ?_))))))))))
 rotate_left
 intro h18
 try rw [nnp] at h18
 refine Ej rfl (Ej rfl (Ej rfl (Ek rfl (Em (is := [0, 15, 16, 132, 135, 138, 139]) rfl (Ek rfl (Ek rfl (Ek rfl (Ek rfl (Ej rfl (Ej rfl (Ek rfl ?_)))))))))))
 refine Ek rfl (Ej rfl (Ej rfl (Ek rfl (Ek rfl (Ek rfl (Ek rfl (Em (is := [0, 15, 16, 132, 135, 149, 150, 153]) rfl (Ek rfl (Ej rfl (Ej rfl ?_))))))))))
 iterate 7 refine Ek rfl ?_
 refine Ej rfl (Ec rfl (Ea (Ef rfl rfl) (Ea (Ef rfl rfl) (Ea (Eb rfl) (Eg (Ee (Ed [2] rfl (Eu (Eq rfl rfl ?_)))))))))
 rotate_left
 intro h17
 try rw [nnp] at h17
 refine Ej rfl (Ej rfl (Ea (En rfl rfl) (Ea (o_eqb rfl rfl) (Ea (Eb rfl) (Ec rfl (Ea (Eb rfl) (Ec rfl (Ea (Eb rfl) (Ej rfl (Ej rfl (Ej rfl ?_)))))))))))
 refine Em (is := [0, 4, 106, 108, 111]) rfl (Ec rfl (Ea (En rfl rfl) (Ea (En rfl rfl) (Eg (Ee (Ed [0, 4, 113] rfl (s_condF rfl (Ew (Ee (Ed [0, 4] rfl (Ei ?_)))))))))))
 refine Eo (Ea (Eb rfl) ?_)
 first | refine Eh rfl rfl (c_48 tail (by omega)) ?_ | refine Et rfl rfl (by simp) (c_48 tail (by omega)) rfl ?_
 refine Eh rfl rfl (c_78 tail (by omega)) (Ea (Eb rfl) (Ea (Ep rfl rfl) (Ea (Ep rfl rfl) (Ea (Eb rfl) (Ea (Eb rfl) (Eg (Ee (Ed [0, 4, 13, 14] rfl (Ei (Eo (Ea (Eb rfl) ?_)))))))))))
 refine Eh rfl rfl (Er code (by omega)) (Eh rfl rfl (c_65 _) ?_)
 obtain ⟨z, j, hz⟩ : ∃ z j, readV (rvF code) = (z, j) := ⟨_, _, rfl⟩
 rw [hz]
 have hS := readV_cut hz
 refine Ea (Eb rfl) (Ea (Ep rfl rfl) (Ea (Ep rfl rfl) (Ea (Eb rfl) (Ea (Eb rfl) (Eg (Ee (Ed [0, 4, 13, 14, 15, 16] rfl (Ei (Eo (Ea (Eb rfl) (Ea (Eb rfl) ?_)))))))))))
 refine Ec rfl (Ea (Eb rfl) (Ec rfl (Ea (Eb rfl) (Ec rfl (Ea (Ey rfl rfl) ?_)))))
 rw [deq]
 refine Ea (Ef rfl rfl) (Ea (Eb rfl) (Ec rfl (Ea (Eb rfl) (Ec rfl (Ea (o_eql rfl rfl) (Ec rfl (Ea (Eb rfl) ?_)))))))
 first | refine s_gDF rfl ?_ ?_ | refine s_gB rfl ?_ ?_
 intro h19
 try rw [nnp] at h19
 refine Ea (Eb rfl) (Ec rfl (Ea (Ez rfl rfl) ?_))
 rw [decide_eq_true (hS (by assumption)).1]
 refine Ec rfl (Ea (Eb rfl) (Ec rfl (Ea (Eb rfl) (Em (is := [0, 15, 16, 132, 135, 138, 139]) rfl (Ec rfl (Ea (Eb rfl) (Ec rfl (Eh rfl rfl (Er code (by omega)) (Ec rfl (Ea (Ev rfl) (Ec rfl ?_)))))))))))
 refine Ea (o_leq rfl rfl) ?_
 rw [decide_eq_true (hS (by assumption)).2.1]
 refine Ec rfl (Ea (Ef rfl rfl) (Ec rfl (Ea (Eb rfl) (Ec rfl (Ea (Eb rfl) (Ec rfl (Ea (Ez rfl rfl) ?_)))))))
 rw [decide_eq_true (hS (by assumption)).1]
 refine Ec rfl (Ea (Ef rfl rfl) (Ec rfl (Ea (Eb rfl) (Ec rfl (Ea (Eb rfl) (Ec rfl (Ea (Eb rfl) (Ec rfl (Eh rfl rfl (Er code (by omega)) (Ec rfl (Ea (Ev rfl) ?_)))))))))))
 refine Em (is := [0, 15, 16, 132, 135, 149, 150, 153]) rfl (Ec rfl (Ea (o_leq rfl rfl) ?_))
 rw [decide_eq_true (hS (by assumption)).2.1]
 refine Ec rfl (Ea (Ef rfl rfl) (Ec rfl (Ea (Eb rfl) (Ec rfl (Ea (Eb rfl) (Ec rfl ?_))))))
 first | refine Eh rfl rfl (c_79 _) ?_ | refine Et rfl rfl (by simp) (c_79 _) rfl ?_
 refine Ec rfl (Ea (Eb rfl) (Ec rfl (Eh rfl rfl (Er code (by omega)) (Ec rfl (Ea (Eb rfl) (Ec rfl (Ea (o_slsb rfl rfl rfl (by have := hS (by assumption); omega)) (Ec rfl (Ea (Ey rfl rfl) ?_)))))))))
 rw [decide_eq_true (hS (by assumption)).2.2]
 refine Ec rfl (Ea (Ef rfl rfl) (Ec rfl (Ea (En rfl rfl) (Ea (Ef rfl rfl) (Ea (Eb rfl) (Eg (Ee (Ed [2] rfl (Eu (Eq rfl rfl ?_))))))))))
 rotate_left
 intro h19
 try rw [nnp] at h19
 refine Ej rfl (Ej rfl (Ej rfl (Ek rfl (Em (is := [0, 15, 16, 132, 135, 138, 139]) rfl (Ek rfl (Ek rfl (Ek rfl (Ek rfl (Ej rfl (Ej rfl (Ek rfl ?_)))))))))))
 refine Ek rfl (Ej rfl (Ej rfl (Ek rfl (Ek rfl (Ek rfl (Ek rfl (Em (is := [0, 15, 16, 132, 135, 149, 150, 153]) rfl (Ek rfl (Ej rfl (Ej rfl ?_))))))))))
 iterate 7 refine Ek rfl ?_
 refine Ej rfl (Ec rfl (Ea (Ef rfl rfl) (Ea (Ef rfl rfl) (Ea (Eb rfl) (Eg (Ee (Ed [2] rfl (Eu (Eq rfl rfl ?_)))))))))
 rotate_left
 rw [fixS_no hB]
 refine Ea (Eb rfl) (Eg (Ee (Ed [0, 3, 4, 8] rfl (Ei (Eo (Ea (Eb rfl) (Ea (Eb rfl) (Ea (o_adds rfl rfl (by first | omega | (simp only [List.length_nil]; omega))) (Eh rfl rfl (c_64 _) (Ea (Eb rfl) (Ea (Ep rfl rfl) ?_)))))))))))
 refine Ea (Ep rfl rfl) (Ea (Eb rfl) (Ea (Eb rfl) (Eg (Ee (Ed [0, 3, 4, 8, 9, 10] rfl (Ei (Ei (Eo (Ea (Eb rfl) (Ea (o_neqs rfl rfl) ?_))))))))))
 rw [dne]
 refine Ea (Eb rfl) (Ej rfl (Ej rfl (Ej rfl (Ek rfl (Ek rfl (Ek rfl (Ej rfl (Ej rfl (Ek rfl (Ek rfl (Ek rfl ?_)))))))))))
 refine Em (is := [0, 3, 4, 8, 67, 75, 78]) rfl (Ej rfl (Ea (En rfl rfl) (Ea (Eb rfl) (Ec rfl (Ea (Eb rfl) (Ec rfl (Ea (Ey rfl rfl) ?_)))))))
 rw [deq]
 refine Ec rfl (Ea (Eb rfl) (Ec rfl (Ea (o_lss rfl rfl) (Ec rfl (Ea (Eb rfl) ?_)))))
 first | refine s_gDF rfl ?_ ?_ | refine s_gB rfl ?_ ?_
 intro h20
 try rw [nnp] at h20
 refine Ea (Eb rfl) (Ec rfl (Ea (o_geq rfl rfl) ?_))
 rw [decide_eq_true (by omega)]
 refine Ec rfl (Ea (En rfl rfl) (Ec rfl (Ea (o_eqb rfl rfl) (Ea (En rfl rfl) (Eg (Ee (Ed [0, 3, 4, 91] rfl (s_condF rfl (Ew (Ee (Ed [0, 3, 4] rfl ?_)))))))))))
 refine Ei (Eo (Ea (Eb rfl) ?_))
 first | refine Eh rfl rfl (c_38 n hn) ?_ | refine Et rfl rfl (by simp) (c_38 n hn) rfl ?_
 refine Eh rfl rfl (c_63 _ (by have := itoa_len hn; omega)) ?_
 by_cases hC : -1000000000 < n ∧ n < 1000000000
 rw [numN_yes hn hC]
 refine Ea (Eb rfl) (Ea (Ep rfl rfl) (Ea (Ep rfl rfl) (Ea (Eb rfl) (Ea (Eb rfl) (Eg (Ee (Ed [0, 3, 4, 11, 12] rfl (Ei (Ei (Eo (Ea (Eb rfl) ?_)))))))))))
 refine Ea (Eb rfl) (Ea (Ez rfl rfl) ?_)
 rw [decide_eq_true (by omega)]
 refine Ea (Eb rfl) (Ec rfl (Ea (Eb rfl) (Ec rfl (Ea (o_lss rfl rfl) ?_))))
 rw [decide_eq_true (by omega)]
 refine Ea (Ef rfl rfl) (Ea (o_eqb rfl rfl) (Ea (Eb rfl) (Ec rfl (Ea (Eb rfl) (Ec rfl (Ea (Eb rfl) (Ec rfl (Ea (Eb rfl) (Ec rfl (Ea (Eb rfl) (Ec rfl ?_)))))))))))
 refine Ea (o_neq rfl rfl) ?_
 rw [dne]
 refine Em (is := [0, 4, 106, 108, 111]) rfl (Ec rfl (Ea (Ef rfl rfl) (Ea (En rfl rfl) (Eg (Ee (Ed [0, 4, 113] rfl (s_condF rfl (Ew (Ee (Ed [0, 4] rfl (Ei ?_)))))))))))
 refine Eo (Ea (Eb rfl) ?_)
 first | refine Eh rfl rfl (c_48 tail (by omega)) ?_ | refine Et rfl rfl (by simp) (c_48 tail (by omega)) rfl ?_
 refine Eh rfl rfl (c_78 tail (by omega)) (Ea (Eb rfl) (Ea (Ep rfl rfl) (Ea (Ep rfl rfl) (Ea (Eb rfl) (Ea (Eb rfl) (Eg (Ee (Ed [0, 4, 13, 14] rfl (Ei (Eo (Ea (Eb rfl) ?_)))))))))))
 refine Eh rfl rfl (Er code (by omega)) (Eh rfl rfl (c_65 _) ?_)
 obtain ⟨z, j, hz⟩ : ∃ z j, readV (rvF code) = (z, j) := ⟨_, _, rfl⟩
 rw [hz]
 have hS := readV_cut hz
 refine Ea (Eb rfl) (Ea (Ep rfl rfl) (Ea (Ep rfl rfl) (Ea (Eb rfl) (Ea (Eb rfl) (Eg (Ee (Ed [0, 4, 13, 14, 15, 16] rfl (Ei (Eo (Ea (Eb rfl) (Ea (Eb rfl) ?_)))))))))))
 refine Ec rfl (Ea (Eb rfl) (Ec rfl (Ea (Eb rfl) (Ec rfl (Ea (Ey rfl rfl) ?_)))))
 rw [deq]
 refine Ea (Ef rfl rfl) (Ea (Eb rfl) (Ec rfl (Ea (Eb rfl) (Ec rfl (Ea (o_eql rfl rfl) (Ec rfl (Ea (Eb rfl) ?_)))))))
 first | refine s_gDF rfl ?_ ?_ | refine s_gB rfl ?_ ?_
 intro h21
 try rw [nnp] at h21
 refine Ea (Eb rfl) (Ec rfl (Ea (Ez rfl rfl) ?_))
 rw [decide_eq_true (hS (by assumption)).1]
 refine Ec rfl (Ea (Eb rfl) (Ec rfl (Ea (Eb rfl) (Em (is := [0, 15, 16, 132, 135, 138, 139]) rfl (Ec rfl (Ea (Eb rfl) (Ec rfl (Eh rfl rfl (Er code (by omega)) (Ec rfl (Ea (Ev rfl) (Ec rfl ?_)))))))))))
 refine Ea (o_leq rfl rfl) ?_
 rw [decide_eq_true (hS (by assumption)).2.1]
 refine Ec rfl (Ea (Ef rfl rfl) (Ec rfl (Ea (Eb rfl) (Ec rfl (Ea (Eb rfl) (Ec rfl (Ea (Ez rfl rfl) ?_)))))))
 rw [decide_eq_true (hS (by assumption)).1]
 refine Ec rfl (Ea (Ef rfl rfl) (Ec rfl (Ea (Eb rfl) (Ec rfl (Ea (Eb rfl) (Ec rfl (Ea (Eb rfl) (Ec rfl (Eh rfl rfl (Er code (by omega)) (Ec rfl (Ea (Ev rfl) ?_)))))))))))
 refine Em (is := [0, 15, 16, 132, 135, 149, 150, 153]) rfl (Ec rfl (Ea (o_leq rfl rfl) ?_))
 rw [decide_eq_true (hS (by assumption)).2.1]
 refine Ec rfl (Ea (Ef rfl rfl) (Ec rfl (Ea (Eb rfl) (Ec rfl (Ea (Eb rfl) (Ec rfl ?_))))))
 first | refine Eh rfl rfl (c_79 _) ?_ | refine Et rfl rfl (by simp) (c_79 _) rfl ?_
 refine Ec rfl (Ea (Eb rfl) (Ec rfl (Eh rfl rfl (Er code (by omega)) (Ec rfl (Ea (Eb rfl) (Ec rfl (Ea (o_slsb rfl rfl rfl (by have := hS (by assumption); omega)) (Ec rfl (Ea (Ey rfl rfl) ?_)))))))))
 rw [decide_eq_true (hS (by assumption)).2.2]
 refine Ec rfl (Ea (Ef rfl rfl) (Ec rfl (Ea (En rfl rfl) (Ea (Ef rfl rfl) (Ea (Eb rfl) (Eg (Ee (Ed [2] rfl (Eu (Eq rfl rfl ?_))))))))))
 rotate_left
 intro h21
 try rw [nnp] at h21
 refine Ej rfl (Ej rfl (Ej rfl (Ek rfl (Em (is := [0, 15, 16, 132, 135, 138, 139]) rfl (Ek rfl (Ek rfl (Ek rfl (Ek rfl (Ej rfl (Ej rfl (Ek rfl ?_)))))))))))
 refine Ek rfl (Ej rfl (Ej rfl (Ek rfl (Ek rfl (Ek rfl (Ek rfl (Em (is := [0, 15, 16, 132, 135, 149, 150, 153]) rfl (Ek rfl (Ej rfl (Ej rfl ?_))))))))))
 iterate 7 refine Ek rfl ?_
 refine Ej rfl (Ec rfl (Ea (Ef rfl rfl) (Ea (Ef rfl rfl) (Ea (Eb rfl) (Eg (Ee (Ed [2] rfl (Eu (Eq rfl rfl ?_)))))))))
 rotate_left
 rw [numN_no9 hn hC]
 refine Ea (Eb rfl) (Ea (Ep rfl rfl) (Ea (Ep rfl rfl) (Ea (Eb rfl) (Ea (Eb rfl) (Eg (Ee (Ed [0, 3, 4, 11, 12] rfl (Ei (Ei (Eo (Ea (Eb rfl) ?_)))))))))))
 refine Ea (Eb rfl) (Ea (Ez rfl rfl) (Ea (Eb rfl) ?_))
 first | refine s_gDT rfl ?_ ?_ | refine s_gB rfl ?_ ?_
 intro h22
 try rw [nnp] at h22
 refine Ea (Eb rfl) (Ec rfl (Ea (o_lss rfl rfl) ?_))
 rw [decide_eq_false (by omega)]
 refine Ea (Ef rfl rfl) (Ea (o_eqb rfl rfl) (Ea (Eb rfl) (Ec rfl (Ea (Eb rfl) (Ec rfl (Ea (Eb rfl) (Ej rfl (Ej rfl (Ej rfl (Em (is := [0, 4, 106, 108, 111]) rfl (Ec rfl ?_)))))))))))
 refine Ea (En rfl rfl) (Ea (En rfl rfl) (Eg (Ee (Ed [0, 4, 113] rfl (s_condF rfl (Ew (Ee (Ed [0, 4] rfl (Ei (Eo (Ea (Eb rfl) ?_)))))))))))
 first | refine Eh rfl rfl (c_48 tail (by omega)) ?_ | refine Et rfl rfl (by simp) (c_48 tail (by omega)) rfl ?_
 refine Eh rfl rfl (c_78 tail (by omega)) (Ea (Eb rfl) (Ea (Ep rfl rfl) (Ea (Ep rfl rfl) (Ea (Eb rfl) (Ea (Eb rfl) (Eg (Ee (Ed [0, 4, 13, 14] rfl (Ei (Eo (Ea (Eb rfl) ?_)))))))))))
 refine Eh rfl rfl (Er code (by omega)) (Eh rfl rfl (c_65 _) ?_)
 obtain ⟨z, j, hz⟩ : ∃ z j, readV (rvF code) = (z, j) := ⟨_, _, rfl⟩
 rw [hz]
 have hS := readV_cut hz
 refine Ea (Eb rfl) (Ea (Ep rfl rfl) (Ea (Ep rfl rfl) (Ea (Eb rfl) (Ea (Eb rfl) (Eg (Ee (Ed [0, 4, 13, 14, 15, 16] rfl (Ei (Eo (Ea (Eb rfl) (Ea (Eb rfl) ?_)))))))))))
 refine Ec rfl (Ea (Eb rfl) (Ec rfl (Ea (Eb rfl) (Ec rfl (Ea (Ey rfl rfl) ?_)))))
 rw [deq]
 refine Ea (Ef rfl rfl) (Ea (Eb rfl) (Ec rfl (Ea (Eb rfl) (Ec rfl (Ea (o_eql rfl rfl) (Ec rfl (Ea (Eb rfl) ?_)))))))
 first | refine s_gDF rfl ?_ ?_ | refine s_gB rfl ?_ ?_
 intro h23
 try rw [nnp] at h23
 refine Ea (Eb rfl) (Ec rfl (Ea (Ez rfl rfl) ?_))
 rw [decide_eq_true (hS (by assumption)).1]
 refine Ec rfl (Ea (Eb rfl) (Ec rfl (Ea (Eb rfl) (Em (is := [0, 15, 16, 132, 135, 138, 139]) rfl (Ec rfl (Ea (Eb rfl) (Ec rfl (Eh rfl rfl (Er code (by omega)) (Ec rfl (Ea (Ev rfl) (Ec rfl ?_)))))))))))
 refine Ea (o_leq rfl rfl) ?_
 rw [decide_eq_true (hS (by assumption)).2.1]
 refine Ec rfl (Ea (Ef rfl rfl) (Ec rfl (Ea (Eb rfl) (Ec rfl (Ea (Eb rfl) (Ec rfl (Ea (Ez rfl rfl) ?_)))))))
 rw [decide_eq_true (hS (by assumption)).1]
 refine Ec rfl (Ea (Ef rfl rfl) (Ec rfl (Ea (Eb rfl) (Ec rfl (Ea (Eb rfl) (Ec rfl (Ea (Eb rfl) (Ec rfl (Eh rfl rfl (Er code (by omega)) (Ec rfl (Ea (Ev rfl) ?_)))))))))))
 refine Em (is := [0, 15, 16, 132, 135, 149, 150, 153]) rfl (Ec rfl (Ea (o_leq rfl rfl) ?_))
 rw [decide_eq_true (hS (by assumption)).2.1]
 refine Ec rfl (Ea (Ef rfl rfl) (Ec rfl (Ea (Eb rfl) (Ec rfl (Ea (Eb rfl) (Ec rfl ?_))))))
 first | refine Eh rfl rfl (c_79 _) ?_ | refine Et rfl rfl (by simp) (c_79 _) rfl ?_
 refine Ec rfl (Ea (Eb rfl) (Ec rfl (Eh rfl rfl (Er code (by omega)) (Ec rfl (Ea (Eb rfl) (Ec rfl (Ea (o_slsb rfl rfl rfl (by have := hS (by assumption); omega)) (Ec rfl (Ea (Ey rfl rfl) ?_)))))))))
 rw [decide_eq_true (hS (by assumption)).2.2]
 refine Ec rfl (Ea (Ef rfl rfl) (Ec rfl (Ea (En rfl rfl) (Ea (Ef rfl rfl) (Ea (Eb rfl) (Eg (Ee (Ed [2] rfl (Eu (Eq rfl rfl ?_))))))))))
 rotate_left
 intro h23
 try rw [nnp] at h23
 refine Ej rfl (Ej rfl (Ej rfl (Ek rfl (Em (is := [0, 15, 16, 132, 135, 138, 139]) rfl (Ek rfl (Ek rfl (Ek rfl (Ek rfl (Ej rfl (Ej rfl (Ek rfl ?_)))))))))))
 refine Ek rfl (Ej rfl (Ej rfl (Ek rfl (Ek rfl (Ek rfl (Ek rfl (Em (is := [0, 15, 16, 132, 135, 149, 150, 153]) rfl (Ek rfl (Ej rfl (Ej rfl ?_))))))))))
 iterate 7 refine Ek rfl ?_
 refine Ej rfl (Ec rfl (Ea (Ef rfl rfl) (Ea (Ef rfl rfl) (Ea (Eb rfl) (Eg (Ee (Ed [2] rfl (Eu (Eq rfl rfl ?_)))))))))
 rotate_left
 intro h22
 try rw [nnp] at h22
 refine Ej rfl (Ej rfl (Ea (En rfl rfl) (Ea (o_eqb rfl rfl) (Ea (Eb rfl) (Ec rfl (Ea (Eb rfl) (Ec rfl (Ea (Eb rfl) (Ej rfl (Ej rfl (Ej rfl ?_)))))))))))
 refine Em (is := [0, 4, 106, 108, 111]) rfl (Ec rfl (Ea (En rfl rfl) (Ea (En rfl rfl) (Eg (Ee (Ed [0, 4, 113] rfl (s_condF rfl (Ew (Ee (Ed [0, 4] rfl (Ei ?_)))))))))))
 refine Eo (Ea (Eb rfl) ?_)
 first | refine Eh rfl rfl (c_48 tail (by omega)) ?_ | refine Et rfl rfl (by simp) (c_48 tail (by omega)) rfl ?_
 refine Eh rfl rfl (c_78 tail (by omega)) (Ea (Eb rfl) (Ea (Ep rfl rfl) (Ea (Ep rfl rfl) (Ea (Eb rfl) (Ea (Eb rfl) (Eg (Ee (Ed [0, 4, 13, 14] rfl (Ei (Eo (Ea (Eb rfl) ?_)))))))))))
 refine Eh rfl rfl (Er code (by omega)) (Eh rfl rfl (c_65 _) ?_)
 obtain ⟨z, j, hz⟩ : ∃ z j, readV (rvF code) = (z, j) := ⟨_, _, rfl⟩
 rw [hz]
 have hS := readV_cut hz
 refine Ea (Eb rfl) (Ea (Ep rfl rfl) (Ea (Ep rfl rfl) (Ea (Eb rfl) (Ea (Eb rfl) (Eg (Ee (Ed [0, 4, 13, 14, 15, 16] rfl (Ei (Eo (Ea (Eb rfl) (Ea (Eb rfl) ?_)))))))))))
 refine Ec rfl (Ea (Eb rfl) (Ec rfl (Ea (Eb rfl) (Ec rfl (Ea (Ey rfl rfl) ?_)))))
 rw [deq]
 refine Ea (Ef rfl rfl) (Ea (Eb rfl) (Ec rfl (Ea (Eb rfl) (Ec rfl (Ea (o_eql rfl rfl) (Ec rfl (Ea (Eb rfl) ?_)))))))
 first | refine s_gDF rfl ?_ ?_ | refine s_gB rfl ?_ ?_
 intro h24
 try rw [nnp] at h24
 refine Ea (Eb rfl) (Ec rfl (Ea (Ez rfl rfl) ?_))
 rw [decide_eq_true (hS (by assumption)).1]
 refine Ec rfl (Ea (Eb rfl) (Ec rfl (Ea (Eb rfl) (Em (is := [0, 15, 16, 132, 135, 138, 139]) rfl (Ec rfl (Ea (Eb rfl) (Ec rfl (Eh rfl rfl (Er code (by omega)) (Ec rfl (Ea (Ev rfl) (Ec rfl ?_)))))))))))
 refine Ea (o_leq rfl rfl) ?_
 rw [decide_eq_true (hS (by assumption)).2.1]
 refine Ec rfl (Ea (Ef rfl rfl) (Ec rfl (Ea (Eb rfl) (Ec rfl (Ea (Eb rfl) (Ec rfl (Ea (Ez rfl rfl) ?_)))))))
 rw [decide_eq_true (hS (by assumption)).1]
 refine Ec rfl (Ea (Ef rfl rfl) (Ec rfl (Ea (Eb rfl) (Ec rfl (Ea (Eb rfl) (Ec rfl (Ea (Eb rfl) (Ec rfl (Eh rfl rfl (Er code (by omega)) (Ec rfl (Ea (Ev rfl) ?_)))))))))))
 refine Em (is := [0, 15, 16, 132, 135, 149, 150, 153]) rfl (Ec rfl (Ea (o_leq rfl rfl) ?_))
 rw [decide_eq_true (hS (by assumption)).2.1]
 refine Ec rfl (Ea (Ef rfl rfl) (Ec rfl (Ea (Eb rfl) (Ec rfl (Ea (Eb rfl) (Ec rfl ?_))))))
 first | refine Eh rfl rfl (c_79 _) ?_ | refine Et rfl rfl (by simp) (c_79 _) rfl ?_
 refine Ec rfl (Ea (Eb rfl) (Ec rfl (Eh rfl rfl (Er code (by omega)) (Ec rfl (Ea (Eb rfl) (Ec rfl (Ea (o_slsb rfl rfl rfl (by have := hS (by assumption); omega)) (Ec rfl (Ea (Ey rfl rfl) ?_)))))))))
 rw [decide_eq_true (hS (by assumption)).2.2]
 refine Ec rfl (Ea (Ef rfl rfl) (Ec rfl (Ea (En rfl rfl) (Ea (Ef rfl rfl) (Ea (Eb rfl) (Eg (Ee (Ed [2] rfl (Eu (Eq rfl rfl ?_))))))))))
 rotate_left
 intro h24
 try rw [nnp] at h24
 refine Ej rfl (Ej rfl (Ej rfl (Ek rfl (Em (is := [0, 15, 16, 132, 135, 138, 139]) rfl (Ek rfl (Ek rfl (Ek rfl (Ek rfl (Ej rfl (Ej rfl (Ek rfl ?_)))))))))))
 refine Ek rfl (Ej rfl (Ej rfl (Ek rfl (Ek rfl (Ek rfl (Ek rfl (Em (is := [0, 15, 16, 132, 135, 149, 150, 153]) rfl (Ek rfl (Ej rfl (Ej rfl ?_))))))))))
 iterate 7 refine Ek rfl ?_
 refine Ej rfl (Ec rfl (Ea (Ef rfl rfl) (Ea (Ef rfl rfl) (Ea (Eb rfl) (Eg (Ee (Ed [2] rfl (Eu (Eq rfl rfl ?_)))))))))
 rotate_left
 intro h20
 try rw [nnp] at h20
 refine Ej rfl (Ej rfl (Ec rfl (Ea (Ef rfl rfl) (Ec rfl (Ea (o_eqb rfl rfl) (Ea (En rfl rfl) (Eg (Ee (Ed [0, 3, 4, 91] rfl (s_condF rfl (Ew ?_)))))))))))
 refine Ee (Ed [0, 3, 4] rfl (Ei (Eo (Ea (Eb rfl) ?_))))
 first | refine Eh rfl rfl (c_38 n hn) ?_ | refine Et rfl rfl (by simp) (c_38 n hn) rfl ?_
 refine Eh rfl rfl (c_63 _ (by have := itoa_len hn; omega)) ?_
 by_cases hC : -1000000000 < n ∧ n < 1000000000
 rw [numN_yes hn hC]
 refine Ea (Eb rfl) (Ea (Ep rfl rfl) (Ea (Ep rfl rfl) (Ea (Eb rfl) (Ea (Eb rfl) (Eg (Ee (Ed [0, 3, 4, 11, 12] rfl (Ei (Ei (Eo (Ea (Eb rfl) ?_)))))))))))
 refine Ea (Eb rfl) (Ea (Ez rfl rfl) ?_)
 rw [decide_eq_true (by omega)]
 refine Ea (Eb rfl) (Ec rfl (Ea (Eb rfl) (Ec rfl (Ea (o_lss rfl rfl) ?_))))
 rw [decide_eq_true (by omega)]
 refine Ea (Ef rfl rfl) (Ea (o_eqb rfl rfl) (Ea (Eb rfl) (Ec rfl (Ea (Eb rfl) (Ec rfl (Ea (Eb rfl) (Ec rfl (Ea (Eb rfl) (Ec rfl (Ea (Eb rfl) (Ec rfl ?_)))))))))))
 refine Ea (o_neq rfl rfl) ?_
 rw [dne]
 refine Em (is := [0, 4, 106, 108, 111]) rfl (Ec rfl (Ea (Ef rfl rfl) (Ea (En rfl rfl) (Eg (Ee (Ed [0, 4, 113] rfl (s_condF rfl (Ew (Ee (Ed [0, 4] rfl (Ei ?_)))))))))))
 refine Eo (Ea (Eb rfl) ?_)
 first | refine Eh rfl rfl (c_48 tail (by omega)) ?_ | refine Et rfl rfl (by simp) (c_48 tail (by omega)) rfl ?_
 refine Eh rfl rfl (c_78 tail (by omega)) (Ea (Eb rfl) (Ea (Ep rfl rfl) (Ea (Ep rfl rfl) (Ea (Eb rfl) (Ea (Eb rfl) (Eg (Ee (Ed [0, 4, 13, 14] rfl (Ei (Eo (Ea (Eb rfl) ?_)))))))))))
 refine Eh rfl rfl (Er code (by omega)) (Eh rfl rfl (c_65 _) ?_)
 obtain ⟨z, j, hz⟩ : ∃ z j, readV (rvF code) = (z, j) := ⟨_, _, rfl⟩
 rw [hz]
 have hS := readV_cut hz
 refine Ea (Eb rfl) (Ea (Ep rfl rfl) (Ea (Ep rfl rfl) (Ea (Eb rfl) (Ea (Eb rfl) (Eg (Ee (Ed [0, 4, 13, 14, 15, 16] rfl (Ei (Eo (Ea (Eb rfl) (Ea (Eb rfl) ?_)))))))))))
 refine Ec rfl (Ea (Eb rfl) (Ec rfl (Ea (Eb rfl) (Ec rfl (Ea (Ey rfl rfl) ?_)))))
 rw [deq]
 refine Ea (Ef rfl rfl) (Ea (Eb rfl) (Ec rfl (Ea (Eb rfl) (Ec rfl (Ea (o_eql rfl rfl) (Ec rfl (Ea (Eb rfl) ?_)))))))
 first | refine s_gDF rfl ?_ ?_ | refine s_gB rfl ?_ ?_
 intro h25
 try rw [nnp] at h25
 refine Ea (Eb rfl) (Ec rfl (Ea (Ez rfl rfl) ?_))
 rw [decide_eq_true (hS (by assumption)).1]
 refine Ec rfl (Ea (Eb rfl) (Ec rfl (Ea (Eb rfl) (Em (is := [0, 15, 16, 132, 135, 138, 139]) rfl (Ec rfl (Ea (Eb rfl) (Ec rfl (Eh rfl rfl (Er code (by omega)) (Ec rfl (Ea (Ev rfl) (Ec rfl ?_)))))))))))
 refine Ea (o_leq rfl rfl) ?_
 rw [decide_eq_true (hS (by assumption)).2.1]
 refine Ec rfl (Ea (Ef rfl rfl) (Ec rfl (Ea (Eb rfl) (Ec rfl (Ea (Eb rfl) (Ec rfl (Ea (Ez rfl rfl) ?_)))))))
 rw [decide_eq_true (hS (by assumption)).1]
 refine Ec rfl (Ea (Ef rfl rfl) (Ec rfl (Ea (Eb rfl) (Ec rfl (Ea (Eb rfl) (Ec rfl (Ea (Eb rfl) (Ec rfl (Eh rfl rfl (Er code (by omega)) (Ec rfl (Ea (Ev rfl) ?_)))))))))))
 refine Em (is := [0, 15, 16, 132, 135, 149, 150, 153]) rfl (Ec rfl (Ea (o_leq rfl rfl) ?_))
 rw [decide_eq_true (hS (by assumption)).2.1]
 refine Ec rfl (Ea (Ef rfl rfl) (Ec rfl (Ea (Eb rfl) (Ec rfl (Ea (Eb rfl) (Ec rfl ?_))))))
 first | refine Eh rfl rfl (c_79 _) ?_ | refine Et rfl rfl (by simp) (c_79 _) rfl ?_
 refine Ec rfl (Ea (Eb rfl) (Ec rfl (Eh rfl rfl (Er code (by omega)) (Ec rfl (Ea (Eb rfl) (Ec rfl (Ea (o_slsb rfl rfl rfl (by have := hS (by assumption); omega)) (Ec rfl (Ea (Ey rfl rfl) ?_)))))))))
 rw [decide_eq_true (hS (by assumption)).2.2]
 refine Ec rfl (Ea (Ef rfl rfl) (Ec rfl (Ea (En rfl rfl) (Ea (Ef rfl rfl) (Ea (Eb rfl) (Eg (Ee (Ed [2] rfl (Eu (Eq rfl rfl ?_))))))))))
 rotate_left
 intro h25
 try rw [nnp] at h25
 refine Ej rfl (Ej rfl (Ej rfl (Ek rfl (Em (is := [0, 15, 16, 132, 135, 138, 139]) rfl (Ek rfl (Ek rfl (Ek rfl (Ek rfl (Ej rfl (Ej rfl (Ek rfl ?_)))))))))))
 refine Ek rfl (Ej rfl (Ej rfl (Ek rfl (Ek rfl (Ek rfl (Ek rfl (Em (is := [0, 15, 16, 132, 135, 149, 150, 153]) rfl (Ek rfl (Ej rfl (Ej rfl ?_))))))))))
 iterate 7 refine Ek rfl ?_
 refine Ej rfl (Ec rfl (Ea (Ef rfl rfl) (Ea (Ef rfl rfl) (Ea (Eb rfl) (Eg (Ee (Ed [2] rfl (Eu (Eq rfl rfl ?_)))))))))
 rotate_left
 rw [numN_no9 hn hC]
 refine Ea (Eb rfl) (Ea (Ep rfl rfl) (Ea (Ep rfl rfl) (Ea (Eb rfl) (Ea (Eb rfl) (Eg (Ee (Ed [0, 3, 4, 11, 12] rfl (Ei (Ei (Eo (Ea (Eb rfl) ?_)))))))))))
 refine Ea (Eb rfl) (Ea (Ez rfl rfl) (Ea (Eb rfl) ?_))
 first | refine s_gDT rfl ?_ ?_ | refine s_gB rfl ?_ ?_
 intro h26
 try rw [nnp] at h26
 refine Ea (Eb rfl) (Ec rfl (Ea (o_lss rfl rfl) ?_))
 rw [decide_eq_false (by omega)]
 refine Ea (Ef rfl rfl) (Ea (o_eqb rfl rfl) (Ea (Eb rfl) (Ec rfl (Ea (Eb rfl) (Ec rfl (Ea (Eb rfl) (Ej rfl (Ej rfl (Ej rfl (Em (is := [0, 4, 106, 108, 111]) rfl (Ec rfl ?_)))))))))))
 refine Ea (En rfl rfl) (Ea (En rfl rfl) (Eg (Ee (Ed [0, 4, 113] rfl (s_condF rfl (Ew (Ee (Ed [0, 4] rfl (Ei (Eo (Ea (Eb rfl) ?_)))))))))))
 first | refine Eh rfl rfl (c_48 tail (by omega)) ?_ | refine Et rfl rfl (by simp) (c_48 tail (by omega)) rfl ?_
 refine Eh rfl rfl (c_78 tail (by omega)) (Ea (Eb rfl) (Ea (Ep rfl rfl) (Ea (Ep rfl rfl) (Ea (Eb rfl) (Ea (Eb rfl) (Eg (Ee (Ed [0, 4, 13, 14] rfl (Ei (Eo (Ea (Eb rfl) ?_)))))))))))
 refine Eh rfl rfl (Er code (by omega)) (Eh rfl rfl (c_65 _) ?_)
 obtain ⟨z, j, hz⟩ : ∃ z j, readV (rvF code) = (z, j) := ⟨_, _, rfl⟩
 rw [hz]
 have hS := readV_cut hz
 refine Ea (Eb rfl) (Ea (Ep rfl rfl) (Ea (Ep rfl rfl) (Ea (Eb rfl) (Ea (Eb rfl) (Eg (Ee (Ed [0, 4, 13, 14, 15, 16] rfl (Ei (Eo (Ea (Eb rfl) (Ea (Eb rfl) ?_)))))))))))
 refine Ec rfl (Ea (Eb rfl) (Ec rfl (Ea (Eb rfl) (Ec rfl (Ea (Ey rfl rfl) ?_)))))
 rw [deq]
 refine Ea (Ef rfl rfl) (Ea (Eb rfl) (Ec rfl (Ea (Eb rfl) (Ec rfl (Ea (o_eql rfl rfl) (Ec rfl (Ea (Eb rfl) ?_)))))))
 first | refine s_gDF rfl ?_ ?_ | refine s_gB rfl ?_ ?_
 intro h27
 try rw [nnp] at h27
 refine Ea (Eb rfl) (Ec rfl (Ea (Ez rfl rfl) ?_))
 rw [decide_eq_true (hS (by assumption)).1]
 refine Ec rfl (Ea (Eb rfl) (Ec rfl (Ea (Eb rfl) (Em (is := [0, 15, 16, 132, 135, 138, 139]) rfl (Ec rfl (Ea (Eb rfl) (Ec rfl (Eh rfl rfl (Er code (by omega)) (Ec rfl (Ea (Ev rfl) (Ec rfl ?_)))))))))))
 refine Ea (o_leq rfl rfl) ?_
 rw [decide_eq_true (hS (by assumption)).2.1]
 refine Ec rfl (Ea (Ef rfl rfl) (Ec rfl (Ea (Eb rfl) (Ec rfl (Ea (Eb rfl) (Ec rfl (Ea (Ez rfl rfl) ?_)))))))
 rw [decide_eq_true (hS (by assumption)).1]
 refine Ec rfl (Ea (Ef rfl rfl) (Ec rfl (Ea (Eb rfl) (Ec rfl (Ea (Eb rfl) (Ec rfl (Ea (Eb rfl) (Ec rfl (Eh rfl rfl (Er code (by omega)) (Ec rfl (Ea (Ev rfl) ?_)))))))))))
 refine Em (is := [0, 15, 16, 132, 135, 149, 150, 153]) rfl (Ec rfl (Ea (o_leq rfl rfl) ?_))
 rw [decide_eq_true (hS (by assumption)).2.1]
 refine Ec rfl (Ea (Ef rfl rfl) (Ec rfl (Ea (Eb rfl) (Ec rfl (Ea (Eb rfl) (Ec rfl ?_))))))
 first | refine Eh rfl rfl (c_79 _) ?_ | refine Et rfl rfl (by simp) (c_79 _) rfl ?_
 refine Ec rfl (Ea (Eb rfl) (Ec rfl (Eh rfl rfl (Er code (by omega)) (Ec rfl (Ea (Eb rfl) (Ec rfl (Ea (o_slsb rfl rfl rfl (by have := hS (by assumption); omega)) (Ec rfl (Ea (Ey rfl rfl) ?_)))))))))
 rw [decide_eq_true (hS (by assumption)).2.2]
 refine Ec rfl (Ea (Ef rfl rfl) (Ec rfl (Ea (En rfl rfl) (Ea (Ef rfl rfl) (Ea (Eb rfl) (Eg (Ee (Ed [2] rfl (Eu (Eq rfl rfl ?_))))))))))
 rotate_left
 intro h27
 try rw [nnp] at h27
 refine Ej rfl (Ej rfl (Ej rfl (Ek rfl (Em (is := [0, 15, 16, 132, 135, 138, 139]) rfl (Ek rfl (Ek rfl (Ek rfl (Ek rfl (Ej rfl (Ej rfl (Ek rfl ?_)))))))))))
 refine Ek rfl (Ej rfl (Ej rfl (Ek rfl (Ek rfl (Ek rfl (Ek rfl (Em (is := [0, 15, 16, 132, 135, 149, 150, 153]) rfl (Ek rfl (Ej rfl (Ej rfl ?_))))))))))
 iterate 7 refine Ek rfl ?_
 refine Ej rfl (Ec rfl (Ea (Ef rfl rfl) (Ea (Ef rfl rfl) (Ea (Eb rfl) (Eg (Ee (Ed [2] rfl (Eu (Eq rfl rfl ?_)))))))))
 rotate_left
 intro h26
 try rw [nnp] at h26
 refine Ej rfl (Ej rfl (Ea (En rfl rfl) (Ea (o_eqb rfl rfl) (Ea (Eb rfl) (Ec rfl (Ea (Eb rfl) (Ec rfl (Ea (Eb rfl) (Ej rfl (Ej rfl (Ej rfl ?_)))))))))))
 refine Em (is := [0, 4, 106, 108, 111]) rfl (Ec rfl (Ea (En rfl rfl) (Ea (En rfl rfl) (Eg (Ee (Ed [0, 4, 113] rfl (s_condF rfl (Ew (Ee (Ed [0, 4] rfl (Ei ?_)))))))))))
 refine Eo (Ea (Eb rfl) ?_)
 first | refine Eh rfl rfl (c_48 tail (by omega)) ?_ | refine Et rfl rfl (by simp) (c_48 tail (by omega)) rfl ?_
 refine Eh rfl rfl (c_78 tail (by omega)) (Ea (Eb rfl) (Ea (Ep rfl rfl) (Ea (Ep rfl rfl) (Ea (Eb rfl) (Ea (Eb rfl) (Eg (Ee (Ed [0, 4, 13, 14] rfl (Ei (Eo (Ea (Eb rfl) ?_)))))))))))
 refine Eh rfl rfl (Er code (by omega)) (Eh rfl rfl (c_65 _) ?_)
 obtain ⟨z, j, hz⟩ : ∃ z j, readV (rvF code) = (z, j) := ⟨_, _, rfl⟩
 rw [hz]
 have hS := readV_cut hz
 refine Ea (Eb rfl) (Ea (Ep rfl rfl) (Ea (Ep rfl rfl) (Ea (Eb rfl) (Ea (Eb rfl) (Eg (Ee (Ed [0, 4, 13, 14, 15, 16] rfl (Ei (Eo (Ea (Eb rfl) (Ea (Eb rfl) ?_)))))))))))
 refine Ec rfl (Ea (Eb rfl) (Ec rfl (Ea (Eb rfl) (Ec rfl (Ea (Ey rfl rfl) ?_)))))
 rw [deq]
 refine Ea (Ef rfl rfl) (Ea (Eb rfl) (Ec rfl (Ea (Eb rfl) (Ec rfl (Ea (o_eql rfl rfl) (Ec rfl (Ea (Eb rfl) ?_)))))))
 first | refine s_gDF rfl ?_ ?_ | refine s_gB rfl ?_ ?_
 intro h28
 try rw [nnp] at h28
 refine Ea (Eb rfl) (Ec rfl (Ea (Ez rfl rfl) ?_))
 rw [decide_eq_true (hS (by assumption)).1]
 refine Ec rfl (Ea (Eb rfl) (Ec rfl (Ea (Eb rfl) (Em (is := [0, 15, 16, 132, 135, 138, 139]) rfl (Ec rfl (Ea (Eb rfl) (Ec rfl (Eh rfl rfl (Er code (by omega)) (Ec rfl (Ea (Ev rfl) (Ec rfl ?_)))))))))))
 refine Ea (o_leq rfl rfl) ?_
 rw [decide_eq_true (hS (by assumption)).2.1]
 refine Ec rfl (Ea (Ef rfl rfl) (Ec rfl (Ea (Eb rfl) (Ec rfl (Ea (Eb rfl) (Ec rfl (Ea (Ez rfl rfl) ?_)))))))
 rw [decide_eq_true (hS (by assumption)).1]
 refine Ec rfl (Ea (Ef rfl rfl) (Ec rfl (Ea (Eb rfl) (Ec rfl (Ea (Eb rfl) (Ec rfl (Ea (Eb rfl) (Ec rfl (Eh rfl rfl (Er code (by omega)) (Ec rfl (Ea (Ev rfl) ?_)))))))))))
 refine Em (is := [0, 15, 16, 132, 135, 149, 150, 153]) rfl (Ec rfl (Ea (o_leq rfl rfl) ?_))
 rw [decide_eq_true (hS (by assumption)).2.1]
 refine Ec rfl (Ea (Ef rfl rfl) (Ec rfl (Ea (Eb rfl) (Ec rfl (Ea (Eb rfl) (Ec rfl ?_))))))
 first | refine Eh rfl rfl (c_79 _) ?_ | refine Et rfl rfl (by simp) (c_79 _) rfl ?_
 refine Ec rfl (Ea (Eb rfl) (Ec rfl (Eh rfl rfl (Er code (by omega)) (Ec rfl (Ea (Eb rfl) (Ec rfl (Ea (o_slsb rfl rfl rfl (by have := hS (by assumption); omega)) (Ec rfl (Ea (Ey rfl rfl) ?_)))))))))
 rw [decide_eq_true (hS (by assumption)).2.2]
 refine Ec rfl (Ea (Ef rfl rfl) (Ec rfl (Ea (En rfl rfl) (Ea (Ef rfl rfl) (Ea (Eb rfl) (Eg (Ee (Ed [2] rfl (Eu (Eq rfl rfl ?_))))))))))
 rotate_left
 intro h28
 try rw [nnp] at h28
 refine Ej rfl (Ej rfl (Ej rfl (Ek rfl (Em (is := [0, 15, 16, 132, 135, 138, 139]) rfl (Ek rfl (Ek rfl (Ek rfl (Ek rfl (Ej rfl (Ej rfl (Ek rfl ?_)))))))))))
 refine Ek rfl (Ej rfl (Ej rfl (Ek rfl (Ek rfl (Ek rfl (Ek rfl (Em (is := [0, 15, 16, 132, 135, 149, 150, 153]) rfl (Ek rfl (Ej rfl (Ej rfl ?_))))))))))
 iterate 7 refine Ek rfl ?_
 refine Ej rfl (Ec rfl (Ea (Ef rfl rfl) (Ea (Ef rfl rfl) (Ea (Eb rfl) (Eg (Ee (Ed [2] rfl (Eu (Eq rfl rfl ?_)))))))))
 rotate_left
 rw [varS_no hA]
 refine Ea (Eb rfl) (Eg (Ee (Ed [0, 3, 4, 5] rfl (Ei (Eo (Ea (Eb rfl) (Ea (Eb rfl) (Ea (o_adds rfl rfl (by first | omega | (simp only [List.length_nil]; omega))) (Eh rfl rfl (c_65 _) (Ea (Eb rfl) (Ea (Ep rfl rfl) ?_)))))))))))
 refine Ea (Ep rfl rfl) (Ea (Eb rfl) (Ea (Eb rfl) (Eg (Ee (Ed [0, 3, 4, 5, 6, 7] rfl (Ei (Ei (Eo (Ea (Eb rfl) (Ea (o_neqs rfl rfl) ?_))))))))))
 rw [dne]
 refine Ea (Eb rfl) (Ea (o_geq rfl rfl) (Ea (Eb rfl) ?_))
 first | refine s_gDT rfl ?_ ?_ | refine s_gB rfl ?_ ?_
 intro h29
 try rw [nnp] at h29
 refine Ea (Eb rfl) (Ec rfl (Ea (o_leq rfl rfl) ?_))
 rw [decide_eq_false (by omega)]
 refine Ea (Ef rfl rfl) (Ea (o_eqb rfl rfl) (Ea (Eb rfl) (Ec rfl (Ea (Eb rfl) (Ec rfl (Ea (o_neqs rfl rfl) ?_))))))
 rw [dne]
 refine Ec rfl (Ea (Eb rfl) (Ej rfl (Em (is := [0, 3, 4, 5, 7, 41, 44, 45]) rfl (Ej rfl (Ej rfl (Ej rfl (Ek rfl (Ek rfl (Ek rfl (Ek rfl (Ej rfl ?_)))))))))))
 refine Ec rfl (Ea (En rfl rfl) (Ea (En rfl rfl) (Eg (Ee (Ed [0, 3, 4, 55] rfl (s_condF rfl (Ew (Ee (Ed [0, 3, 4] rfl (Ei (Eo ?_)))))))))))
 refine Ea (Eb rfl) ?_
 first | refine Eh rfl rfl (c_45 n) ?_ | refine Et rfl rfl (by simp) (c_45 n) rfl ?_
 by_cases hB : 0 ≤ n ∧ n < 72057594037927936
 refine Ea (Eb rfl) (Eg (Ee (Ed [0, 3, 4, 8] rfl (Ei (Eo (Ea (Eb rfl) (Ea (Eb rfl) (Ea (o_adds rfl rfl (by first | omega | (simp only [List.length_nil]; omega))) (Eh rfl rfl (c_64 _) ?_)))))))))
 rw [readFx_fix hB]
 refine Ea (Eb rfl) (Ea (Ep rfl rfl) (Ea (Ep rfl rfl) (Ea (Eb rfl) (Ea (Eb rfl) (Eg (Ee (Ed [0, 3, 4, 8, 9, 10] rfl (Ei (Ei (Eo (Ea (Eb rfl) ?_)))))))))))
 refine Ea (o_neqs rfl rfl) ?_
 rw [decide_eq_true (fixS_some hB)]
 refine Ea (Eb rfl) (Ec rfl (Ea (Eb rfl) (Ec rfl (Ea (o_not rfl) (Ec rfl (Ea (Eb rfl) (Ec rfl (Ea (Eb rfl) (Ec rfl (Ea (Eb rfl) (Ec rfl ?_)))))))))))
 refine Ea (o_neq rfl rfl) ?_
 rw [dne]
 refine Ec rfl (Ea (En rfl rfl) (Ec rfl (Ea (Eb rfl) (Ec rfl (Ea (Eb rfl) (Ec rfl (Ea (Ev rfl) (Ec rfl (Ea (o_neq rfl rfl) ?_)))))))))
 rw [fixS_len7 hB]
 refine Em (is := [0, 3, 4, 8, 67, 75, 78]) rfl (Ec rfl (Ea (En rfl rfl) (Ea (Ef rfl rfl) (Ea (Eb rfl) (Ec rfl (Ea (Eb rfl) (Ec rfl (Ea (Ey rfl rfl) ?_))))))))
 rw [decide_eq_false (fixS_some hB)]
 refine Ec rfl (Ea (Eb rfl) (Ec rfl (Ea (o_lss rfl rfl) ?_)))
 rw [decide_eq_false (by omega)]
 refine Ec rfl (Ea (Eb rfl) (Ec rfl (Ea (Eb rfl) (Ec rfl (Ea (o_geq rfl rfl) ?_)))))
 rw [decide_eq_false (by omega)]
 refine Ec rfl (Ea (En rfl rfl) (Ec rfl (Ea (o_eqb rfl rfl) (Ea (En rfl rfl) (Eg (Ee (Ed [0, 3, 4, 91] rfl (s_condF rfl (Ew (Ee (Ed [0, 3, 4] rfl ?_)))))))))))
 refine Ei (Eo (Ea (Eb rfl) ?_))
 first | refine Eh rfl rfl (c_38 n hn) ?_ | refine Et rfl rfl (by simp) (c_38 n hn) rfl ?_
 refine Eh rfl rfl (c_63 _ (by have := itoa_len hn; omega)) ?_
 by_cases hC : -1000000000 < n ∧ n < 1000000000
 rw [numN_yes hn hC]
 refine Ea (Eb rfl) (Ea (Ep rfl rfl) (Ea (Ep rfl rfl) (Ea (Eb rfl) (Ea (Eb rfl) (Eg (Ee (Ed [0, 3, 4, 11, 12] rfl (Ei (Ei (Eo (Ea (Eb rfl) ?_)))))))))))
 refine Ea (Eb rfl) (Ea (Ez rfl rfl) ?_)
 rw [decide_eq_true (by omega)]
 refine Ea (Eb rfl) (Ec rfl (Ea (Eb rfl) (Ec rfl (Ea (o_lss rfl rfl) ?_))))
 rw [decide_eq_true (by omega)]
 refine Ea (Ef rfl rfl) (Ea (o_eqb rfl rfl) (Ea (Eb rfl) (Ec rfl (Ea (Eb rfl) (Ec rfl (Ea (Eb rfl) (Ec rfl (Ea (Eb rfl) (Ec rfl (Ea (Eb rfl) (Ec rfl ?_)))))))))))
 refine Ea (o_neq rfl rfl) ?_
 rw [dne]
 refine Em (is := [0, 4, 106, 108, 111]) rfl (Ec rfl (Ea (Ef rfl rfl) (Ea (En rfl rfl) (Eg (Ee (Ed [0, 4, 113] rfl (s_condF rfl (Ew (Ee (Ed [0, 4] rfl (Ei ?_)))))))))))
 refine Eo (Ea (Eb rfl) ?_)
 first | refine Eh rfl rfl (c_48 tail (by omega)) ?_ | refine Et rfl rfl (by simp) (c_48 tail (by omega)) rfl ?_
 refine Eh rfl rfl (c_78 tail (by omega)) (Ea (Eb rfl) (Ea (Ep rfl rfl) (Ea (Ep rfl rfl) (Ea (Eb rfl) (Ea (Eb rfl) (Eg (Ee (Ed [0, 4, 13, 14] rfl (Ei (Eo (Ea (Eb rfl) ?_)))))))))))
 refine Eh rfl rfl (Er code (by omega)) (Eh rfl rfl (c_65 _) ?_)
 obtain ⟨z, j, hz⟩ : ∃ z j, readV (rvF code) = (z, j) := ⟨_, _, rfl⟩
 rw [hz]
 have hS := readV_cut hz
 refine Ea (Eb rfl) (Ea (Ep rfl rfl) (Ea (Ep rfl rfl) (Ea (Eb rfl) (Ea (Eb rfl) (Eg (Ee (Ed [0, 4, 13, 14, 15, 16] rfl (Ei (Eo (Ea (Eb rfl) (Ea (Eb rfl) ?_)))))))))))
 refine Ec rfl (Ea (Eb rfl) (Ec rfl (Ea (Eb rfl) (Ec rfl (Ea (Ey rfl rfl) ?_)))))
 rw [deq]
 refine Ea (Ef rfl rfl) (Ea (Eb rfl) (Ec rfl (Ea (Eb rfl) (Ec rfl (Ea (o_eql rfl rfl) (Ec rfl (Ea (Eb rfl) ?_)))))))
 first | refine s_gDF rfl ?_ ?_ | refine s_gB rfl ?_ ?_
 intro h30
 try rw [nnp] at h30
 refine Ea (Eb rfl) (Ec rfl (Ea (Ez rfl rfl) ?_))
 rw [decide_eq_true (hS (by assumption)).1]
 refine Ec rfl (Ea (Eb rfl) (Ec rfl (Ea (Eb rfl) (Em (is := [0, 15, 16, 132, 135, 138, 139]) rfl (Ec rfl (Ea (Eb rfl) (Ec rfl (Eh rfl rfl (Er code (by omega)) (Ec rfl (Ea (Ev rfl) (Ec rfl ?_)))))))))))
 refine Ea (o_leq rfl rfl) ?_
 rw [decide_eq_true (hS (by assumption)).2.1]
 refine Ec rfl (Ea (Ef rfl rfl) (Ec rfl (Ea (Eb rfl) (Ec rfl (Ea (Eb rfl) (Ec rfl (Ea (Ez rfl rfl) ?_)))))))
 rw [decide_eq_true (hS (by assumption)).1]
 refine Ec rfl (Ea (Ef rfl rfl) (Ec rfl (Ea (Eb rfl) (Ec rfl (Ea (Eb rfl) (Ec rfl (Ea (Eb rfl) (Ec rfl (Eh rfl rfl (Er code (by omega)) (Ec rfl (Ea (Ev rfl) ?_)))))))))))
 refine Em (is := [0, 15, 16, 132, 135, 149, 150, 153]) rfl (Ec rfl (Ea (o_leq rfl rfl) ?_))
 rw [decide_eq_true (hS (by assumption)).2.1]
 refine Ec rfl (Ea (Ef rfl rfl) (Ec rfl (Ea (Eb rfl) (Ec rfl (Ea (Eb rfl) (Ec rfl ?_))))))
 first | refine Eh rfl rfl (c_79 _) ?_ | refine Et rfl rfl (by simp) (c_79 _) rfl ?_
 refine Ec rfl (Ea (Eb rfl) (Ec rfl (Eh rfl rfl (Er code (by omega)) (Ec rfl (Ea (Eb rfl) (Ec rfl (Ea (o_slsb rfl rfl rfl (by have := hS (by assumption); omega)) (Ec rfl (Ea (Ey rfl rfl) ?_)))))))))
 rw [decide_eq_true (hS (by assumption)).2.2]
 refine Ec rfl (Ea (Ef rfl rfl) (Ec rfl (Ea (En rfl rfl) (Ea (Ef rfl rfl) (Ea (Eb rfl) (Eg (Ee (Ed [2] rfl (Eu (Eq rfl rfl ?_))))))))))
 rotate_left
 intro h30
 try rw [nnp] at h30
 refine Ej rfl (Ej rfl (Ej rfl (Ek rfl (Em (is := [0, 15, 16, 132, 135, 138, 139]) rfl (Ek rfl (Ek rfl (Ek rfl (Ek rfl (Ej rfl (Ej rfl (Ek rfl ?_)))))))))))
 refine Ek rfl (Ej rfl (Ej rfl (Ek rfl (Ek rfl (Ek rfl (Ek rfl (Em (is := [0, 15, 16, 132, 135, 149, 150, 153]) rfl (Ek rfl (Ej rfl (Ej rfl ?_))))))))))
 iterate 7 refine Ek rfl ?_
 refine Ej rfl (Ec rfl (Ea (Ef rfl rfl) (Ea (Ef rfl rfl) (Ea (Eb rfl) (Eg (Ee (Ed [2] rfl (Eu (Eq rfl rfl ?_)))))))))
 rotate_left
 rw [numN_no9 hn hC]
 refine Ea (Eb rfl) (Ea (Ep rfl rfl) (Ea (Ep rfl rfl) (Ea (Eb rfl) (Ea (Eb rfl) (Eg (Ee (Ed [0, 3, 4, 11, 12] rfl (Ei (Ei (Eo (Ea (Eb rfl) ?_)))))))))))
 refine Ea (Eb rfl) (Ea (Ez rfl rfl) (Ea (Eb rfl) ?_))
 first | refine s_gDT rfl ?_ ?_ | refine s_gB rfl ?_ ?_
 intro h31
 try rw [nnp] at h31
 refine Ea (Eb rfl) (Ec rfl (Ea (o_lss rfl rfl) ?_))
 rw [decide_eq_false (by omega)]
 refine Ea (Ef rfl rfl) (Ea (o_eqb rfl rfl) (Ea (Eb rfl) (Ec rfl (Ea (Eb rfl) (Ec rfl (Ea (Eb rfl) (Ej rfl (Ej rfl (Ej rfl (Em (is := [0, 4, 106, 108, 111]) rfl (Ec rfl ?_)))))))))))
 refine Ea (En rfl rfl) (Ea (En rfl rfl) (Eg (Ee (Ed [0, 4, 113] rfl (s_condF rfl (Ew (Ee (Ed [0, 4] rfl (Ei (Eo (Ea (Eb rfl) ?_)))))))))))
 first | refine Eh rfl rfl (c_48 tail (by omega)) ?_ | refine Et rfl rfl (by simp) (c_48 tail (by omega)) rfl ?_
 refine Eh rfl rfl (c_78 tail (by omega)) (Ea (Eb rfl) (Ea (Ep rfl rfl) (Ea (Ep rfl rfl) (Ea (Eb rfl) (Ea (Eb rfl) (Eg (Ee (Ed [0, 4, 13, 14] rfl (Ei (Eo (Ea (Eb rfl) ?_)))))))))))
 refine Eh rfl rfl (Er code (by omega)) (Eh rfl rfl (c_65 _) ?_)
 obtain ⟨z, j, hz⟩ : ∃ z j, readV (rvF code) = (z, j) := ⟨_, _, rfl⟩
 rw [hz]
 have hS := readV_cut hz
 refine Ea (Eb rfl) (Ea (Ep rfl rfl) (Ea (Ep rfl rfl) (Ea (Eb rfl) (Ea (Eb rfl) (Eg (Ee (Ed [0, 4, 13, 14, 15, 16] rfl (Ei (Eo (Ea (Eb rfl) (Ea (Eb rfl) ?_)))))))))))
 refine Ec rfl (Ea (Eb rfl) (Ec rfl (Ea (Eb rfl) (Ec rfl (Ea (Ey rfl rfl) ?_)))))
 rw [deq]
 refine Ea (Ef rfl rfl) (Ea (Eb rfl) (Ec rfl (Ea (Eb rfl) (Ec rfl (Ea (o_eql rfl rfl) (Ec rfl (Ea (Eb rfl) ?_)))))))
 first | refine s_gDF rfl ?_ ?_ | refine s_gB rfl ?_ ?_
 intro h32
 try rw [nnp] at h32
 refine Ea (Eb rfl) (Ec rfl (Ea (Ez rfl rfl) ?_))
 rw [decide_eq_true (hS (by assumption)).1]
 refine Ec rfl (Ea (Eb rfl) (Ec rfl (Ea (Eb rfl) (Em (is := [0, 15, 16, 132, 135, 138, 139]) rfl (Ec rfl (Ea (Eb rfl) (Ec rfl (Eh rfl rfl (Er code (by omega)) (Ec rfl (Ea (Ev rfl) (Ec rfl ?_)))))))))))
 refine Ea (o_leq rfl rfl) ?_
 rw [decide_eq_true (hS (by assumption)).2.1]
 refine Ec rfl (Ea (Ef rfl rfl) (Ec rfl (Ea (Eb rfl) (Ec rfl (Ea (Eb rfl) (Ec rfl (Ea (Ez rfl rfl) ?_)))))))
 rw [decide_eq_true (hS (by assumption)).1]
 refine Ec rfl (Ea (Ef rfl rfl) (Ec rfl (Ea (Eb rfl) (Ec rfl (Ea (Eb rfl) (Ec rfl (Ea (Eb rfl) (Ec rfl (Eh rfl rfl (Er code (by omega)) (Ec rfl (Ea (Ev rfl) ?_)))))))))))
 refine Em (is := [0, 15, 16, 132, 135, 149, 150, 153]) rfl (Ec rfl (Ea (o_leq rfl rfl) ?_))
 rw [decide_eq_true (hS (by assumption)).2.1]
 refine Ec rfl (Ea (Ef rfl rfl) (Ec rfl (Ea (Eb rfl) (Ec rfl (Ea (Eb rfl) (Ec rfl ?_))))))
 first | refine Eh rfl rfl (c_79 _) ?_ | refine Et rfl rfl (by simp) (c_79 _) rfl ?_
 refine Ec rfl (Ea (Eb rfl) (Ec rfl (Eh rfl rfl (Er code (by omega)) (Ec rfl (Ea (Eb rfl) (Ec rfl (Ea (o_slsb rfl rfl rfl (by have := hS (by assumption); omega)) (Ec rfl (Ea (Ey rfl rfl) ?_)))))))))
 rw [decide_eq_true (hS (by assumption)).2.2]
 refine Ec rfl (Ea (Ef rfl rfl) (Ec rfl (Ea (En rfl rfl) (Ea (Ef rfl rfl) (Ea (Eb rfl) (Eg (Ee (Ed [2] rfl (Eu (Eq rfl rfl ?_))))))))))
 rotate_left
 intro h32
 try rw [nnp] at h32
 refine Ej rfl (Ej rfl (Ej rfl (Ek rfl (Em (is := [0, 15, 16, 132, 135, 138, 139]) rfl (Ek rfl (Ek rfl (Ek rfl (Ek rfl (Ej rfl (Ej rfl (Ek rfl ?_)))))))))))
 refine Ek rfl (Ej rfl (Ej rfl (Ek rfl (Ek rfl (Ek rfl (Ek rfl (Em (is := [0, 15, 16, 132, 135, 149, 150, 153]) rfl (Ek rfl (Ej rfl (Ej rfl ?_))))))))))
 iterate 7 refine Ek rfl ?_
 refine Ej rfl (Ec rfl (Ea (Ef rfl rfl) (Ea (Ef rfl rfl) (Ea (Eb rfl) (Eg (Ee (Ed [2] rfl (Eu (Eq rfl rfl ?_)))))))))
 rotate_left
 intro h31
 try rw [nnp] at h31
 refine Ej rfl (Ej rfl (Ea (En rfl rfl) (Ea (o_eqb rfl rfl) (Ea (Eb rfl) (Ec rfl (Ea (Eb rfl) (Ec rfl (Ea (Eb rfl) (Ej rfl (Ej rfl (Ej rfl ?_)))))))))))
 refine Em (is := [0, 4, 106, 108, 111]) rfl (Ec rfl (Ea (En rfl rfl) (Ea (En rfl rfl) (Eg (Ee (Ed [0, 4, 113] rfl (s_condF rfl (Ew (Ee (Ed [0, 4] rfl (Ei ?_)))))))))))
 refine Eo (Ea (Eb rfl) ?_)
 first | refine Eh rfl rfl (c_48 tail (by omega)) ?_ | refine Et rfl rfl (by simp) (c_48 tail (by omega)) rfl ?_
 refine Eh rfl rfl (c_78 tail (by omega)) (Ea (Eb rfl) (Ea (Ep rfl rfl) (Ea (Ep rfl rfl) (Ea (Eb rfl) (Ea (Eb rfl) (Eg (Ee (Ed [0, 4, 13, 14] rfl (Ei (Eo (Ea (Eb rfl) ?_)))))))))))
 refine Eh rfl rfl (Er code (by omega)) (Eh rfl rfl (c_65 _) ?_)
 obtain ⟨z, j, hz⟩ : ∃ z j, readV (rvF code) = (z, j) := ⟨_, _, rfl⟩
 rw [hz]
 have hS := readV_cut hz
 refine Ea (Eb rfl) (Ea (Ep rfl rfl) (Ea (Ep rfl rfl) (Ea (Eb rfl) (Ea (Eb rfl) (Eg (Ee (Ed [0, 4, 13, 14, 15, 16] rfl (Ei (Eo (Ea (Eb rfl) (Ea (Eb rfl) ?_)))))))))))
 refine Ec rfl (Ea (Eb rfl) (Ec rfl (Ea (Eb rfl) (Ec rfl (Ea (Ey rfl rfl) ?_)))))
 rw [deq]
 refine Ea (Ef rfl rfl) (Ea (Eb rfl) (Ec rfl (Ea (Eb rfl) (Ec rfl (Ea (o_eql rfl rfl) (Ec rfl (Ea (Eb rfl) ?_)))))))
 first | refine s_gDF rfl ?_ ?_ | refine s_gB rfl ?_ ?_
 intro h33
 try rw [nnp] at h33
 refine Ea (Eb rfl) (Ec rfl (Ea (Ez rfl rfl) ?_))
 rw [decide_eq_true (hS (by assumption)).1]
 refine Ec rfl (Ea (Eb rfl) (Ec rfl (Ea (Eb rfl) (Em (is := [0, 15, 16, 132, 135, 138, 139]) rfl (Ec rfl (Ea (Eb rfl) (Ec rfl (Eh rfl rfl (Er code (by omega)) (Ec rfl (Ea (Ev rfl) (Ec rfl ?_)))))))))))
 refine Ea (o_leq rfl rfl) ?_
 rw [decide_eq_true (hS (by assumption)).2.1]
 refine Ec rfl (Ea (Ef rfl rfl) (Ec rfl (Ea (Eb rfl) (Ec rfl (Ea (Eb rfl) (Ec rfl (Ea (Ez rfl rfl) ?_)))))))
 rw [decide_eq_true (hS (by assumption)).1]
 refine Ec rfl (Ea (Ef rfl rfl) (Ec rfl (Ea (Eb rfl) (Ec rfl (Ea (Eb rfl) (Ec rfl (Ea (Eb rfl) (Ec rfl (Eh rfl rfl (Er code (by omega)) (Ec rfl (Ea (Ev rfl) ?_)))))))))))
 refine Em (is := [0, 15, 16, 132, 135, 149, 150, 153]) rfl (Ec rfl (Ea (o_leq rfl rfl) ?_))
 rw [decide_eq_true (hS (by assumption)).2.1]
 refine Ec rfl (Ea (Ef rfl rfl) (Ec rfl (Ea (Eb rfl) (Ec rfl (Ea (Eb rfl) (Ec rfl ?_))))))
 first | refine Eh rfl rfl (c_79 _) ?_ | refine Et rfl rfl (by simp) (c_79 _) rfl ?_
 refine Ec rfl (Ea (Eb rfl) (Ec rfl (Eh rfl rfl (Er code (by omega)) (Ec rfl (Ea (Eb rfl) (Ec rfl (Ea (o_slsb rfl rfl rfl (by have := hS (by assumption); omega)) (Ec rfl (Ea (Ey rfl rfl) ?_)))))))))
 rw [decide_eq_true (hS (by assumption)).2.2]
 refine Ec rfl (Ea (Ef rfl rfl) (Ec rfl (Ea (En rfl rfl) (Ea (Ef rfl rfl) (Ea (Eb rfl) (Eg (Ee (Ed [2] rfl (Eu (Eq rfl rfl ?_))))))))))
 rotate_left
 intro h33
 try rw [nnp] at h33
 refine Ej rfl (Ej rfl (Ej rfl (Ek rfl (Em (is := [0, 15, 16, 132, 135, 138, 139]) rfl (Ek rfl (Ek rfl (Ek rfl (Ek rfl (Ej rfl (Ej rfl (Ek rfl ?_)))))))))))
 refine Ek rfl (Ej rfl (Ej rfl (Ek rfl (Ek rfl (Ek rfl (Ek rfl (Em (is := [0, 15, 16, 132, 135, 149, 150, 153]) rfl (Ek rfl (Ej rfl (Ej rfl ?_))))))))))
 iterate 7 refine Ek rfl ?_
 refine Ej rfl (Ec rfl (Ea (Ef rfl rfl) (Ea (Ef rfl rfl) (Ea (Eb rfl) (Eg (Ee (Ed [2] rfl (Eu (Eq rfl rfl ?_)))))))))
 rotate_left
 rw [fixS_no hB]
 refine Ea (Eb rfl) (Eg (Ee (Ed [0, 3, 4, 8] rfl (Ei (Eo (Ea (Eb rfl) (Ea (Eb rfl) (Ea (o_adds rfl rfl (by first | omega | (simp only [List.length_nil]; omega))) (Eh rfl rfl (c_64 _) (Ea (Eb rfl) (Ea (Ep rfl rfl) ?_)))))))))))
 refine Ea (Ep rfl rfl) (Ea (Eb rfl) (Ea (Eb rfl) (Eg (Ee (Ed [0, 3, 4, 8, 9, 10] rfl (Ei (Ei (Eo (Ea (Eb rfl) (Ea (o_neqs rfl rfl) ?_))))))))))
 rw [dne]
 refine Ea (Eb rfl) (Ej rfl (Ej rfl (Ej rfl (Ek rfl (Ek rfl (Ek rfl (Ej rfl (Ej rfl (Ek rfl (Ek rfl (Ek rfl ?_)))))))))))
 refine Em (is := [0, 3, 4, 8, 67, 75, 78]) rfl (Ej rfl (Ea (En rfl rfl) (Ea (Eb rfl) (Ec rfl (Ea (Eb rfl) (Ec rfl (Ea (Ey rfl rfl) ?_)))))))
 rw [deq]
 refine Ec rfl (Ea (Eb rfl) (Ec rfl (Ea (o_lss rfl rfl) (Ec rfl (Ea (Eb rfl) ?_)))))
 first | refine s_gDF rfl ?_ ?_ | refine s_gB rfl ?_ ?_
 intro h34
 try rw [nnp] at h34
 refine Ea (Eb rfl) (Ec rfl (Ea (o_geq rfl rfl) ?_))
 rw [decide_eq_true (by omega)]
 refine Ec rfl (Ea (En rfl rfl) (Ec rfl (Ea (o_eqb rfl rfl) (Ea (En rfl rfl) (Eg (Ee (Ed [0, 3, 4, 91] rfl (s_condF rfl (Ew (Ee (Ed [0, 3, 4] rfl ?_)))))))))))
 refine Ei (Eo (Ea (Eb rfl) ?_))
 first | refine Eh rfl rfl (c_38 n hn) ?_ | refine Et rfl rfl (by simp) (c_38 n hn) rfl ?_
 refine Eh rfl rfl (c_63 _ (by have := itoa_len hn; omega)) ?_
 by_cases hC : -1000000000 < n ∧ n < 1000000000
 rw [numN_yes hn hC]
 refine Ea (Eb rfl) (Ea (Ep rfl rfl) (Ea (Ep rfl rfl) (Ea (Eb rfl) (Ea (Eb rfl) (Eg (Ee (Ed [0, 3, 4, 11, 12] rfl (Ei (Ei (Eo (Ea (Eb rfl) ?_)))))))))))
 refine Ea (Eb rfl) (Ea (Ez rfl rfl) ?_)
 rw [decide_eq_true (by omega)]
 refine Ea (Eb rfl) (Ec rfl (Ea (Eb rfl) (Ec rfl (Ea (o_lss rfl rfl) ?_))))
 rw [decide_eq_true (by omega)]
 refine Ea (Ef rfl rfl) (Ea (o_eqb rfl rfl) (Ea (Eb rfl) (Ec rfl (Ea (Eb rfl) (Ec rfl (Ea (Eb rfl) (Ec rfl (Ea (Eb rfl) (Ec rfl (Ea (Eb rfl) (Ec rfl ?_)))))))))))
 refine Ea (o_neq rfl rfl) ?_
 rw [dne]
 refine Em (is := [0, 4, 106, 108, 111]) rfl (Ec rfl (Ea (Ef rfl rfl) (Ea (En rfl rfl) (Eg (Ee (Ed [0, 4, 113] rfl (s_condF rfl (Ew (Ee (Ed [0, 4] rfl (Ei ?_)))))))))))
 refine Eo (Ea (Eb rfl) ?_)
 first | refine Eh rfl rfl (c_48 tail (by omega)) ?_ | refine Et rfl rfl (by simp) (c_48 tail (by omega)) rfl ?_
 refine Eh rfl rfl (c_78 tail (by omega)) (Ea (Eb rfl) (Ea (Ep rfl rfl) (Ea (Ep rfl rfl) (Ea (Eb rfl) (Ea (Eb rfl) (Eg (Ee (Ed [0, 4, 13, 14] rfl (Ei (Eo (Ea (Eb rfl) ?_)))))))))))
 refine Eh rfl rfl (Er code (by omega)) (Eh rfl rfl (c_65 _) ?_)
 obtain ⟨z, j, hz⟩ : ∃ z j, readV (rvF code) = (z, j) := ⟨_, _, rfl⟩
 rw [hz]
 have hS := readV_cut hz
 refine Ea (Eb rfl) (Ea (Ep rfl rfl) (Ea (Ep rfl rfl) (Ea (Eb rfl) (Ea (Eb rfl) (Eg (Ee (Ed [0, 4, 13, 14, 15, 16] rfl (Ei (Eo (Ea (Eb rfl) (Ea (Eb rfl) ?_)))))))))))
 refine Ec rfl (Ea (Eb rfl) (Ec rfl (Ea (Eb rfl) (Ec rfl (Ea (Ey rfl rfl) ?_)))))
 rw [deq]
 refine Ea (Ef rfl rfl) (Ea (Eb rfl) (Ec rfl (Ea (Eb rfl) (Ec rfl (Ea (o_eql rfl rfl) (Ec rfl (Ea (Eb rfl) ?_)))))))
 first | refine s_gDF rfl ?_ ?_ | refine s_gB rfl ?_ ?_
 intro h35
 try rw [nnp] at h35
 refine Ea (Eb rfl) (Ec rfl (Ea (Ez rfl rfl) ?_))
 rw [decide_eq_true (hS (by assumption)).1]
 refine Ec rfl (Ea (Eb rfl) (Ec rfl (Ea (Eb rfl) (Em (is := [0, 15, 16, 132, 135, 138, 139]) rfl (Ec rfl (Ea (Eb rfl) (Ec rfl (Eh rfl rfl (Er code (by omega)) (Ec rfl (Ea (Ev rfl) (Ec rfl ?_)))))))))))
 refine Ea (o_leq rfl rfl) ?_
 rw [decide_eq_true (hS (by assumption)).2.1]
 refine Ec rfl (Ea (Ef rfl rfl) (Ec rfl (Ea (Eb rfl) (Ec rfl (Ea (Eb rfl) (Ec rfl (Ea (Ez rfl rfl) ?_)))))))
 rw [decide_eq_true (hS (by assumption)).1]
 refine Ec rfl (Ea (Ef rfl rfl) (Ec rfl (Ea (Eb rfl) (Ec rfl (Ea (Eb rfl) (Ec rfl (Ea (Eb rfl) (Ec rfl (Eh rfl rfl (Er code (by omega)) (Ec rfl (Ea (Ev rfl) ?_)))))))))))
 refine Em (is := [0, 15, 16, 132, 135, 149, 150, 153]) rfl (Ec rfl (Ea (o_leq rfl rfl) ?_))
 rw [decide_eq_true (hS (by assumption)).2.1]
 refine Ec rfl (Ea (Ef rfl rfl) (Ec rfl (Ea (Eb rfl) (Ec rfl (Ea (Eb rfl) (Ec rfl ?_))))))
 first | refine Eh rfl rfl (c_79 _) ?_ | refine Et rfl rfl (by simp) (c_79 _) rfl ?_
 refine Ec rfl (Ea (Eb rfl) (Ec rfl (Eh rfl rfl (Er code (by omega)) (Ec rfl (Ea (Eb rfl) (Ec rfl (Ea (o_slsb rfl rfl rfl (by have := hS (by assumption); omega)) (Ec rfl (Ea (Ey rfl rfl) ?_)))))))))
 rw [decide_eq_true (hS (by assumption)).2.2]
 refine Ec rfl (Ea (Ef rfl rfl) (Ec rfl (Ea (En rfl rfl) (Ea (Ef rfl rfl) (Ea (Eb rfl) (Eg (Ee (Ed [2] rfl (Eu (Eq rfl rfl ?_))))))))))
 rotate_left
 intro h35
 try rw [nnp] at h35
 refine Ej rfl (Ej rfl (Ej rfl (Ek rfl (Em (is := [0, 15, 16, 132, 135, 138, 139]) rfl (Ek rfl (Ek rfl (Ek rfl (Ek rfl (Ej rfl (Ej rfl (Ek rfl ?_)))))))))))
 refine Ek rfl (Ej rfl (Ej rfl (Ek rfl (Ek rfl (Ek rfl (Ek rfl (Em (is := [0, 15, 16, 132, 135, 149, 150, 153]) rfl (Ek rfl (Ej rfl (Ej rfl ?_))))))))))
 iterate 7 refine Ek rfl ?_
 refine Ej rfl (Ec rfl (Ea (Ef rfl rfl) (Ea (Ef rfl rfl) (Ea (Eb rfl) (Eg (Ee (Ed [2] rfl (Eu (Eq rfl rfl ?_)))))))))
 rotate_left
 rw [numN_no9 hn hC]
 refine Ea (Eb rfl) (Ea (Ep rfl rfl) (Ea (Ep rfl rfl) (Ea (Eb rfl) (Ea (Eb rfl) (Eg (Ee (Ed [0, 3, 4, 11, 12] rfl (Ei (Ei (Eo (Ea (Eb rfl) ?_)))))))))))
 refine Ea (Eb rfl) (Ea (Ez rfl rfl) (Ea (Eb rfl) ?_))
 first | refine s_gDT rfl ?_ ?_ | refine s_gB rfl ?_ ?_
 intro h36
 try rw [nnp] at h36
 refine Ea (Eb rfl) (Ec rfl (Ea (o_lss rfl rfl) ?_))
 rw [decide_eq_false (by omega)]
 refine Ea (Ef rfl rfl) (Ea (o_eqb rfl rfl) (Ea (Eb rfl) (Ec rfl (Ea (Eb rfl) (Ec rfl (Ea (Eb rfl) (Ej rfl (Ej rfl (Ej rfl (Em (is := [0, 4, 106, 108, 111]) rfl (Ec rfl ?_)))))))))))
 refine Ea (En rfl rfl) (Ea (En rfl rfl) (Eg (Ee (Ed [0, 4, 113] rfl (s_condF rfl (Ew (Ee (Ed [0, 4] rfl (Ei (Eo (Ea (Eb rfl) ?_)))))))))))
 first | refine Eh rfl rfl (c_48 tail (by omega)) ?_ | refine Et rfl rfl (by simp) (c_48 tail (by omega)) rfl ?_
 refine Eh rfl rfl (c_78 tail (by omega)) (Ea (Eb rfl) (Ea (Ep rfl rfl) (Ea (Ep rfl rfl) (Ea (Eb rfl) (Ea (Eb rfl) (Eg (Ee (Ed [0, 4, 13, 14] rfl (Ei (Eo (Ea (Eb rfl) ?_)))))))))))
 refine Eh rfl rfl (Er code (by omega)) (Eh rfl rfl (c_65 _) ?_)
 obtain ⟨z, j, hz⟩ : ∃ z j, readV (rvF code) = (z, j) := ⟨_, _, rfl⟩
 rw [hz]
 have hS := readV_cut hz
 refine Ea (Eb rfl) (Ea (Ep rfl rfl) (Ea (Ep rfl rfl) (Ea (Eb rfl) (Ea (Eb rfl) (Eg (Ee (Ed [0, 4, 13, 14, 15, 16] rfl (Ei (Eo (Ea (Eb rfl) (Ea (Eb rfl) ?_)))))))))))
 refine Ec rfl (Ea (Eb rfl) (Ec rfl (Ea (Eb rfl) (Ec rfl (Ea (Ey rfl rfl) ?_)))))
 rw [deq]
 refine Ea (Ef rfl rfl) (Ea (Eb rfl) (Ec rfl (Ea (Eb rfl) (Ec rfl (Ea (o_eql rfl rfl) (Ec rfl (Ea (Eb rfl) ?_)))))))
 first | refine s_gDF rfl ?_ ?_ | refine s_gB rfl ?_ ?_
 intro h37
 try rw [nnp] at h37
 refine Ea (Eb rfl) (Ec rfl (Ea (Ez rfl rfl) ?_))
 rw [decide_eq_true (hS (by assumption)).1]
 refine Ec rfl (Ea (Eb rfl) (Ec rfl (Ea (Eb rfl) (Em (is := [0, 15, 16, 132, 135, 138, 139]) rfl (Ec rfl (Ea (Eb rfl) (Ec rfl (Eh rfl rfl (Er code (by omega)) (Ec rfl (Ea (Ev rfl) (Ec rfl ?_)))))))))))
 refine Ea (o_leq rfl rfl) ?_
 rw [decide_eq_true (hS (by assumption)).2.1]
 refine Ec rfl (Ea (Ef rfl rfl) (Ec rfl (Ea (Eb rfl) (Ec rfl (Ea (Eb rfl) (Ec rfl (Ea (Ez rfl rfl) ?_)))))))
 rw [decide_eq_true (hS (by assumption)).1]
 refine Ec rfl (Ea (Ef rfl rfl) (Ec rfl (Ea (Eb rfl) (Ec rfl (Ea (Eb rfl) (Ec rfl (Ea (Eb rfl) (Ec rfl (Eh rfl rfl (Er code (by omega)) (Ec rfl (Ea (Ev rfl) ?_)))))))))))
 refine Em (is := [0, 15, 16, 132, 135, 149, 150, 153]) rfl (Ec rfl (Ea (o_leq rfl rfl) ?_))
 rw [decide_eq_true (hS (by assumption)).2.1]
 refine Ec rfl (Ea (Ef rfl rfl) (Ec rfl (Ea (Eb rfl) (Ec rfl (Ea (Eb rfl) (Ec rfl ?_))))))
 first | refine Eh rfl rfl (c_79 _) ?_ | refine Et rfl rfl (by simp) (c_79 _) rfl ?_
 refine Ec rfl (Ea (Eb rfl) (Ec rfl (Eh rfl rfl (Er code (by omega)) (Ec rfl (Ea (Eb rfl) (Ec rfl (Ea (o_slsb rfl rfl rfl (by have := hS (by assumption); omega)) (Ec rfl (Ea (Ey rfl rfl) ?_)))))))))
 rw [decide_eq_true (hS (by assumption)).2.2]
 refine Ec rfl (Ea (Ef rfl rfl) (Ec rfl (Ea (En rfl rfl) (Ea (Ef rfl rfl) (Ea (Eb rfl) (Eg (Ee (Ed [2] rfl (Eu (Eq rfl rfl ?_))))))))))
 rotate_left
 intro h37
 try rw [nnp] at h37
 refine Ej rfl (Ej rfl (Ej rfl (Ek rfl (Em (is := [0, 15, 16, 132, 135, 138, 139]) rfl (Ek rfl (Ek rfl (Ek rfl (Ek rfl (Ej rfl (Ej rfl (Ek rfl ?_)))))))))))
 refine Ek rfl (Ej rfl (Ej rfl (Ek rfl (Ek rfl (Ek rfl (Ek rfl (Em (is := [0, 15, 16, 132, 135, 149, 150, 153]) rfl (Ek rfl (Ej rfl (Ej rfl ?_))))))))))
 iterate 7 refine Ek rfl ?_
 refine Ej rfl (Ec rfl (Ea (Ef rfl rfl) (Ea (Ef rfl rfl) (Ea (Eb rfl) (Eg (Ee (Ed [2] rfl (Eu (Eq rfl rfl ?_)))))))))
 rotate_left
 intro h36
 try rw [nnp] at h36
 refine Ej rfl (Ej rfl (Ea (En rfl rfl) (Ea (o_eqb rfl rfl) (Ea (Eb rfl) (Ec rfl (Ea (Eb rfl) (Ec rfl (Ea (Eb rfl) (Ej rfl (Ej rfl (Ej rfl ?_)))))))))))
 refine Em (is := [0, 4, 106, 108, 111]) rfl (Ec rfl (Ea (En rfl rfl) (Ea (En rfl rfl) (Eg (Ee (Ed [0, 4, 113] rfl (s_condF rfl (Ew (Ee (Ed [0, 4] rfl (Ei ?_)))))))))))
 refine Eo (Ea (Eb rfl) ?_)
 first | refine Eh rfl rfl (c_48 tail (by omega)) ?_ | refine Et rfl rfl (by simp) (c_48 tail (by omega)) rfl ?_
 refine Eh rfl rfl (c_78 tail (by omega)) (Ea (Eb rfl) (Ea (Ep rfl rfl) (Ea (Ep rfl rfl) (Ea (Eb rfl) (Ea (Eb rfl) (Eg (Ee (Ed [0, 4, 13, 14] rfl (Ei (Eo (Ea (Eb rfl) ?_)))))))))))
 refine Eh rfl rfl (Er code (by omega)) (Eh rfl rfl (c_65 _) ?_)
 obtain ⟨z, j, hz⟩ : ∃ z j, readV (rvF code) = (z, j) := ⟨_, _, rfl⟩
 rw [hz]
 have hS := readV_cut hz
 refine Ea (Eb rfl) (Ea (Ep rfl rfl) (Ea (Ep rfl rfl) (Ea (Eb rfl) (Ea (Eb rfl) (Eg (Ee (Ed [0, 4, 13, 14, 15, 16] rfl (Ei (Eo (Ea (Eb rfl) (Ea (Eb rfl) ?_)))))))))))
 refine Ec rfl (Ea (Eb rfl) (Ec rfl (Ea (Eb rfl) (Ec rfl (Ea (Ey rfl rfl) ?_)))))
 rw [deq]
 refine Ea (Ef rfl rfl) (Ea (Eb rfl) (Ec rfl (Ea (Eb rfl) (Ec rfl (Ea (o_eql rfl rfl) (Ec rfl (Ea (Eb rfl) ?_)))))))
 first | refine s_gDF rfl ?_ ?_ | refine s_gB rfl ?_ ?_
 intro h38
 try rw [nnp] at h38
 refine Ea (Eb rfl) (Ec rfl (Ea (Ez rfl rfl) ?_))
 rw [decide_eq_true (hS (by assumption)).1]
 refine Ec rfl (Ea (Eb rfl) (Ec rfl (Ea (Eb rfl) (Em (is := [0, 15, 16, 132, 135, 138, 139]) rfl (Ec rfl (Ea (Eb rfl) (Ec rfl (Eh rfl rfl (Er code (by omega)) (Ec rfl (Ea (Ev rfl) (Ec rfl ?_)))))))))))
 refine Ea (o_leq rfl rfl) ?_
 rw [decide_eq_true (hS (by assumption)).2.1]
 refine Ec rfl (Ea (Ef rfl rfl) (Ec rfl (Ea (Eb rfl) (Ec rfl (Ea (Eb rfl) (Ec rfl (Ea (Ez rfl rfl) ?_)))))))
 rw [decide_eq_true (hS (by assumption)).1]
 refine Ec rfl (Ea (Ef rfl rfl) (Ec rfl (Ea (Eb rfl) (Ec rfl (Ea (Eb rfl) (Ec rfl (Ea (Eb rfl) (Ec rfl (Eh rfl rfl (Er code (by omega)) (Ec rfl (Ea (Ev rfl) ?_)))))))))))
 refine Em (is := [0, 15, 16, 132, 135, 149, 150, 153]) rfl (Ec rfl (Ea (o_leq rfl rfl) ?_))
 rw [decide_eq_true (hS (by assumption)).2.1]
 refine Ec rfl (Ea (Ef rfl rfl) (Ec rfl (Ea (Eb rfl) (Ec rfl (Ea (Eb rfl) (Ec rfl ?_))))))
 first | refine Eh rfl rfl (c_79 _) ?_ | refine Et rfl rfl (by simp) (c_79 _) rfl ?_
 refine Ec rfl (Ea (Eb rfl) (Ec rfl (Eh rfl rfl (Er code (by omega)) (Ec rfl (Ea (Eb rfl) (Ec rfl (Ea (o_slsb rfl rfl rfl (by have := hS (by assumption); omega)) (Ec rfl (Ea (Ey rfl rfl) ?_)))))))))
 rw [decide_eq_true (hS (by assumption)).2.2]
 refine Ec rfl (Ea (Ef rfl rfl) (Ec rfl (Ea (En rfl rfl) (Ea (Ef rfl rfl) (Ea (Eb rfl) (Eg (Ee (Ed [2] rfl (Eu (Eq rfl rfl ?_))))))))))
 rotate_left
 intro h38
 try rw [nnp] at h38
 refine Ej rfl (Ej rfl (Ej rfl (Ek rfl (Em (is := [0, 15, 16, 132, 135, 138, 139]) rfl (Ek rfl (Ek rfl (Ek rfl (Ek rfl (Ej rfl (Ej rfl (Ek rfl ?_)))))))))))
 refine Ek rfl (Ej rfl (Ej rfl (Ek rfl (Ek rfl (Ek rfl (Ek rfl (Em (is := [0, 15, 16, 132, 135, 149, 150, 153]) rfl (Ek rfl (Ej rfl (Ej rfl ?_))))))))))
 iterate 7 refine Ek rfl ?_
 refine Ej rfl (Ec rfl (Ea (Ef rfl rfl) (Ea (Ef rfl rfl) (Ea (Eb rfl) (Eg (Ee (Ed [2] rfl (Eu (Eq rfl rfl ?_)))))))))
 rotate_left
 intro h34
 try rw [nnp] at h34
 refine Ej rfl (Ej rfl (Ec rfl (Ea (Ef rfl rfl) (Ec rfl (Ea (o_eqb rfl rfl) (Ea (En rfl rfl) (Eg (Ee (Ed [0, 3, 4, 91] rfl (s_condF rfl (Ew ?_)))))))))))
 refine Ee (Ed [0, 3, 4] rfl (Ei (Eo (Ea (Eb rfl) ?_))))
 first | refine Eh rfl rfl (c_38 n hn) ?_ | refine Et rfl rfl (by simp) (c_38 n hn) rfl ?_
 refine Eh rfl rfl (c_63 _ (by have := itoa_len hn; omega)) ?_
 by_cases hC : -1000000000 < n ∧ n < 1000000000
 rw [numN_yes hn hC]
 refine Ea (Eb rfl) (Ea (Ep rfl rfl) (Ea (Ep rfl rfl) (Ea (Eb rfl) (Ea (Eb rfl) (Eg (Ee (Ed [0, 3, 4, 11, 12] rfl (Ei (Ei (Eo (Ea (Eb rfl) ?_)))))))))))
 refine Ea (Eb rfl) (Ea (Ez rfl rfl) ?_)
 rw [decide_eq_true (by omega)]
 refine Ea (Eb rfl) (Ec rfl (Ea (Eb rfl) (Ec rfl (Ea (o_lss rfl rfl) ?_))))
 rw [decide_eq_true (by omega)]
 refine Ea (Ef rfl rfl) (Ea (o_eqb rfl rfl) (Ea (Eb rfl) (Ec rfl (Ea (Eb rfl) (Ec rfl (Ea (Eb rfl) (Ec rfl (Ea (Eb rfl) (Ec rfl (Ea (Eb rfl) (Ec rfl ?_)))))))))))
 refine Ea (o_neq rfl rfl) ?_
 rw [dne]
 refine Em (is := [0, 4, 106, 108, 111]) rfl (Ec rfl (Ea (Ef rfl rfl) (Ea (En rfl rfl) (Eg (Ee (Ed [0, 4, 113] rfl (s_condF rfl (Ew (Ee (Ed [0, 4] rfl (Ei ?_)))))))))))
 refine Eo (Ea (Eb rfl) ?_)
 first | refine Eh rfl rfl (c_48 tail (by omega)) ?_ | refine Et rfl rfl (by simp) (c_48 tail (by omega)) rfl ?_
 refine Eh rfl rfl (c_78 tail (by omega)) (Ea (Eb rfl) (Ea (Ep rfl rfl) (Ea (Ep rfl rfl) (Ea (Eb rfl) (Ea (Eb rfl) (Eg (Ee (Ed [0, 4, 13, 14] rfl (Ei (Eo (Ea (Eb rfl) ?_)))))))))))
 refine Eh rfl rfl (Er code (by omega)) (Eh rfl rfl (c_65 _) ?_)
 obtain ⟨z, j, hz⟩ : ∃ z j, readV (rvF code) = (z, j) := ⟨_, _, rfl⟩
 rw [hz]
 have hS := readV_cut hz
 refine Ea (Eb rfl) (Ea (Ep rfl rfl) (Ea (Ep rfl rfl) (Ea (Eb rfl) (Ea (Eb rfl) (Eg (Ee (Ed [0, 4, 13, 14, 15, 16] rfl (Ei (Eo (Ea (Eb rfl) (Ea (Eb rfl) ?_)))))))))))
 refine Ec rfl (Ea (Eb rfl) (Ec rfl (Ea (Eb rfl) (Ec rfl (Ea (Ey rfl rfl) ?_)))))
 rw [deq]
 refine Ea (Ef rfl rfl) (Ea (Eb rfl) (Ec rfl (Ea (Eb rfl) (Ec rfl (Ea (o_eql rfl rfl) (Ec rfl (Ea (Eb rfl) ?_)))))))
 first | refine s_gDF rfl ?_ ?_ | refine s_gB rfl ?_ ?_
 intro h39
 try rw [nnp] at h39
 refine Ea (Eb rfl) (Ec rfl (Ea (Ez rfl rfl) ?_))
 rw [decide_eq_true (hS (by assumption)).1]
 refine Ec rfl (Ea (Eb rfl) (Ec rfl (Ea (Eb rfl) (Em (is := [0, 15, 16, 132, 135, 138, 139]) rfl (Ec rfl (Ea (Eb rfl) (Ec rfl (Eh rfl rfl (Er code (by omega)) (Ec rfl (Ea (Ev rfl) (Ec rfl ?_)))))))))))
 refine Ea (o_leq rfl rfl) ?_
 rw [decide_eq_true (hS (by assumption)).2.1]
 refine Ec rfl (Ea (Ef rfl rfl) (Ec rfl (Ea (Eb rfl) (Ec rfl (Ea (Eb rfl) (Ec rfl (Ea (Ez rfl rfl) ?_)))))))
 rw [decide_eq_true (hS (by assumption)).1]
 refine Ec rfl (Ea (Ef rfl rfl) (Ec rfl (Ea (Eb rfl) (Ec rfl (Ea (Eb rfl) (Ec rfl (Ea (Eb rfl) (Ec rfl (Eh rfl rfl (Er code (by omega)) (Ec rfl (Ea (Ev rfl) ?_)))))))))))
 refine Em (is := [0, 15, 16, 132, 135, 149, 150, 153]) rfl (Ec rfl (Ea (o_leq rfl rfl) ?_))
 rw [decide_eq_true (hS (by assumption)).2.1]
 refine Ec rfl (Ea (Ef rfl rfl) (Ec rfl (Ea (Eb rfl) (Ec rfl (Ea (Eb rfl) (Ec rfl ?_))))))
 first | refine Eh rfl rfl (c_79 _) ?_ | refine Et rfl rfl (by simp) (c_79 _) rfl ?_
 refine Ec rfl (Ea (Eb rfl) (Ec rfl (Eh rfl rfl (Er code (by omega)) (Ec rfl (Ea (Eb rfl) (Ec rfl (Ea (o_slsb rfl rfl rfl (by have := hS (by assumption); omega)) (Ec rfl (Ea (Ey rfl rfl) ?_)))))))))
 rw [decide_eq_true (hS (by assumption)).2.2]
 refine Ec rfl (Ea (Ef rfl rfl) (Ec rfl (Ea (En rfl rfl) (Ea (Ef rfl rfl) (Ea (Eb rfl) (Eg (Ee (Ed [2] rfl (Eu (Eq rfl rfl ?_))))))))))
 rotate_left
 intro h39
 try rw [nnp] at h39
 refine Ej rfl (Ej rfl (Ej rfl (Ek rfl (Em (is := [0, 15, 16, 132, 135, 138, 139]) rfl (Ek rfl (Ek rfl (Ek rfl (Ek rfl (Ej rfl (Ej rfl (Ek rfl ?_)))))))))))
 refine Ek rfl (Ej rfl (Ej rfl (Ek rfl (Ek rfl (Ek rfl (Ek rfl (Em (is := [0, 15, 16, 132, 135, 149, 150, 153]) rfl (Ek rfl (Ej rfl (Ej rfl ?_))))))))))
 iterate 7 refine Ek rfl ?_
 refine Ej rfl (Ec rfl (Ea (Ef rfl rfl) (Ea (Ef rfl rfl) (Ea (Eb rfl) (Eg (Ee (Ed [2] rfl (Eu (Eq rfl rfl ?_)))))))))
 rotate_left
 rw [numN_no9 hn hC]
 refine Ea (Eb rfl) (Ea (Ep rfl rfl) (Ea (Ep rfl rfl) (Ea (Eb rfl) (Ea (Eb rfl) (Eg (Ee (Ed [0, 3, 4, 11, 12] rfl (Ei (Ei (Eo (Ea (Eb rfl) ?_)))))))))))
 refine Ea (Eb rfl) (Ea (Ez rfl rfl) (Ea (Eb rfl) ?_))
 first | refine s_gDT rfl ?_ ?_ | refine s_gB rfl ?_ ?_
 intro h40
 try rw [nnp] at h40
 refine Ea (Eb rfl) (Ec rfl (Ea (o_lss rfl rfl) ?_))
 rw [decide_eq_false (by omega)]
 refine Ea (Ef rfl rfl) (Ea (o_eqb rfl rfl) (Ea (Eb rfl) (Ec rfl (Ea (Eb rfl) (Ec rfl (Ea (Eb rfl) (Ej rfl (Ej rfl (Ej rfl (Em (is := [0, 4, 106, 108, 111]) rfl (Ec rfl ?_)))))))))))
 refine Ea (En rfl rfl) (Ea (En rfl rfl) (Eg (Ee (Ed [0, 4, 113] rfl (s_condF rfl (Ew (Ee (Ed [0, 4] rfl (Ei (Eo (Ea (Eb rfl) ?_)))))))))))
 first | refine Eh rfl rfl (c_48 tail (by omega)) ?_ | refine Et rfl rfl (by simp) (c_48 tail (by omega)) rfl ?_
 refine Eh rfl rfl (c_78 tail (by omega)) (Ea (Eb rfl) (Ea (Ep rfl rfl) (Ea (Ep rfl rfl) (Ea (Eb rfl) (Ea (Eb rfl) (Eg (Ee (Ed [0, 4, 13, 14] rfl (Ei (Eo (Ea (Eb rfl) ?_)))))))))))
 refine Eh rfl rfl (Er code (by omega)) (Eh rfl rfl (c_65 _) ?_)
 obtain ⟨z, j, hz⟩ : ∃ z j, readV (rvF code) = (z, j) := ⟨_, _, rfl⟩
 rw [hz]
 have hS := readV_cut hz
 refine Ea (Eb rfl) (Ea (Ep rfl rfl) (Ea (Ep rfl rfl) (Ea (Eb rfl) (Ea (Eb rfl) (Eg (Ee (Ed [0, 4, 13, 14, 15, 16] rfl (Ei (Eo (Ea (Eb rfl) (Ea (Eb rfl) ?_)))))))))))
 refine Ec rfl (Ea (Eb rfl) (Ec rfl (Ea (Eb rfl) (Ec rfl (Ea (Ey rfl rfl) ?_)))))
 rw [deq]
 refine Ea (Ef rfl rfl) (Ea (Eb rfl) (Ec rfl (Ea (Eb rfl) (Ec rfl (Ea (o_eql rfl rfl) (Ec rfl (Ea (Eb rfl) ?_)))))))
 first | refine s_gDF rfl ?_ ?_ | refine s_gB rfl ?_ ?_
 intro h41
 try rw [nnp] at h41
 refine Ea (Eb rfl) (Ec rfl (Ea (Ez rfl rfl) ?_))
 rw [decide_eq_true (hS (by assumption)).1]
 refine Ec rfl (Ea (Eb rfl) (Ec rfl (Ea (Eb rfl) (Em (is := [0, 15, 16, 132, 135, 138, 139]) rfl (Ec rfl (Ea (Eb rfl) (Ec rfl (Eh rfl rfl (Er code (by omega)) (Ec rfl (Ea (Ev rfl) (Ec rfl ?_)))))))))))
 refine Ea (o_leq rfl rfl) ?_
 rw [decide_eq_true (hS (by assumption)).2.1]
 refine Ec rfl (Ea (Ef rfl rfl) (Ec rfl (Ea (Eb rfl) (Ec rfl (Ea (Eb rfl) (Ec rfl (Ea (Ez rfl rfl) ?_)))))))
 rw [decide_eq_true (hS (by assumption)).1]
 refine Ec rfl (Ea (Ef rfl rfl) (Ec rfl (Ea (Eb rfl) (Ec rfl (Ea (Eb rfl) (Ec rfl (Ea (Eb rfl) (Ec rfl (Eh rfl rfl (Er code (by omega)) (Ec rfl (Ea (Ev rfl) ?_)))))))))))
 refine Em (is := [0, 15, 16, 132, 135, 149, 150, 153]) rfl (Ec rfl (Ea (o_leq rfl rfl) ?_))
 rw [decide_eq_true (hS (by assumption)).2.1]
 refine Ec rfl (Ea (Ef rfl rfl) (Ec rfl (Ea (Eb rfl) (Ec rfl (Ea (Eb rfl) (Ec rfl ?_))))))
 first | refine Eh rfl rfl (c_79 _) ?_ | refine Et rfl rfl (by simp) (c_79 _) rfl ?_
 refine Ec rfl (Ea (Eb rfl) (Ec rfl (Eh rfl rfl (Er code (by omega)) (Ec rfl (Ea (Eb rfl) (Ec rfl (Ea (o_slsb rfl rfl rfl (by have := hS (by assumption); omega)) (Ec rfl (Ea (Ey rfl rfl) ?_)))))))))
 rw [decide_eq_true (hS (by assumption)).2.2]
 refine Ec rfl (Ea (Ef rfl rfl) (Ec rfl (Ea (En rfl rfl) (Ea (Ef rfl rfl) (Ea (Eb rfl) (Eg (Ee (Ed [2] rfl (Eu (Eq rfl rfl ?_))))))))))
 rotate_left
 intro h41
 try rw [nnp] at h41
 refine Ej rfl (Ej rfl (Ej rfl (Ek rfl (Em (is := [0, 15, 16, 132, 135, 138, 139]) rfl (Ek rfl (Ek rfl (Ek rfl (Ek rfl (Ej rfl (Ej rfl (Ek rfl ?_)))))))))))
 refine Ek rfl (Ej rfl (Ej rfl (Ek rfl (Ek rfl (Ek rfl (Ek rfl (Em (is := [0, 15, 16, 132, 135, 149, 150, 153]) rfl (Ek rfl (Ej rfl (Ej rfl ?_))))))))))
 iterate 7 refine Ek rfl ?_
 refine Ej rfl (Ec rfl (Ea (Ef rfl rfl) (Ea (Ef rfl rfl) (Ea (Eb rfl) (Eg (Ee (Ed [2] rfl (Eu (Eq rfl rfl ?_)))))))))
 rotate_left
 intro h40
 try rw [nnp] at h40
 refine Ej rfl (Ej rfl (Ea (En rfl rfl) (Ea (o_eqb rfl rfl) (Ea (Eb rfl) (Ec rfl (Ea (Eb rfl) (Ec rfl (Ea (Eb rfl) (Ej rfl (Ej rfl (Ej rfl ?_)))))))))))
 refine Em (is := [0, 4, 106, 108, 111]) rfl (Ec rfl (Ea (En rfl rfl) (Ea (En rfl rfl) (Eg (Ee (Ed [0, 4, 113] rfl (s_condF rfl (Ew (Ee (Ed [0, 4] rfl (Ei ?_)))))))))))
 refine Eo (Ea (Eb rfl) ?_)
 first | refine Eh rfl rfl (c_48 tail (by omega)) ?_ | refine Et rfl rfl (by simp) (c_48 tail (by omega)) rfl ?_
 refine Eh rfl rfl (c_78 tail (by omega)) (Ea (Eb rfl) (Ea (Ep rfl rfl) (Ea (Ep rfl rfl) (Ea (Eb rfl) (Ea (Eb rfl) (Eg (Ee (Ed [0, 4, 13, 14] rfl (Ei (Eo (Ea (Eb rfl) ?_)))))))))))
 refine Eh rfl rfl (Er code (by omega)) (Eh rfl rfl (c_65 _) ?_)
 obtain ⟨z, j, hz⟩ : ∃ z j, readV (rvF code) = (z, j) := ⟨_, _, rfl⟩
 rw [hz]
 have hS := readV_cut hz
 refine Ea (Eb rfl) (Ea (Ep rfl rfl) (Ea (Ep rfl rfl) (Ea (Eb rfl) (Ea (Eb rfl) (Eg (Ee (Ed [0, 4, 13, 14, 15, 16] rfl (Ei (Eo (Ea (Eb rfl) (Ea (Eb rfl) ?_)))))))))))
 refine Ec rfl (Ea (Eb rfl) (Ec rfl (Ea (Eb rfl) (Ec rfl (Ea (Ey rfl rfl) ?_)))))
 rw [deq]
 refine Ea (Ef rfl rfl) (Ea (Eb rfl) (Ec rfl (Ea (Eb rfl) (Ec rfl (Ea (o_eql rfl rfl) (Ec rfl (Ea (Eb rfl) ?_)))))))
 first | refine s_gDF rfl ?_ ?_ | refine s_gB rfl ?_ ?_
 intro h42
 try rw [nnp] at h42
 refine Ea (Eb rfl) (Ec rfl (Ea (Ez rfl rfl) ?_))
 rw [decide_eq_true (hS (by assumption)).1]
 refine Ec rfl (Ea (Eb rfl) (Ec rfl (Ea (Eb rfl) (Em (is := [0, 15, 16, 132, 135, 138, 139]) rfl (Ec rfl (Ea (Eb rfl) (Ec rfl (Eh rfl rfl (Er code (by omega)) (Ec rfl (Ea (Ev rfl) (Ec rfl ?_)))))))))))
 refine Ea (o_leq rfl rfl) ?_
 rw [decide_eq_true (hS (by assumption)).2.1]
 refine Ec rfl (Ea (Ef rfl rfl) (Ec rfl (Ea (Eb rfl) (Ec rfl (Ea (Eb rfl) (Ec rfl (Ea (Ez rfl rfl) ?_)))))))
 rw [decide_eq_true (hS (by assumption)).1]
 refine Ec rfl (Ea (Ef rfl rfl) (Ec rfl (Ea (Eb rfl) (Ec rfl (Ea (Eb rfl) (Ec rfl (Ea (Eb rfl) (Ec rfl (Eh rfl rfl (Er code (by omega)) (Ec rfl (Ea (Ev rfl) ?_)))))))))))
 refine Em (is := [0, 15, 16, 132, 135, 149, 150, 153]) rfl (Ec rfl (Ea (o_leq rfl rfl) ?_))
 rw [decide_eq_true (hS (by assumption)).2.1]
 refine Ec rfl (Ea (Ef rfl rfl) (Ec rfl (Ea (Eb rfl) (Ec rfl (Ea (Eb rfl) (Ec rfl ?_))))))
 first | refine Eh rfl rfl (c_79 _) ?_ | refine Et rfl rfl (by simp) (c_79 _) rfl ?_
 refine Ec rfl (Ea (Eb rfl) (Ec rfl (Eh rfl rfl (Er code (by omega)) (Ec rfl (Ea (Eb rfl) (Ec rfl (Ea (o_slsb rfl rfl rfl (by have := hS (by assumption); omega)) (Ec rfl (Ea (Ey rfl rfl) ?_)))))))))
 rw [decide_eq_true (hS (by assumption)).2.2]
 refine Ec rfl (Ea (Ef rfl rfl) (Ec rfl (Ea (En rfl rfl) (Ea (Ef rfl rfl) (Ea (Eb rfl) (Eg (Ee (Ed [2] rfl (Eu (Eq rfl rfl ?_))))))))))
 rotate_left
 intro h42
 try rw [nnp] at h42
 refine Ej rfl (Ej rfl (Ej rfl (Ek rfl (Em (is := [0, 15, 16, 132, 135, 138, 139]) rfl (Ek rfl (Ek rfl (Ek rfl (Ek rfl (Ej rfl (Ej rfl (Ek rfl ?_)))))))))))
 refine Ek rfl (Ej rfl (Ej rfl (Ek rfl (Ek rfl (Ek rfl (Ek rfl (Em (is := [0, 15, 16, 132, 135, 149, 150, 153]) rfl (Ek rfl (Ej rfl (Ej rfl ?_))))))))))
 iterate 7 refine Ek rfl ?_
 refine Ej rfl (Ec rfl (Ea (Ef rfl rfl) (Ea (Ef rfl rfl) (Ea (Eb rfl) (Eg (Ee (Ed [2] rfl (Eu (Eq rfl rfl ?_)))))))))
 rotate_left
 intro h29
 try rw [nnp] at h29
 refine Ej rfl (Ej rfl (Ea (En rfl rfl) (Ea (o_eqb rfl rfl) (Ea (Eb rfl) (Ec rfl (Ea (Eb rfl) (Ec rfl (Ea (o_neqs rfl rfl) ?_))))))))
 rw [dne]
 refine Ec rfl (Ea (Eb rfl) (Ej rfl (Em (is := [0, 3, 4, 5, 7, 41, 44, 45]) rfl (Ej rfl (Ej rfl (Ej rfl (Ek rfl (Ek rfl (Ek rfl (Ek rfl (Ej rfl ?_)))))))))))
 refine Ec rfl (Ea (En rfl rfl) (Ea (En rfl rfl) (Eg (Ee (Ed [0, 3, 4, 55] rfl (s_condF rfl (Ew (Ee (Ed [0, 3, 4] rfl (Ei (Eo ?_)))))))))))
 refine Ea (Eb rfl) ?_
 first | refine Eh rfl rfl (c_45 n) ?_ | refine Et rfl rfl (by simp) (c_45 n) rfl ?_
 by_cases hB : 0 ≤ n ∧ n < 72057594037927936
 refine Ea (Eb rfl) (Eg (Ee (Ed [0, 3, 4, 8] rfl (Ei (Eo (Ea (Eb rfl) (Ea (Eb rfl) (Ea (o_adds rfl rfl (by first | omega | (simp only [List.length_nil]; omega))) (Eh rfl rfl (c_64 _) ?_)))))))))
 rw [readFx_fix hB]
 refine Ea (Eb rfl) (Ea (Ep rfl rfl) (Ea (Ep rfl rfl) (Ea (Eb rfl) (Ea (Eb rfl) (Eg (Ee (Ed [0, 3, 4, 8, 9, 10] rfl (Ei (Ei (Eo (Ea (Eb rfl) ?_)))))))))))
 refine Ea (o_neqs rfl rfl) ?_
 rw [decide_eq_true (fixS_some hB)]
 refine Ea (Eb rfl) (Ec rfl (Ea (Eb rfl) (Ec rfl (Ea (o_not rfl) (Ec rfl (Ea (Eb rfl) (Ec rfl (Ea (Eb rfl) (Ec rfl (Ea (Eb rfl) (Ec rfl ?_)))))))))))
 refine Ea (o_neq rfl rfl) ?_
 rw [dne]
 refine Ec rfl (Ea (En rfl rfl) (Ec rfl (Ea (Eb rfl) (Ec rfl (Ea (Eb rfl) (Ec rfl (Ea (Ev rfl) (Ec rfl (Ea (o_neq rfl rfl) ?_)))))))))
 rw [fixS_len7 hB]
 refine Em (is := [0, 3, 4, 8, 67, 75, 78]) rfl (Ec rfl (Ea (En rfl rfl) (Ea (Ef rfl rfl) (Ea (Eb rfl) (Ec rfl (Ea (Eb rfl) (Ec rfl (Ea (Ey rfl rfl) ?_))))))))
 rw [decide_eq_false (fixS_some hB)]
 refine Ec rfl (Ea (Eb rfl) (Ec rfl (Ea (o_lss rfl rfl) ?_)))
 rw [decide_eq_false (by omega)]
 refine Ec rfl (Ea (Eb rfl) (Ec rfl (Ea (Eb rfl) (Ec rfl (Ea (o_geq rfl rfl) ?_)))))
 rw [decide_eq_false (by omega)]
 refine Ec rfl (Ea (En rfl rfl) (Ec rfl (Ea (o_eqb rfl rfl) (Ea (En rfl rfl) (Eg (Ee (Ed [0, 3, 4, 91] rfl (s_condF rfl (Ew (Ee (Ed [0, 3, 4] rfl ?_)))))))))))
 refine Ei (Eo (Ea (Eb rfl) ?_))
 first | refine Eh rfl rfl (c_38 n hn) ?_ | refine Et rfl rfl (by simp) (c_38 n hn) rfl ?_
 refine Eh rfl rfl (c_63 _ (by have := itoa_len hn; omega)) ?_
 by_cases hC : -1000000000 < n ∧ n < 1000000000
 rw [numN_yes hn hC]
 refine Ea (Eb rfl) (Ea (Ep rfl rfl) (Ea (Ep rfl rfl) (Ea (Eb rfl) (Ea (Eb rfl) (Eg (Ee (Ed [0, 3, 4, 11, 12] rfl (Ei (Ei (Eo (Ea (Eb rfl) ?_)))))))))))
 refine Ea (Eb rfl) (Ea (Ez rfl rfl) ?_)
 rw [decide_eq_true (by omega)]
 refine Ea (Eb rfl) (Ec rfl (Ea (Eb rfl) (Ec rfl (Ea (o_lss rfl rfl) ?_))))
 rw [decide_eq_true (by omega)]
 refine Ea (Ef rfl rfl) (Ea (o_eqb rfl rfl) (Ea (Eb rfl) (Ec rfl (Ea (Eb rfl) (Ec rfl (Ea (Eb rfl) (Ec rfl (Ea (Eb rfl) (Ec rfl (Ea (Eb rfl) (Ec rfl ?_)))))))))))
 refine Ea (o_neq rfl rfl) ?_
 rw [dne]
 refine Em (is := [0, 4, 106, 108, 111]) rfl (Ec rfl (Ea (Ef rfl rfl) (Ea (En rfl rfl) (Eg (Ee (Ed [0, 4, 113] rfl (s_condF rfl (Ew (Ee (Ed [0, 4] rfl (Ei ?_)))))))))))
 refine Eo (Ea (Eb rfl) ?_)
 first | refine Eh rfl rfl (c_48 tail (by omega)) ?_ | refine Et rfl rfl (by simp) (c_48 tail (by omega)) rfl ?_
 refine Eh rfl rfl (c_78 tail (by omega)) (Ea (Eb rfl) (Ea (Ep rfl rfl) (Ea (Ep rfl rfl) (Ea (Eb rfl) (Ea (Eb rfl) (Eg (Ee (Ed [0, 4, 13, 14] rfl (Ei (Eo (Ea (Eb rfl) ?_)))))))))))
 refine Eh rfl rfl (Er code (by omega)) (Eh rfl rfl (c_65 _) ?_)
 obtain ⟨z, j, hz⟩ : ∃ z j, readV (rvF code) = (z, j) := ⟨_, _, rfl⟩
 rw [hz]
 have hS := readV_cut hz
 refine Ea (Eb rfl) (Ea (Ep rfl rfl) (Ea (Ep rfl rfl) (Ea (Eb rfl) (Ea (Eb rfl) (Eg (Ee (Ed [0, 4, 13, 14, 15, 16] rfl (Ei (Eo (Ea (Eb rfl) (Ea (Eb rfl) ?_)))))))))))
 refine Ec rfl (Ea (Eb rfl) (Ec rfl (Ea (Eb rfl) (Ec rfl (Ea (Ey rfl rfl) ?_)))))
 rw [deq]
 refine Ea (Ef rfl rfl) (Ea (Eb rfl) (Ec rfl (Ea (Eb rfl) (Ec rfl (Ea (o_eql rfl rfl) (Ec rfl (Ea (Eb rfl) ?_)))))))
 first | refine s_gDF rfl ?_ ?_ | refine s_gB rfl ?_ ?_
 intro h43
 try rw [nnp] at h43
 refine Ea (Eb rfl) (Ec rfl (Ea (Ez rfl rfl) ?_))
 rw [decide_eq_true (hS (by assumption)).1]
 refine Ec rfl (Ea (Eb rfl) (Ec rfl (Ea (Eb rfl) (Em (is := [0, 15, 16, 132, 135, 138, 139]) rfl (Ec rfl (Ea (Eb rfl) (Ec rfl (Eh rfl rfl (Er code (by omega)) (Ec rfl (Ea (Ev rfl) (Ec rfl ?_)))))))))))
 refine Ea (o_leq rfl rfl) ?_
 rw [decide_eq_true (hS (by assumption)).2.1]
 refine Ec rfl (Ea (Ef rfl rfl) (Ec rfl (Ea (Eb rfl) (Ec rfl (Ea (Eb rfl) (Ec rfl (Ea (Ez rfl rfl) ?_)))))))
 rw [decide_eq_true (hS (by assumption)).1]
 refine Ec rfl (Ea (Ef rfl rfl) (Ec rfl (Ea (Eb rfl) (Ec rfl (Ea (Eb rfl) (Ec rfl (Ea (Eb rfl) (Ec rfl (Eh rfl rfl (Er code (by omega)) (Ec rfl (Ea (Ev rfl) ?_)))))))))))
 refine Em (is := [0, 15, 16, 132, 135, 149, 150, 153]) rfl (Ec rfl (Ea (o_leq rfl rfl) ?_))
 rw [decide_eq_true (hS (by assumption)).2.1]
 refine Ec rfl (Ea (Ef rfl rfl) (Ec rfl (Ea (Eb rfl) (Ec rfl (Ea (Eb rfl) (Ec rfl ?_))))))
 first | refine Eh rfl rfl (c_79 _) ?_ | refine Et rfl rfl (by simp) (c_79 _) rfl ?_
 refine Ec rfl (Ea (Eb rfl) (Ec rfl (Eh rfl rfl (Er code (by omega)) (Ec rfl (Ea (Eb rfl) (Ec rfl (Ea (o_slsb rfl rfl rfl (by have := hS (by assumption); omega)) (Ec rfl (Ea (Ey rfl rfl) ?_)))))))))
 rw [decide_eq_true (hS (by assumption)).2.2]
 refine Ec rfl (Ea (Ef rfl rfl) (Ec rfl (Ea (En rfl rfl) (Ea (Ef rfl rfl) (Ea (Eb rfl) (Eg (Ee (Ed [2] rfl (Eu (Eq rfl rfl ?_))))))))))
 rotate_left
 intro h43
 try rw [nnp] at h43
 refine Ej rfl (Ej rfl (Ej rfl (Ek rfl (Em (is := [0, 15, 16, 132, 135, 138, 139]) rfl (Ek rfl (Ek rfl (Ek rfl (Ek rfl (Ej rfl (Ej rfl (Ek rfl ?_)))))))))))
 refine Ek rfl (Ej rfl (Ej rfl (Ek rfl (Ek rfl (Ek rfl (Ek rfl (Em (is := [0, 15, 16, 132, 135, 149, 150, 153]) rfl (Ek rfl (Ej rfl (Ej rfl ?_))))))))))
 iterate 7 refine Ek rfl ?_
 refine Ej rfl (Ec rfl (Ea (Ef rfl rfl) (Ea (Ef rfl rfl) (Ea (Eb rfl) (Eg (Ee (Ed [2] rfl (Eu (Eq rfl rfl ?_)))))))))
 rotate_left
 rw [numN_no9 hn hC]
 refine Ea (Eb rfl) (Ea (Ep rfl rfl) (Ea (Ep rfl rfl) (Ea (Eb rfl) (Ea (Eb rfl) (Eg (Ee (Ed [0, 3, 4, 11, 12] rfl (Ei (Ei (Eo (Ea (Eb rfl) ?_)))))))))))
 refine Ea (Eb rfl) (Ea (Ez rfl rfl) (Ea (Eb rfl) ?_))
 first | refine s_gDT rfl ?_ ?_ | refine s_gB rfl ?_ ?_
 intro h44
 try rw [nnp] at h44
 refine Ea (Eb rfl) (Ec rfl (Ea (o_lss rfl rfl) ?_))
 rw [decide_eq_false (by omega)]
 refine Ea (Ef rfl rfl) (Ea (o_eqb rfl rfl) (Ea (Eb rfl) (Ec rfl (Ea (Eb rfl) (Ec rfl (Ea (Eb rfl) (Ej rfl (Ej rfl (Ej rfl (Em (is := [0, 4, 106, 108, 111]) rfl (Ec rfl ?_)))))))))))
 refine Ea (En rfl rfl) (Ea (En rfl rfl) (Eg (Ee (Ed [0, 4, 113] rfl (s_condF rfl (Ew (Ee (Ed [0, 4] rfl (Ei (Eo (Ea (Eb rfl) ?_)))))))))))
 first | refine Eh rfl rfl (c_48 tail (by omega)) ?_ | refine Et rfl rfl (by simp) (c_48 tail (by omega)) rfl ?_
 refine Eh rfl rfl (c_78 tail (by omega)) (Ea (Eb rfl) (Ea (Ep rfl rfl) (Ea (Ep rfl rfl) (Ea (Eb rfl) (Ea (Eb rfl) (Eg (Ee (Ed [0, 4, 13, 14] rfl (Ei (Eo (Ea (Eb rfl) ?_)))))))))))
 refine Eh rfl rfl (Er code (by omega)) (Eh rfl rfl (c_65 _) ?_)
 obtain ⟨z, j, hz⟩ : ∃ z j, readV (rvF code) = (z, j) := ⟨_, _, rfl⟩
 rw [hz]
 have hS := readV_cut hz
 refine Ea (Eb rfl) (Ea (Ep rfl rfl) (Ea (Ep rfl rfl) (Ea (Eb rfl) (Ea (Eb rfl) (Eg (Ee (Ed [0, 4, 13, 14, 15, 16] rfl (Ei (Eo (Ea (Eb rfl) (Ea (Eb rfl) ?_)))))))))))
 refine Ec rfl (Ea (Eb rfl) (Ec rfl (Ea (Eb rfl) (Ec rfl (Ea (Ey rfl rfl) ?_)))))
 rw [deq]
 refine Ea (Ef rfl rfl) (Ea (Eb rfl) (Ec rfl (Ea (Eb rfl) (Ec rfl (Ea (o_eql rfl rfl) (Ec rfl (Ea (Eb rfl) ?_)))))))
 first | refine s_gDF rfl ?_ ?_ | refine s_gB rfl ?_ ?_
 intro h45
 try rw [nnp] at h45
 refine Ea (Eb rfl) (Ec rfl (Ea (Ez rfl rfl) ?_))
 rw [decide_eq_true (hS (by assumption)).1]
 refine Ec rfl (Ea (Eb rfl) (Ec rfl (Ea (Eb rfl) (Em (is := [0, 15, 16, 132, 135, 138, 139]) rfl (Ec rfl (Ea (Eb rfl) (Ec rfl (Eh rfl rfl (Er code (by omega)) (Ec rfl (Ea (Ev rfl) (Ec rfl ?_)))))))))))
 refine Ea (o_leq rfl rfl) ?_
 rw [decide_eq_true (hS (by assumption)).2.1]
 refine Ec rfl (Ea (Ef rfl rfl) (Ec rfl (Ea (Eb rfl) (Ec rfl (Ea (Eb rfl) (Ec rfl (Ea (Ez rfl rfl) ?_)))))))
 rw [decide_eq_true (hS (by assumption)).1]
 refine Ec rfl (Ea (Ef rfl rfl) (Ec rfl (Ea (Eb rfl) (Ec rfl (Ea (Eb rfl) (Ec rfl (Ea (Eb rfl) (Ec rfl (Eh rfl rfl (Er code (by omega)) (Ec rfl (Ea (Ev rfl) ?_)))))))))))
 refine Em (is := [0, 15, 16, 132, 135, 149, 150, 153]) rfl (Ec rfl (Ea (o_leq rfl rfl) ?_))
 rw [decide_eq_true (hS (by assumption)).2.1]
 refine Ec rfl (Ea (Ef rfl rfl) (Ec rfl (Ea (Eb rfl) (Ec rfl (Ea (Eb rfl) (Ec rfl ?_))))))
 first | refine Eh rfl rfl (c_79 _) ?_ | refine Et rfl rfl (by simp) (c_79 _) rfl ?_
 refine Ec rfl (Ea (Eb rfl) (Ec rfl (Eh rfl rfl (Er code (by omega)) (Ec rfl (Ea (Eb rfl) (Ec rfl (Ea (o_slsb rfl rfl rfl (by have := hS (by assumption); omega)) (Ec rfl (Ea (Ey rfl rfl) ?_)))))))))
 rw [decide_eq_true (hS (by assumption)).2.2]
 refine Ec rfl (Ea (Ef rfl rfl) (Ec rfl (Ea (En rfl rfl) (Ea (Ef rfl rfl) (Ea (Eb rfl) (Eg (Ee (Ed [2] rfl (Eu (Eq rfl rfl ?_))))))))))
 rotate_left
 intro h45
 try rw [nnp] at h45
 refine Ej rfl (Ej rfl (Ej rfl (Ek rfl (Em (is := [0, 15, 16, 132, 135, 138, 139]) rfl (Ek rfl (Ek rfl (Ek rfl (Ek rfl (Ej rfl (Ej rfl (Ek rfl ?_)))))))))))
 refine Ek rfl (Ej rfl (Ej rfl (Ek rfl (Ek rfl (Ek rfl (Ek rfl (Em (is := [0, 15, 16, 132, 135, 149, 150, 153]) rfl (Ek rfl (Ej rfl (Ej rfl ?_))))))))))
 iterate 7 refine Ek rfl ?_
 refine Ej rfl (Ec rfl (Ea (Ef rfl rfl) (Ea (Ef rfl rfl) (Ea (Eb rfl) (Eg (Ee (Ed [2] rfl (Eu (Eq rfl rfl ?_)))))))))
 rotate_left
 intro h44
 try rw [nnp] at h44
 refine Ej rfl (Ej rfl (Ea (En rfl rfl) (Ea (o_eqb rfl rfl) (Ea (Eb rfl) (Ec rfl (Ea (Eb rfl) (Ec rfl (Ea (Eb rfl) (Ej rfl (Ej rfl (Ej rfl ?_)))))))))))
 refine Em (is := [0, 4, 106, 108, 111]) rfl (Ec rfl (Ea (En rfl rfl) (Ea (En rfl rfl) (Eg (Ee (Ed [0, 4, 113] rfl (s_condF rfl (Ew (Ee (Ed [0, 4] rfl (Ei ?_)))))))))))
 refine Eo (Ea (Eb rfl) ?_)
 first | refine Eh rfl rfl (c_48 tail (by omega)) ?_ | refine Et rfl rfl (by simp) (c_48 tail (by omega)) rfl ?_
 refine Eh rfl rfl (c_78 tail (by omega)) (Ea (Eb rfl) (Ea (Ep rfl rfl) (Ea (Ep rfl rfl) (Ea (Eb rfl) (Ea (Eb rfl) (Eg (Ee (Ed [0, 4, 13, 14] rfl (Ei (Eo (Ea (Eb rfl) ?_)))))))))))
 refine Eh rfl rfl (Er code (by omega)) (Eh rfl rfl (c_65 _) ?_)
 obtain ⟨z, j, hz⟩ : ∃ z j, readV (rvF code) = (z, j) := ⟨_, _, rfl⟩
 rw [hz]
 have hS := readV_cut hz
 refine Ea (Eb rfl) (Ea (Ep rfl rfl) (Ea (Ep rfl rfl) (Ea (Eb rfl) (Ea (Eb rfl) (Eg (Ee (Ed [0, 4, 13, 14, 15, 16] rfl (Ei (Eo (Ea (Eb rfl) (Ea (Eb rfl) ?_)))))))))))
 refine Ec rfl (Ea (Eb rfl) (Ec rfl (Ea (Eb rfl) (Ec rfl (Ea (Ey rfl rfl) ?_)))))
 rw [deq]
 refine Ea (Ef rfl rfl) (Ea (Eb rfl) (Ec rfl (Ea (Eb rfl) (Ec rfl (Ea (o_eql rfl rfl) (Ec rfl (Ea (Eb rfl) ?_)))))))
 first | refine s_gDF rfl ?_ ?_ | refine s_gB rfl ?_ ?_
 intro h46
 try rw [nnp] at h46
 refine Ea (Eb rfl) (Ec rfl (Ea (Ez rfl rfl) ?_))
 rw [decide_eq_true (hS (by assumption)).1]
 refine Ec rfl (Ea (Eb rfl) (Ec rfl (Ea (Eb rfl) (Em (is := [0, 15, 16, 132, 135, 138, 139]) rfl (Ec rfl (Ea (Eb rfl) (Ec rfl (Eh rfl rfl (Er code (by omega)) (Ec rfl (Ea (Ev rfl) (Ec rfl ?_)))))))))))
 refine Ea (o_leq rfl rfl) ?_
 rw [decide_eq_true (hS (by assumption)).2.1]
 refine Ec rfl (Ea (Ef rfl rfl) (Ec rfl (Ea (Eb rfl) (Ec rfl (Ea (Eb rfl) (Ec rfl (Ea (Ez rfl rfl) ?_)))))))
 rw [decide_eq_true (hS (by assumption)).1]
 refine Ec rfl (Ea (Ef rfl rfl) (Ec rfl (Ea (Eb rfl) (Ec rfl (Ea (Eb rfl) (Ec rfl (Ea (Eb rfl) (Ec rfl (Eh rfl rfl (Er code (by omega)) (Ec rfl (Ea (Ev rfl) ?_)))))))))))
 refine Em (is := [0, 15, 16, 132, 135, 149, 150, 153]) rfl (Ec rfl (Ea (o_leq rfl rfl) ?_))
 rw [decide_eq_true (hS (by assumption)).2.1]
 refine Ec rfl (Ea (Ef rfl rfl) (Ec rfl (Ea (Eb rfl) (Ec rfl (Ea (Eb rfl) (Ec rfl ?_))))))
 first | refine Eh rfl rfl (c_79 _) ?_ | refine Et rfl rfl (by simp) (c_79 _) rfl ?_
 refine Ec rfl (Ea (Eb rfl) (Ec rfl (Eh rfl rfl (Er code (by omega)) (Ec rfl (Ea (Eb rfl) (Ec rfl (Ea (o_slsb rfl rfl rfl (by have := hS (by assumption); omega)) (Ec rfl (Ea (Ey rfl rfl) ?_)))))))))
 rw [decide_eq_true (hS (by assumption)).2.2]
 refine Ec rfl (Ea (Ef rfl rfl) (Ec rfl (Ea (En rfl rfl) (Ea (Ef rfl rfl) (Ea (Eb rfl) (Eg (Ee (Ed [2] rfl (Eu (Eq rfl rfl ?_))))))))))
 rotate_left
 intro h46
 try rw [nnp] at h46
 refine Ej rfl (Ej rfl (Ej rfl (Ek rfl (Em (is := [0, 15, 16, 132, 135, 138, 139]) rfl (Ek rfl (Ek rfl (Ek rfl (Ek rfl (Ej rfl (Ej rfl (Ek rfl ?_)))))))))))
 refine Ek rfl (Ej rfl (Ej rfl (Ek rfl (Ek rfl (Ek rfl (Ek rfl (Em (is := [0, 15, 16, 132, 135, 149, 150, 153]) rfl (Ek rfl (Ej rfl (Ej rfl ?_))))))))))
 iterate 7 refine Ek rfl ?_
 refine Ej rfl (Ec rfl (Ea (Ef rfl rfl) (Ea (Ef rfl rfl) (Ea (Eb rfl) (Eg (Ee (Ed [2] rfl (Eu (Eq rfl rfl ?_)))))))))
 rotate_left
 rw [fixS_no hB]
 refine Ea (Eb rfl) (Eg (Ee (Ed [0, 3, 4, 8] rfl (Ei (Eo (Ea (Eb rfl) (Ea (Eb rfl) (Ea (o_adds rfl rfl (by first | omega | (simp only [List.length_nil]; omega))) (Eh rfl rfl (c_64 _) (Ea (Eb rfl) (Ea (Ep rfl rfl) ?_)))))))))))
 refine Ea (Ep rfl rfl) (Ea (Eb rfl) (Ea (Eb rfl) (Eg (Ee (Ed [0, 3, 4, 8, 9, 10] rfl (Ei (Ei (Eo (Ea (Eb rfl) (Ea (o_neqs rfl rfl) ?_))))))))))
 rw [dne]
 refine Ea (Eb rfl) (Ej rfl (Ej rfl (Ej rfl (Ek rfl (Ek rfl (Ek rfl (Ej rfl (Ej rfl (Ek rfl (Ek rfl (Ek rfl ?_)))))))))))
 refine Em (is := [0, 3, 4, 8, 67, 75, 78]) rfl (Ej rfl (Ea (En rfl rfl) (Ea (Eb rfl) (Ec rfl (Ea (Eb rfl) (Ec rfl (Ea (Ey rfl rfl) ?_)))))))
 rw [deq]
 refine Ec rfl (Ea (Eb rfl) (Ec rfl (Ea (o_lss rfl rfl) (Ec rfl (Ea (Eb rfl) ?_)))))
 first | refine s_gDF rfl ?_ ?_ | refine s_gB rfl ?_ ?_
 intro h47
 try rw [nnp] at h47
 refine Ea (Eb rfl) (Ec rfl (Ea (o_geq rfl rfl) ?_))
 rw [decide_eq_true (by omega)]
 refine Ec rfl (Ea (En rfl rfl) (Ec rfl (Ea (o_eqb rfl rfl) (Ea (En rfl rfl) (Eg (Ee (Ed [0, 3, 4, 91] rfl (s_condF rfl (Ew (Ee (Ed [0, 3, 4] rfl ?_)))))))))))
 refine Ei (Eo (Ea (Eb rfl) ?_))
 first | refine Eh rfl rfl (c_38 n hn) ?_ | refine Et rfl rfl (by simp) (c_38 n hn) rfl ?_
 refine Eh rfl rfl (c_63 _ (by have := itoa_len hn; omega)) ?_
 by_cases hC : -1000000000 < n ∧ n < 1000000000
 rw [numN_yes hn hC]
 refine Ea (Eb rfl) (Ea (Ep rfl rfl) (Ea (Ep rfl rfl) (Ea (Eb rfl) (Ea (Eb rfl) (Eg (Ee (Ed [0, 3, 4, 11, 12] rfl (Ei (Ei (Eo (Ea (Eb rfl) ?_)))))))))))
 refine Ea (Eb rfl) (Ea (Ez rfl rfl) ?_)
 rw [decide_eq_true (by omega)]
 refine Ea (Eb rfl) (Ec rfl (Ea (Eb rfl) (Ec rfl (Ea (o_lss rfl rfl) ?_))))
 rw [decide_eq_true (by omega)]
 refine Ea (Ef rfl rfl) (Ea (o_eqb rfl rfl) (Ea (Eb rfl) (Ec rfl (Ea (Eb rfl) (Ec rfl (Ea (Eb rfl) (Ec rfl (Ea (Eb rfl) (Ec rfl (Ea (Eb rfl) (Ec rfl ?_)))))))))))
 refine Ea (o_neq rfl rfl) ?_
 rw [dne]
 refine Em (is := [0, 4, 106, 108, 111]) rfl (Ec rfl (Ea (Ef rfl rfl) (Ea (En rfl rfl) (Eg (Ee (Ed [0, 4, 113] rfl (s_condF rfl (Ew (Ee (Ed [0, 4] rfl (Ei ?_)))))))))))
 refine Eo (Ea (Eb rfl) ?_)
 first | refine Eh rfl rfl (c_48 tail (by omega)) ?_ | refine Et rfl rfl (by simp) (c_48 tail (by omega)) rfl ?_
 refine Eh rfl rfl (c_78 tail (by omega)) (Ea (Eb rfl) (Ea (Ep rfl rfl) (Ea (Ep rfl rfl) (Ea (Eb rfl) (Ea (Eb rfl) (Eg (Ee (Ed [0, 4, 13, 14] rfl (Ei (Eo (Ea (Eb rfl) ?_)))))))))))
 refine Eh rfl rfl (Er code (by omega)) (Eh rfl rfl (c_65 _) ?_)
 obtain ⟨z, j, hz⟩ : ∃ z j, readV (rvF code) = (z, j) := ⟨_, _, rfl⟩
 rw [hz]
 have hS := readV_cut hz
 refine Ea (Eb rfl) (Ea (Ep rfl rfl) (Ea (Ep rfl rfl) (Ea (Eb rfl) (Ea (Eb rfl) (Eg (Ee (Ed [0, 4, 13, 14, 15, 16] rfl (Ei (Eo (Ea (Eb rfl) (Ea (Eb rfl) ?_)))))))))))
 refine Ec rfl (Ea (Eb rfl) (Ec rfl (Ea (Eb rfl) (Ec rfl (Ea (Ey rfl rfl) ?_)))))
 rw [deq]
 refine Ea (Ef rfl rfl) (Ea (Eb rfl) (Ec rfl (Ea (Eb rfl) (Ec rfl (Ea (o_eql rfl rfl) (Ec rfl (Ea (Eb rfl) ?_)))))))
 first | refine s_gDF rfl ?_ ?_ | refine s_gB rfl ?_ ?_
 intro h48
 try rw [nnp] at h48
 refine Ea (Eb rfl) (Ec rfl (Ea (Ez rfl rfl) ?_))
 rw [decide_eq_true (hS (by assumption)).1]
 refine Ec rfl (Ea (Eb rfl) (Ec rfl (Ea (Eb rfl) (Em (is := [0, 15, 16, 132, 135, 138, 139]) rfl (Ec rfl (Ea (Eb rfl) (Ec rfl (Eh rfl rfl (Er code (by omega)) (Ec rfl (Ea (Ev rfl) (Ec rfl ?_)))))))))))
 refine Ea (o_leq rfl rfl) ?_
 rw [decide_eq_true (hS (by assumption)).2.1]
 refine Ec rfl (Ea (Ef rfl rfl) (Ec rfl (Ea (Eb rfl) (Ec rfl (Ea (Eb rfl) (Ec rfl (Ea (Ez rfl rfl) ?_)))))))
 rw [decide_eq_true (hS (by assumption)).1]
 refine Ec rfl (Ea (Ef rfl rfl) (Ec rfl (Ea (Eb rfl) (Ec rfl (Ea (Eb rfl) (Ec rfl (Ea (Eb rfl) (Ec rfl (Eh rfl rfl (Er code (by omega)) (Ec rfl (Ea (Ev rfl) ?_)))))))))))
 refine Em (is := [0, 15, 16, 132, 135, 149, 150, 153]) rfl (Ec rfl (Ea (o_leq rfl rfl) ?_))
 rw [decide_eq_true (hS (by assumption)).2.1]
 refine Ec rfl (Ea (Ef rfl rfl) (Ec rfl (Ea (Eb rfl) (Ec rfl (Ea (Eb rfl) (Ec rfl ?_))))))
 first | refine Eh rfl rfl (c_79 _) ?_ | refine Et rfl rfl (by simp) (c_79 _) rfl ?_
 refine Ec rfl (Ea (Eb rfl) (Ec rfl (Eh rfl rfl (Er code (by omega)) (Ec rfl (Ea (Eb rfl) (Ec rfl (Ea (o_slsb rfl rfl rfl (by have := hS (by assumption); omega)) (Ec rfl (Ea (Ey rfl rfl) ?_)))))))))
 rw [decide_eq_true (hS (by assumption)).2.2]
 refine Ec rfl (Ea (Ef rfl rfl) (Ec rfl (Ea (En rfl rfl) (Ea (Ef rfl rfl) (Ea (Eb rfl) (Eg (Ee (Ed [2] rfl (Eu (Eq rfl rfl ?_))))))))))
 rotate_left
 intro h48
 try rw [nnp] at h48
 refine Ej rfl (Ej rfl (Ej rfl (Ek rfl (Em (is := [0, 15, 16, 132, 135, 138, 139]) rfl (Ek rfl (Ek rfl (Ek rfl (Ek rfl (Ej rfl (Ej rfl (Ek rfl ?_)))))))))))
 refine Ek rfl (Ej rfl (Ej rfl (Ek rfl (Ek rfl (Ek rfl (Ek rfl (Em (is := [0, 15, 16, 132, 135, 149, 150, 153]) rfl (Ek rfl (Ej rfl (Ej rfl ?_))))))))))
 iterate 7 refine Ek rfl ?_
 refine Ej rfl (Ec rfl (Ea (Ef rfl rfl) (Ea (Ef rfl rfl) (Ea (Eb rfl) (Eg (Ee (Ed [2] rfl (Eu (Eq rfl rfl ?_)))))))))
 rotate_left
 rw [numN_no9 hn hC]
 refine Ea (Eb rfl) (Ea (Ep rfl rfl) (Ea (Ep rfl rfl) (Ea (Eb rfl) (Ea (Eb rfl) (Eg (Ee (Ed [0, 3, 4, 11, 12] rfl (Ei (Ei (Eo (Ea (Eb rfl) ?_)))))))))))
 refine Ea (Eb rfl) (Ea (Ez rfl rfl) (Ea (Eb rfl) ?_))
 first | refine s_gDT rfl ?_ ?_ | refine s_gB rfl ?_ ?_
 intro h49
 try rw [nnp] at h49
 refine Ea (Eb rfl) (Ec rfl (Ea (o_lss rfl rfl) ?_))
 rw [decide_eq_false (by omega)]
 refine Ea (Ef rfl rfl) (Ea (o_eqb rfl rfl) (Ea (Eb rfl) (Ec rfl (Ea (Eb rfl) (Ec rfl (Ea (Eb rfl) (Ej rfl (Ej rfl (Ej rfl (Em (is := [0, 4, 106, 108, 111]) rfl (Ec rfl ?_)))))))))))
 refine Ea (En rfl rfl) (Ea (En rfl rfl) (Eg (Ee (Ed [0, 4, 113] rfl (s_condF rfl (Ew (Ee (Ed [0, 4] rfl (Ei (Eo (Ea (Eb rfl) ?_)))))))))))
 first | refine Eh rfl rfl (c_48 tail (by omega)) ?_ | refine Et rfl rfl (by simp) (c_48 tail (by omega)) rfl ?_
 refine Eh rfl rfl (c_78 tail (by omega)) (Ea (Eb rfl) (Ea (Ep rfl rfl) (Ea (Ep rfl rfl) (Ea (Eb rfl) (Ea (Eb rfl) (Eg (Ee (Ed [0, 4, 13, 14] rfl (Ei (Eo (Ea (Eb rfl) ?_)))))))))))
 refine Eh rfl rfl (Er code (by omega)) (Eh rfl rfl (c_65 _) ?_)
 obtain ⟨z, j, hz⟩ : ∃ z j, readV (rvF code) = (z, j) := ⟨_, _, rfl⟩
 rw [hz]
 have hS := readV_cut hz
 refine Ea (Eb rfl) (Ea (Ep rfl rfl) (Ea (Ep rfl rfl) (Ea (Eb rfl) (Ea (Eb rfl) (Eg (Ee (Ed [0, 4, 13, 14, 15, 16] rfl (Ei (Eo (Ea (Eb rfl) (Ea (Eb rfl) ?_)))))))))))
 refine Ec rfl (Ea (Eb rfl) (Ec rfl (Ea (Eb rfl) (Ec rfl (Ea (Ey rfl rfl) ?_)))))
 rw [deq]
 refine Ea (Ef rfl rfl) (Ea (Eb rfl) (Ec rfl (Ea (Eb rfl) (Ec rfl (Ea (o_eql rfl rfl) (Ec rfl (Ea (Eb rfl) ?_)))))))
 first | refine s_gDF rfl ?_ ?_ | refine s_gB rfl ?_ ?_
 intro h50
 try rw [nnp] at h50
 refine Ea (Eb rfl) (Ec rfl (Ea (Ez rfl rfl) ?_))
 rw [decide_eq_true (hS (by assumption)).1]
 refine Ec rfl (Ea (Eb rfl) (Ec rfl (Ea (Eb rfl) (Em (is := [0, 15, 16, 132, 135, 138, 139]) rfl (Ec rfl (Ea (Eb rfl) (Ec rfl (Eh rfl rfl (Er code (by omega)) (Ec rfl (Ea (Ev rfl) (Ec rfl ?_)))))))))))
 refine Ea (o_leq rfl rfl) ?_
 rw [decide_eq_true (hS (by assumption)).2.1]
 refine Ec rfl (Ea (Ef rfl rfl) (Ec rfl (Ea (Eb rfl) (Ec rfl (Ea (Eb rfl) (Ec rfl (Ea (Ez rfl rfl) ?_)))))))
 rw [decide_eq_true (hS (by assumption)).1]
 refine Ec rfl (Ea (Ef rfl rfl) (Ec rfl (Ea (Eb rfl) (Ec rfl (Ea (Eb rfl) (Ec rfl (Ea (Eb rfl) (Ec rfl (Eh rfl rfl (Er code (by omega)) (Ec rfl (Ea (Ev rfl) ?_)))))))))))
 refine Em (is := [0, 15, 16, 132, 135, 149, 150, 153]) rfl (Ec rfl (Ea (o_leq rfl rfl) ?_))
 rw [decide_eq_true (hS (by assumption)).2.1]
 refine Ec rfl (Ea (Ef rfl rfl) (Ec rfl (Ea (Eb rfl) (Ec rfl (Ea (Eb rfl) (Ec rfl ?_))))))
 first | refine Eh rfl rfl (c_79 _) ?_ | refine Et rfl rfl (by simp) (c_79 _) rfl ?_
 refine Ec rfl (Ea (Eb rfl) (Ec rfl (Eh rfl rfl (Er code (by omega)) (Ec rfl (Ea (Eb rfl) (Ec rfl (Ea (o_slsb rfl rfl rfl (by have := hS (by assumption); omega)) (Ec rfl (Ea (Ey rfl rfl) ?_)))))))))
 rw [decide_eq_true (hS (by assumption)).2.2]
 refine Ec rfl (Ea (Ef rfl rfl) (Ec rfl (Ea (En rfl rfl) (Ea (Ef rfl rfl) (Ea (Eb rfl) (Eg (Ee (Ed [2] rfl (Eu (Eq rfl rfl ?_))))))))))
 rotate_left
 intro h50
 try rw [nnp] at h50
 refine Ej rfl (Ej rfl (Ej rfl (Ek rfl (Em (is := [0, 15, 16, 132, 135, 138, 139]) rfl (Ek rfl (Ek rfl (Ek rfl (Ek rfl (Ej rfl (Ej rfl (Ek rfl ?_)))))))))))
 refine Ek rfl (Ej rfl (Ej rfl (Ek rfl (Ek rfl (Ek rfl (Ek rfl (Em (is := [0, 15, 16, 132, 135, 149, 150, 153]) rfl (Ek rfl (Ej rfl (Ej rfl ?_))))))))))
 iterate 7 refine Ek rfl ?_
 refine Ej rfl (Ec rfl (Ea (Ef rfl rfl) (Ea (Ef rfl rfl) (Ea (Eb rfl) (Eg (Ee (Ed [2] rfl (Eu (Eq rfl rfl ?_)))))))))
 rotate_left
 intro h49
 try rw [nnp] at h49
 refine Ej rfl (Ej rfl (Ea (En rfl rfl) (Ea (o_eqb rfl rfl) (Ea (Eb rfl) (Ec rfl (Ea (Eb rfl) (Ec rfl (Ea (Eb rfl) (Ej rfl (Ej rfl (Ej rfl ?_)))))))))))
 refine Em (is := [0, 4, 106, 108, 111]) rfl (Ec rfl (Ea (En rfl rfl) (Ea (En rfl rfl) (Eg (Ee (Ed [0, 4, 113] rfl (s_condF rfl (Ew (Ee (Ed [0, 4] rfl (Ei ?_)))))))))))
 refine Eo (Ea (Eb rfl) ?_)
 first | refine Eh rfl rfl (c_48 tail (by omega)) ?_ | refine Et rfl rfl (by simp) (c_48 tail (by omega)) rfl ?_
 refine Eh rfl rfl (c_78 tail (by omega)) (Ea (Eb rfl) (Ea (Ep rfl rfl) (Ea (Ep rfl rfl) (Ea (Eb rfl) (Ea (Eb rfl) (Eg (Ee (Ed [0, 4, 13, 14] rfl (Ei (Eo (Ea (Eb rfl) ?_)))))))))))
 refine Eh rfl rfl (Er code (by omega)) (Eh rfl rfl (c_65 _) ?_)
 obtain ⟨z, j, hz⟩ : ∃ z j, readV (rvF code) = (z, j) := ⟨_, _, rfl⟩
 rw [hz]
 have hS := readV_cut hz
 refine Ea (Eb rfl) (Ea (Ep rfl rfl) (Ea (Ep rfl rfl) (Ea (Eb rfl) (Ea (Eb rfl) (Eg (Ee (Ed [0, 4, 13, 14, 15, 16] rfl (Ei (Eo (Ea (Eb rfl) (Ea (Eb rfl) ?_)))))))))))
 refine Ec rfl (Ea (Eb rfl) (Ec rfl (Ea (Eb rfl) (Ec rfl (Ea (Ey rfl rfl) ?_)))))
 rw [deq]
 refine Ea (Ef rfl rfl) (Ea (Eb rfl) (Ec rfl (Ea (Eb rfl) (Ec rfl (Ea (o_eql rfl rfl) (Ec rfl (Ea (Eb rfl) ?_)))))))
 first | refine s_gDF rfl ?_ ?_ | refine s_gB rfl ?_ ?_
 intro h51
 try rw [nnp] at h51
 refine Ea (Eb rfl) (Ec rfl (Ea (Ez rfl rfl) ?_))
 rw [decide_eq_true (hS (by assumption)).1]
 refine Ec rfl (Ea (Eb rfl) (Ec rfl (Ea (Eb rfl) (Em (is := [0, 15, 16, 132, 135, 138, 139]) rfl (Ec rfl (Ea (Eb rfl) (Ec rfl (Eh rfl rfl (Er code (by omega)) (Ec rfl (Ea (Ev rfl) (Ec rfl ?_)))))))))))
 refine Ea (o_leq rfl rfl) ?_
 rw [decide_eq_true (hS (by assumption)).2.1]
 refine Ec rfl (Ea (Ef rfl rfl) (Ec rfl (Ea (Eb rfl) (Ec rfl (Ea (Eb rfl) (Ec rfl (Ea (Ez rfl rfl) ?_)))))))
 rw [decide_eq_true (hS (by assumption)).1]
 refine Ec rfl (Ea (Ef rfl rfl) (Ec rfl (Ea (Eb rfl) (Ec rfl (Ea (Eb rfl) (Ec rfl (Ea (Eb rfl) (Ec rfl (Eh rfl rfl (Er code (by omega)) (Ec rfl (Ea (Ev rfl) ?_)))))))))))
 refine Em (is := [0, 15, 16, 132, 135, 149, 150, 153]) rfl (Ec rfl (Ea (o_leq rfl rfl) ?_))
 rw [decide_eq_true (hS (by assumption)).2.1]
 refine Ec rfl (Ea (Ef rfl rfl) (Ec rfl (Ea (Eb rfl) (Ec rfl (Ea (Eb rfl) (Ec rfl ?_))))))
 first | refine Eh rfl rfl (c_79 _) ?_ | refine Et rfl rfl (by simp) (c_79 _) rfl ?_
 refine Ec rfl (Ea (Eb rfl) (Ec rfl (Eh rfl rfl (Er code (by omega)) (Ec rfl (Ea (Eb rfl) (Ec rfl (Ea (o_slsb rfl rfl rfl (by have := hS (by assumption); omega)) (Ec rfl (Ea (Ey rfl rfl) ?_)))))))))
 rw [decide_eq_true (hS (by assumption)).2.2]
 refine Ec rfl (Ea (Ef rfl rfl) (Ec rfl (Ea (En rfl rfl) (Ea (Ef rfl rfl) (Ea (Eb rfl) (Eg (Ee (Ed [2] rfl (Eu (Eq rfl rfl ?_))))))))))
 rotate_left
 intro h51
 try rw [nnp] at h51
 refine Ej rfl (Ej rfl (Ej rfl (Ek rfl (Em (is := [0, 15, 16, 132, 135, 138, 139]) rfl (Ek rfl (Ek rfl (Ek rfl (Ek rfl (Ej rfl (Ej rfl (Ek rfl ?_)))))))))))
 refine Ek rfl (Ej rfl (Ej rfl (Ek rfl (Ek rfl (Ek rfl (Ek rfl (Em (is := [0, 15, 16, 132, 135, 149, 150, 153]) rfl (Ek rfl (Ej rfl (Ej rfl ?_))))))))))
 iterate 7 refine Ek rfl ?_
 refine Ej rfl (Ec rfl (Ea (Ef rfl rfl) (Ea (Ef rfl rfl) (Ea (Eb rfl) (Eg (Ee (Ed [2] rfl (Eu (Eq rfl rfl ?_)))))))))
 rotate_left
 intro h47
 try rw [nnp] at h47
 refine Ej rfl (Ej rfl (Ec rfl (Ea (Ef rfl rfl) (Ec rfl (Ea (o_eqb rfl rfl) (Ea (En rfl rfl) (Eg (Ee (Ed [0, 3, 4, 91] rfl (s_condF rfl (Ew ?_)))))))))))
 refine Ee (Ed [0, 3, 4] rfl (Ei (Eo (Ea (Eb rfl) ?_))))
 first | refine Eh rfl rfl (c_38 n hn) ?_ | refine Et rfl rfl (by simp) (c_38 n hn) rfl ?_
 refine Eh rfl rfl (c_63 _ (by have := itoa_len hn; omega)) ?_
 by_cases hC : -1000000000 < n ∧ n < 1000000000
 rw [numN_yes hn hC]
 refine Ea (Eb rfl) (Ea (Ep rfl rfl) (Ea (Ep rfl rfl) (Ea (Eb rfl) (Ea (Eb rfl) (Eg (Ee (Ed [0, 3, 4, 11, 12] rfl (Ei (Ei (Eo (Ea (Eb rfl) ?_)))))))))))
 refine Ea (Eb rfl) (Ea (Ez rfl rfl) ?_)
 rw [decide_eq_true (by omega)]
 refine Ea (Eb rfl) (Ec rfl (Ea (Eb rfl) (Ec rfl (Ea (o_lss rfl rfl) ?_))))
 rw [decide_eq_true (by omega)]
 refine Ea (Ef rfl rfl) (Ea (o_eqb rfl rfl) (Ea (Eb rfl) (Ec rfl (Ea (Eb rfl) (Ec rfl (Ea (Eb rfl) (Ec rfl (Ea (Eb rfl) (Ec rfl (Ea (Eb rfl) (Ec rfl ?_)))))))))))
 refine Ea (o_neq rfl rfl) ?_
 rw [dne]
 refine Em (is := [0, 4, 106, 108, 111]) rfl (Ec rfl (Ea (Ef rfl rfl) (Ea (En rfl rfl) (Eg (Ee (Ed [0, 4, 113] rfl (s_condF rfl (Ew (Ee (Ed [0, 4] rfl (Ei ?_)))))))))))
 refine Eo (Ea (Eb rfl) ?_)
 first | refine Eh rfl rfl (c_48 tail (by omega)) ?_ | refine Et rfl rfl (by simp) (c_48 tail (by omega)) rfl ?_
 refine Eh rfl rfl (c_78 tail (by omega)) (Ea (Eb rfl) (Ea (Ep rfl rfl) (Ea (Ep rfl rfl) (Ea (Eb rfl) (Ea (Eb rfl) (Eg (Ee (Ed [0, 4, 13, 14] rfl (Ei (Eo (Ea (Eb rfl) ?_)))))))))))
 refine Eh rfl rfl (Er code (by omega)) (Eh rfl rfl (c_65 _) ?_)
 obtain ⟨z, j, hz⟩ : ∃ z j, readV (rvF code) = (z, j) := ⟨_, _, rfl⟩
 rw [hz]
 have hS := readV_cut hz
 refine Ea (Eb rfl) (Ea (Ep rfl rfl) (Ea (Ep rfl rfl) (Ea (Eb rfl) (Ea (Eb rfl) (Eg (Ee (Ed [0, 4, 13, 14, 15, 16] rfl (Ei (Eo (Ea (Eb rfl) (Ea (Eb rfl) ?_)))))))))))
 refine Ec rfl (Ea (Eb rfl) (Ec rfl (Ea (Eb rfl) (Ec rfl (Ea (Ey rfl rfl) ?_)))))
 rw [deq]
 refine Ea (Ef rfl rfl) (Ea (Eb rfl) (Ec rfl (Ea (Eb rfl) (Ec rfl (Ea (o_eql rfl rfl) (Ec rfl (Ea (Eb rfl) ?_)))))))
 first | refine s_gDF rfl ?_ ?_ | refine s_gB rfl ?_ ?_
 intro h52
 try rw [nnp] at h52
 refine Ea (Eb rfl) (Ec rfl (Ea (Ez rfl rfl) ?_))
 rw [decide_eq_true (hS (by assumption)).1]
 refine Ec rfl (Ea (Eb rfl) (Ec rfl (Ea (Eb rfl) (Em (is := [0, 15, 16, 132, 135, 138, 139]) rfl (Ec rfl (Ea (Eb rfl) (Ec rfl (Eh rfl rfl (Er code (by omega)) (Ec rfl (Ea (Ev rfl) (Ec rfl ?_)))))))))))
 refine Ea (o_leq rfl rfl) ?_
 rw [decide_eq_true (hS (by assumption)).2.1]
 refine Ec rfl (Ea (Ef rfl rfl) (Ec rfl (Ea (Eb rfl) (Ec rfl (Ea (Eb rfl) (Ec rfl (Ea (Ez rfl rfl) ?_)))))))
 rw [decide_eq_true (hS (by assumption)).1]
 refine Ec rfl (Ea (Ef rfl rfl) (Ec rfl (Ea (Eb rfl) (Ec rfl (Ea (Eb rfl) (Ec rfl (Ea (Eb rfl) (Ec rfl (Eh rfl rfl (Er code (by omega)) (Ec rfl (Ea (Ev rfl) ?_)))))))))))
 refine Em (is := [0, 15, 16, 132, 135, 149, 150, 153]) rfl (Ec rfl (Ea (o_leq rfl rfl) ?_))
 rw [decide_eq_true (hS (by assumption)).2.1]
 refine Ec rfl (Ea (Ef rfl rfl) (Ec rfl (Ea (Eb rfl) (Ec rfl (Ea (Eb rfl) (Ec rfl ?_))))))
 first | refine Eh rfl rfl (c_79 _) ?_ | refine Et rfl rfl (by simp) (c_79 _) rfl ?_
 refine Ec rfl (Ea (Eb rfl) (Ec rfl (Eh rfl rfl (Er code (by omega)) (Ec rfl (Ea (Eb rfl) (Ec rfl (Ea (o_slsb rfl rfl rfl (by have := hS (by assumption); omega)) (Ec rfl (Ea (Ey rfl rfl) ?_)))))))))
 rw [decide_eq_true (hS (by assumption)).2.2]
 refine Ec rfl (Ea (Ef rfl rfl) (Ec rfl (Ea (En rfl rfl) (Ea (Ef rfl rfl) (Ea (Eb rfl) (Eg (Ee (Ed [2] rfl (Eu (Eq rfl rfl ?_))))))))))
 rotate_left
 intro h52
 try rw [nnp] at h52
 refine Ej rfl (Ej rfl (Ej rfl (Ek rfl (Em (is := [0, 15, 16, 132, 135, 138, 139]) rfl (Ek rfl (Ek rfl (Ek rfl (Ek rfl (Ej rfl (Ej rfl (Ek rfl ?_)))))))))))
 refine Ek rfl (Ej rfl (Ej rfl (Ek rfl (Ek rfl (Ek rfl (Ek rfl (Em (is := [0, 15, 16, 132, 135, 149, 150, 153]) rfl (Ek rfl (Ej rfl (Ej rfl ?_))))))))))
 iterate 7 refine Ek rfl ?_
 refine Ej rfl (Ec rfl (Ea (Ef rfl rfl) (Ea (Ef rfl rfl) (Ea (Eb rfl) (Eg (Ee (Ed [2] rfl (Eu (Eq rfl rfl ?_)))))))))
 rotate_left
 rw [numN_no9 hn hC]
 refine Ea (Eb rfl) (Ea (Ep rfl rfl) (Ea (Ep rfl rfl) (Ea (Eb rfl) (Ea (Eb rfl) (Eg (Ee (Ed [0, 3, 4, 11, 12] rfl (Ei (Ei (Eo (Ea (Eb rfl) ?_)))))))))))
 refine Ea (Eb rfl) (Ea (Ez rfl rfl) (Ea (Eb rfl) ?_))
 first | refine s_gDT rfl ?_ ?_ | refine s_gB rfl ?_ ?_
 intro h53
 try rw [nnp] at h53
 refine Ea (Eb rfl) (Ec rfl (Ea (o_lss rfl rfl) ?_))
 rw [decide_eq_false (by omega)]
 refine Ea (Ef rfl rfl) (Ea (o_eqb rfl rfl) (Ea (Eb rfl) (Ec rfl (Ea (Eb rfl) (Ec rfl (Ea (Eb rfl) (Ej rfl (Ej rfl (Ej rfl (Em (is := [0, 4, 106, 108, 111]) rfl (Ec rfl ?_)))))))))))
 refine Ea (En rfl rfl) (Ea (En rfl rfl) (Eg (Ee (Ed [0, 4, 113] rfl (s_condF rfl (Ew (Ee (Ed [0, 4] rfl (Ei (Eo (Ea (Eb rfl) ?_)))))))))))
 first | refine Eh rfl rfl (c_48 tail (by omega)) ?_ | refine Et rfl rfl (by simp) (c_48 tail (by omega)) rfl ?_
 refine Eh rfl rfl (c_78 tail (by omega)) (Ea (Eb rfl) (Ea (Ep rfl rfl) (Ea (Ep rfl rfl) (Ea (Eb rfl) (Ea (Eb rfl) (Eg (Ee (Ed [0, 4, 13, 14] rfl (Ei (Eo (Ea (Eb rfl) ?_)))))))))))
 refine Eh rfl rfl (Er code (by omega)) (Eh rfl rfl (c_65 _) ?_)
 obtain ⟨z, j, hz⟩ : ∃ z j, readV (rvF code) = (z, j) := ⟨_, _, rfl⟩
 rw [hz]
 have hS := readV_cut hz
 refine Ea (Eb rfl) (Ea (Ep rfl rfl) (Ea (Ep rfl rfl) (Ea (Eb rfl) (Ea (Eb rfl) (Eg (Ee (Ed [0, 4, 13, 14, 15, 16] rfl (Ei (Eo (Ea (Eb rfl) (Ea (Eb rfl) ?_)))))))))))
 refine Ec rfl (Ea (Eb rfl) (Ec rfl (Ea (Eb rfl) (Ec rfl (Ea (Ey rfl rfl) ?_)))))
 rw [deq]
 refine Ea (Ef rfl rfl) (Ea (Eb rfl) (Ec rfl (Ea (Eb rfl) (Ec rfl (Ea (o_eql rfl rfl) (Ec rfl (Ea (Eb rfl) ?_)))))))
 first | refine s_gDF rfl ?_ ?_ | refine s_gB rfl ?_ ?_
 intro h54
 try rw [nnp] at h54
 refine Ea (Eb rfl) (Ec rfl (Ea (Ez rfl rfl) ?_))
 rw [decide_eq_true (hS (by assumption)).1]
 refine Ec rfl (Ea (Eb rfl) (Ec rfl (Ea (Eb rfl) (Em (is := [0, 15, 16, 132, 135, 138, 139]) rfl (Ec rfl (Ea (Eb rfl) (Ec rfl (Eh rfl rfl (Er code (by omega)) (Ec rfl (Ea (Ev rfl) (Ec rfl ?_)))))))))))
 refine Ea (o_leq rfl rfl) ?_
 rw [decide_eq_true (hS (by assumption)).2.1]
 refine Ec rfl (Ea (Ef rfl rfl) (Ec rfl (Ea (Eb rfl) (Ec rfl (Ea (Eb rfl) (Ec rfl (Ea (Ez rfl rfl) ?_)))))))
 rw [decide_eq_true (hS (by assumption)).1]
 refine Ec rfl (Ea (Ef rfl rfl) (Ec rfl (Ea (Eb rfl) (Ec rfl (Ea (Eb rfl) (Ec rfl (Ea (Eb rfl) (Ec rfl (Eh rfl rfl (Er code (by omega)) (Ec rfl (Ea (Ev rfl) ?_)))))))))))
 refine Em (is := [0, 15, 16, 132, 135, 149, 150, 153]) rfl (Ec rfl (Ea (o_leq rfl rfl) ?_))
 rw [decide_eq_true (hS (by assumption)).2.1]
 refine Ec rfl (Ea (Ef rfl rfl) (Ec rfl (Ea (Eb rfl) (Ec rfl (Ea (Eb rfl) (Ec rfl ?_))))))
 first | refine Eh rfl rfl (c_79 _) ?_ | refine Et rfl rfl (by simp) (c_79 _) rfl ?_
 refine Ec rfl (Ea (Eb rfl) (Ec rfl (Eh rfl rfl (Er code (by omega)) (Ec rfl (Ea (Eb rfl) (Ec rfl (Ea (o_slsb rfl rfl rfl (by have := hS (by assumption); omega)) (Ec rfl (Ea (Ey rfl rfl) ?_)))))))))
 rw [decide_eq_true (hS (by assumption)).2.2]
 refine Ec rfl (Ea (Ef rfl rfl) (Ec rfl (Ea (En rfl rfl) (Ea (Ef rfl rfl) (Ea (Eb rfl) (Eg (Ee (Ed [2] rfl (Eu (Eq rfl rfl ?_))))))))))
 rotate_left
 intro h54
 try rw [nnp] at h54
 refine Ej rfl (Ej rfl (Ej rfl (Ek rfl (Em (is := [0, 15, 16, 132, 135, 138, 139]) rfl (Ek rfl (Ek rfl (Ek rfl (Ek rfl (Ej rfl (Ej rfl (Ek rfl ?_)))))))))))
 refine Ek rfl (Ej rfl (Ej rfl (Ek rfl (Ek rfl (Ek rfl (Ek rfl (Em (is := [0, 15, 16, 132, 135, 149, 150, 153]) rfl (Ek rfl (Ej rfl (Ej rfl ?_))))))))))
 iterate 7 refine Ek rfl ?_
 refine Ej rfl (Ec rfl (Ea (Ef rfl rfl) (Ea (Ef rfl rfl) (Ea (Eb rfl) (Eg (Ee (Ed [2] rfl (Eu (Eq rfl rfl ?_)))))))))
 rotate_left
 intro h53
 try rw [nnp] at h53
 refine Ej rfl (Ej rfl (Ea (En rfl rfl) (Ea (o_eqb rfl rfl) (Ea (Eb rfl) (Ec rfl (Ea (Eb rfl) (Ec rfl (Ea (Eb rfl) (Ej rfl (Ej rfl (Ej rfl ?_)))))))))))
 refine Em (is := [0, 4, 106, 108, 111]) rfl (Ec rfl (Ea (En rfl rfl) (Ea (En rfl rfl) (Eg (Ee (Ed [0, 4, 113] rfl (s_condF rfl (Ew (Ee (Ed [0, 4] rfl (Ei ?_)))))))))))
 refine Eo (Ea (Eb rfl) ?_)
 first | refine Eh rfl rfl (c_48 tail (by omega)) ?_ | refine Et rfl rfl (by simp) (c_48 tail (by omega)) rfl ?_
 refine Eh rfl rfl (c_78 tail (by omega)) (Ea (Eb rfl) (Ea (Ep rfl rfl) (Ea (Ep rfl rfl) (Ea (Eb rfl) (Ea (Eb rfl) (Eg (Ee (Ed [0, 4, 13, 14] rfl (Ei (Eo (Ea (Eb rfl) ?_)))))))))))
 refine Eh rfl rfl (Er code (by omega)) (Eh rfl rfl (c_65 _) ?_)
 obtain ⟨z, j, hz⟩ : ∃ z j, readV (rvF code) = (z, j) := ⟨_, _, rfl⟩
 rw [hz]
 have hS := readV_cut hz
 refine Ea (Eb rfl) (Ea (Ep rfl rfl) (Ea (Ep rfl rfl) (Ea (Eb rfl) (Ea (Eb rfl) (Eg (Ee (Ed [0, 4, 13, 14, 15, 16] rfl (Ei (Eo (Ea (Eb rfl) (Ea (Eb rfl) ?_)))))))))))
 refine Ec rfl (Ea (Eb rfl) (Ec rfl (Ea (Eb rfl) (Ec rfl (Ea (Ey rfl rfl) ?_)))))
 rw [deq]
 refine Ea (Ef rfl rfl) (Ea (Eb rfl) (Ec rfl (Ea (Eb rfl) (Ec rfl (Ea (o_eql rfl rfl) (Ec rfl (Ea (Eb rfl) ?_)))))))
 first | refine s_gDF rfl ?_ ?_ | refine s_gB rfl ?_ ?_
 intro h55
 try rw [nnp] at h55
 refine Ea (Eb rfl) (Ec rfl (Ea (Ez rfl rfl) ?_))
 rw [decide_eq_true (hS (by assumption)).1]
 refine Ec rfl (Ea (Eb rfl) (Ec rfl (Ea (Eb rfl) (Em (is := [0, 15, 16, 132, 135, 138, 139]) rfl (Ec rfl (Ea (Eb rfl) (Ec rfl (Eh rfl rfl (Er code (by omega)) (Ec rfl (Ea (Ev rfl) (Ec rfl ?_)))))))))))
 refine Ea (o_leq rfl rfl) ?_
 rw [decide_eq_true (hS (by assumption)).2.1]
 refine Ec rfl (Ea (Ef rfl rfl) (Ec rfl (Ea (Eb rfl) (Ec rfl (Ea (Eb rfl) (Ec rfl (Ea (Ez rfl rfl) ?_)))))))
 rw [decide_eq_true (hS (by assumption)).1]
 refine Ec rfl (Ea (Ef rfl rfl) (Ec rfl (Ea (Eb rfl) (Ec rfl (Ea (Eb rfl) (Ec rfl (Ea (Eb rfl) (Ec rfl (Eh rfl rfl (Er code (by omega)) (Ec rfl (Ea (Ev rfl) ?_)))))))))))
 refine Em (is := [0, 15, 16, 132, 135, 149, 150, 153]) rfl (Ec rfl (Ea (o_leq rfl rfl) ?_))
 rw [decide_eq_true (hS (by assumption)).2.1]
 refine Ec rfl (Ea (Ef rfl rfl) (Ec rfl (Ea (Eb rfl) (Ec rfl (Ea (Eb rfl) (Ec rfl ?_))))))
 first | refine Eh rfl rfl (c_79 _) ?_ | refine Et rfl rfl (by simp) (c_79 _) rfl ?_
 refine Ec rfl (Ea (Eb rfl) (Ec rfl (Eh rfl rfl (Er code (by omega)) (Ec rfl (Ea (Eb rfl) (Ec rfl (Ea (o_slsb rfl rfl rfl (by have := hS (by assumption); omega)) (Ec rfl (Ea (Ey rfl rfl) ?_)))))))))
 rw [decide_eq_true (hS (by assumption)).2.2]
 refine Ec rfl (Ea (Ef rfl rfl) (Ec rfl (Ea (En rfl rfl) (Ea (Ef rfl rfl) (Ea (Eb rfl) (Eg (Ee (Ed [2] rfl (Eu (Eq rfl rfl ?_))))))))))
 rotate_left
 intro h55
 try rw [nnp] at h55
 refine Ej rfl (Ej rfl (Ej rfl (Ek rfl (Em (is := [0, 15, 16, 132, 135, 138, 139]) rfl (Ek rfl (Ek rfl (Ek rfl (Ek rfl (Ej rfl (Ej rfl (Ek rfl ?_)))))))))))
 refine Ek rfl (Ej rfl (Ej rfl (Ek rfl (Ek rfl (Ek rfl (Ek rfl (Em (is := [0, 15, 16, 132, 135, 149, 150, 153]) rfl (Ek rfl (Ej rfl (Ej rfl ?_))))))))))
 iterate 7 refine Ek rfl ?_
 refine Ej rfl (Ec rfl (Ea (Ef rfl rfl) (Ea (Ef rfl rfl) (Ea (Eb rfl) (Eg (Ee (Ed [2] rfl (Eu (Eq rfl rfl ?_)))))))))
 rotate_left
 all_goals
  rfl
end Go.Proofs.YtoppcdecolponaaDoor.AL
