/- What functions do with plain data, each by the form of its code. Printed by program. -/
import Derived.Test.YtoppcdecolponaaGreatDoorCReqs0
namespace Go.Proofs.YtoppcdecolponaaGreatDoor.AL
open Go
set_option linter.unusedVariables false
set_option linter.unusedSimpArgs false
set_option maxRecDepth 4096
def Req.w (r : Req) (x : Value) : List V := [.w (.bool r.write), .w (.int .i64 r.addr), .w (.int .i64 r.size), .w (.int .i64 r.burst), .w (.bool r.lock), .raw x]
def one (a : Option Nat) (xs : List Int) : Mem := match a with
 | some ad => upd M0 ad (some ⟨xs.map (Value.int .i64), true, 1⟩)
 | none => M0
def sumQ : List Req → Int
 | [] => 0
 | r :: q => r.data.length + sumQ q
theorem sumQ_le (q : List Req) : sumQ q = (sumL Req.sz q : Nat) := by
 induction q with
 | nil => rfl
 | cons r q ih => rw [sumQ, sumL, ih]; simp [Req.sz]
def MB (k : Int) (m : Mst) : Prop := m.small ∧ m.queue.length ≤ 1048576 ∧ sumQ m.queue ≤ k
theorem MB.of {m : Mst} (h : m.sz ≤ 1048576) : MB (m.sz : Nat) m := ⟨Mst.small_of h, by unfold Mst.sz at h; omega, by rw [sumQ_le]; unfold Mst.sz; omega⟩
theorem MB.le {m : Mst} {k l : Int} (h : MB k m) (hk : k ≤ l) : MB l m := ⟨h.1, h.2.1, Int.le_trans h.2.2 hk⟩
theorem MB.q {m y : Mst} {k} (h : MB k m) (e : y.queue = m.queue) : MB k y := ⟨⟨by rw [e]; exact h.1.1, by rw [e]; exact h.1.2⟩, by rw [e]; exact h.2⟩
theorem sumQ_drop (q : List Req) : sumQ (q.drop 1) ≤ sumQ q := by
 cases q with
 | nil => exact Int.le_refl _
 | cons r q => simp only [List.drop_succ_cons, List.drop_zero, sumQ]; omega
theorem MB.drop {m y : Mst} {k} (h : MB k m) (e : y.queue = m.queue.drop 1) : MB k y :=
 ⟨⟨by rw [e, List.length_drop]; exact Nat.le_trans (Nat.sub_le _ _) h.1.1, by rw [e]; exact fun x hx => h.1.2 x (List.mem_of_mem_drop hx)⟩, by rw [e, List.length_drop]; exact Nat.le_trans (Nat.sub_le _ _) h.2.1, by rw [e]; exact Int.le_trans (sumQ_drop _) h.2.2⟩
theorem Vew.two {OL : Ob} {u u' w : V} (h : ∀ M', (∀ (i : Nat) D, OL[i]? = some D → sub D M') → ∀ x, RF M' u x → RF M' u' x) : Vew OL [u, w] [u', w] := fun M' hM' args hp => by
 obtain ⟨x, r, rfl, g1, g2⟩ := hp.uncons
 exact Pt.cons (h M' hM' x g1) g2
theorem c_187 (n : Int) (hn : -9223372036854775808 ≤ n ∧ n ≤ 9223372036854775807) : CV prg 187 [.w (.int .i64 n)] (fun res => res = .w (.string ⟨(Lib.itoa n).toArray⟩)) := by
 refine cv_in g187 (Eb [0] rfl (Ef (Eg (Ea (Ee rfl) (Ed (Ec (Eb [0] rfl (Ef (Ef (Eg (Ea (Ee rfl) ?_)))))))))))
 refine Ea (o_eql rfl rfl) (Ed (Ec (Eb [0, 7] rfl ?_)))
 first | refine Em rfl ?_ ?_ | refine Ek rfl ?_ ?_
 intro h1
 try rw [nnp] at h1
 refine Ef (Eg (Ea (Ee rfl) (Ed (Ec (Eb [2] rfl (Ej (Eu (ret_leafR rfl rfl ?_))))))))
 rotate_left
 intro h1
 try rw [nnp] at h1
 refine Et (Ec (Eb [0] rfl (Ef (Eg (Ea (Ee rfl) (Ed (Ec (Eb [0, 3] rfl (Ef (Eg (Ea (Ee rfl) ?_)))))))))))
 refine Ea (o_lss rfl rfl) (Ea (Ee rfl) (Ed (Ec (Eb [0, 3, 4] rfl (Ef (Fb (S_loop0 (ι := Int × List UInt8) (fun p => (-9223372036854775808 ≤ p.1 ∧ p.1 ≤ 9223372036854775807) ∧ restD p.1 ++ p.2 = Lib.decDigits n.natAbs) (fun p => [(0, .w (.int .i64 p.1)), (3, .w (.string ⟨(p.2).toArray⟩))]) (fun p => p.1.natAbs) (n, []) ⟨hn, dec_start (by assumption)⟩ rfl ⟨rfl, rfl, trivial⟩ (fun _ _ => rfl) rfl ?_)))))))
 rintro ⟨m, out⟩ hp
 obtain ⟨hm, hr⟩ := hp
 simp only at hm hr
 refine Eb [0, 3, 4] rfl ?_
 dsimp only
 refine Ef (Ef (Eg (Ea (Ee rfl) (Ea (o_neq rfl rfl) (Ed (Ec (Eb [0, 3, 4, 11] rfl ?_)))))))
 first | refine Em rfl ?_ ?_ | refine Ek rfl ?_ ?_
 intro h2
 try rw [nnp] at h2
 refine Et (Ec (Eb [0, 3, 4] rfl (Fb (Ef (Eg (Ea (Ee rfl) ?_))))))
 first | refine Ea (o_rem rfl rfl (by decide)) ?_ | refine Ea (o_rem rfl rfl (by omega)) ?_
 refine Ea (Ee rfl) (Ed (Ec (Eb [0, 3, 4, 5] rfl (Ef (Ef (Eg (Ea (Ee rfl) (Ea (o_lss rfl rfl) (Ed (Ec (Eb [0, 3, 4, 5, 15] rfl ?_)))))))))))
 first | refine Em rfl ?_ ?_ | refine Ek rfl ?_ ?_
 intro h3
 try rw [nnp] at h3
 refine Eg (Ea (Ee rfl) (Ea (o_neg rfl) (Ea (Ee rfl) (Ed (Ec (Eb [0, 3, 4, 5] rfl (Ef (Eg (Ea (Ee rfl) (Ea (o_add rfl rfl) (Ea (o_cvi rfl) ?_)))))))))))
 refine Ea (o_bs rfl rfl rfl rfl) (Ea (o_cvbs1 rfl rfl (wrap_u8 _)) (Ea (Ee rfl) (Ea (o_adds rfl rfl (by have := dec_short hn hr; simp only [List.length_cons, List.length_nil]; omega)) (Ea (Ee rfl) (Ed (Ec (Eb [0, 3, 4] rfl (Eg (Ea (Ee rfl) ?_)))))))))
 first | refine Ea (o_quo rfl rfl (by decide)) ?_ | refine Ea (o_quo rfl rfl (by omega)) ?_
 refine Ea (Ee rfl) (Ed (q_blkN (q_loopN ?_)))
 · have hm0 : ¬ m = 0 := by assumption
   first | (have hd := dig_neg hm (by assumption); have h9 := dec_round hm0 hm hr hd; exact ⟨(_, _), h9, natAbs_next hm0 hm, hasOf ⟨rfl, rfl, trivial⟩ rfl⟩) | (have hd := dig_pos (n := m) (by assumption); have h9 := dec_round hm0 hm hr hd; exact ⟨(_, _), h9, natAbs_next hm0 hm, hasOf ⟨rfl, rfl, trivial⟩ rfl⟩)
 intro h3
 try rw [nnp] at h3
 refine Et (Ec (Eb [0, 3, 4, 5] rfl (Ef (Eg (Ea (Ee rfl) (Ea (o_add rfl rfl) (Ea (o_cvi rfl) (Ea (o_bs rfl rfl rfl rfl) (Ea (o_cvbs1 rfl rfl (wrap_u8 _)) (Ea (Ee rfl) (Ea (o_adds rfl rfl (by have := dec_short hn hr; simp only [List.length_cons, List.length_nil]; omega)) ?_)))))))))))
 refine Ea (Ee rfl) (Ed (Ec (Eb [0, 3, 4] rfl (Eg (Ea (Ee rfl) ?_)))))
 first | refine Ea (o_quo rfl rfl (by decide)) ?_ | refine Ea (o_quo rfl rfl (by omega)) ?_
 refine Ea (Ee rfl) (Ed (q_blkN (q_loopN ?_)))
 · have hm0 : ¬ m = 0 := by assumption
   first | (have hd := dig_neg hm (by assumption); have h9 := dec_round hm0 hm hr hd; exact ⟨(_, _), h9, natAbs_next hm0 hm, hasOf ⟨rfl, rfl, trivial⟩ rfl⟩) | (have hd := dig_pos (n := m) (by assumption); have h9 := dec_round hm0 hm hr hd; exact ⟨(_, _), h9, natAbs_next hm0 hm, hasOf ⟨rfl, rfl, trivial⟩ rfl⟩)
 intro h2
 try rw [nnp] at h2
 refine s_exit (q_seqX (q_loopX (q_blkH (Ec (Eb [3, 4] rfl (Ef (Ef (Eg (Ea (Ee rfl) (Ed (Ec ?_)))))))))))
 refine Eb [3, 27] rfl ?_
 first | refine Em rfl ?_ ?_ | refine Ek rfl ?_ ?_
 intro h4
 try rw [nnp] at h4
 refine Ef (Eg (Ea (Ee rfl) (Ea (o_adds rfl rfl (by have := dec_short hn hr; simp only [List.length_cons, List.length_nil]; omega)) (Ea (Ee rfl) (Ed (Ec (Eb [2] rfl (Ej (Eu (ret_leafR rfl rfl ?_))))))))))
 rotate_left
 intro h4
 try rw [nnp] at h4
 refine Et (Ec (Eb [3] rfl (Ef (Eg (Ea (Ee rfl) (Ea (Ee rfl) (Ed (Ec (Eb [2] rfl (Ej (ret_leafR rfl rfl ?_)))))))))))
 rotate_left
 all_goals
  first | exact dec_leaf2 hr (by assumption) (by assumption) | exact dec_leaf3 hr (by assumption) (by assumption) | exact dec_leaf1 (by assumption)
theorem c_38 (n : Int) (hn : -9223372036854775808 ≤ n ∧ n ≤ 9223372036854775807) : CV prg 38 [.w (.int .i64 n)] (fun res => res = .w (.string ⟨(Lib.itoa n).toArray⟩)) := by
 refine cv_in g38 (Eb [0] rfl (Ef (Eg (Ea (Ee rfl) (Ed (Ec (Eb [0] rfl (Ef (Eg (Ea (Ee rfl) (Ew rfl rfl (cn_272 n hn) ?_)))))))))))
 refine Ea (Ee rfl) (Ed (Ec (Eb [2] rfl (Ej (ret_leafR rfl rfl ?_)))))
 rotate_left
 all_goals
  rfl
theorem dec_take {xs : List Int} {i : Nat} {y : Int} (h : xs[i]? = some y) : ((xs.take (i + 1)).map Lib.itoa).map stR = ((xs.take i).map Lib.itoa).map stR ++ [stR (Lib.itoa y)] := by
 rw [take_get h, List.map_append, List.map_append]; rfl
theorem cg_84 (xs : List Int) (hl : xs.length ≤ 1048576) (hw : ∀ y, y ∈ xs → i64 y) : GV prg 84 [] [.sl 1 (xs.map iR)] (fun u L1 => u = .ls 0 xs.length ∧ L1 = [.arr 1 ((xs.map Lib.itoa).map stR)]) := by
 refine gv_in g84 (Eb [0] rfl (Ef (Eg (Ea (Ee rfl) (Ed (Ec (Eb [0] rfl (Ef (Eg (Ea (o_bs rfl rfl rfl rfl) (Ea (Ee rfl) ?_)))))))))))
 refine Ed (Ec (Eb [0, 3] rfl (Ef (Ef (Eg (Ea (Ee rfl) ?_))))))
 first | refine Ea (o_lenM rfl) ?_ | refine Ea (o_len rfl) ?_
 refine Ea (Ee rfl) (Ed (Ec (Eb [3, 7, 8, 9] rfl (Fb (S_loop (ι := Nat) (fun i => i ≤ xs.length) (fun i => [(3, .ls 0 (((xs.take i).map Lib.itoa).map stR).length), (9, .w (.int .i64 (i : Int)))]) (fun i => [.arr 1 (((xs.take i).map Lib.itoa).map stR)]) (fun i => xs.length - i) 1 0 (by simp) rfl (hasOf ⟨rfl, rfl, trivial⟩ rfl) rfl (fun _ _ => rfl) (fun _ _ => ⟨rfl, rfl⟩) ?_)))))
 intro i hi
 refine Eb [3, 7, 8, 9] rfl (Ef (Eg (Ea (o_lss rfl rfl) (Ed (Ec (Eb [3, 7, 8, 9, 10] rfl (Ef ?_)))))))
 first | refine Em rfl ?_ ?_ | refine Ek rfl ?_ ?_
 intro h1
 try rw [nnp] at h1
 refine Et (Ec (Eb [3, 7, 8, 9] rfl (Ef (Fb (Ef (Eg (s_iaM rfl rfl (by simp at *; omega) ?_)))))))
 intro y2 e2
 try simp only [Int.toNat_natCast, Int.toNat_zero] at e2
 refine Ea (o_ld rfl rfl) (Ea (Ee rfl) (Ed (Ec (Eb [3, 5, 7, 8, 9] rfl (Eg (Ea (Ee rfl) (Ea (Ee rfl) ?_)))))))
 first | refine Ew rfl rfl (c_38 _ (hw _ (List.mem_of_getElem? (by assumption)))) ?_ | refine Fa rfl rfl (by simp) (c_38 _ (hw _ (List.mem_of_getElem? (by assumption)))) rfl ?_
 refine Ea (o_bs rfl rfl rfl rfl) ?_
 first | refine Ea (o_appL rfl rfl rfl rfl rfl rfl rfl (by simp [roomy]; omega)) ?_ | refine Ea (o_app rfl rfl rfl rfl rfl (by simp [roomy]; omega)) ?_
 refine Ea (Ee rfl) (Ed (q_blkN (Ec (Eb [3, 7, 8, 9] rfl (Eg ?_)))))
 first | refine Ea (o_addn rfl rfl (by omega)) ?_ | refine Ea (o_add rfl rfl) ?_
 refine Ea (Ee rfl) (Ed (q_loopN ?_))
 · refine ⟨i + 1, by omega, by omega, hasOf ⟨?_, rfl, trivial⟩ ?_⟩ <;> rw [dec_take (by assumption)] <;> rfl
 intro h1
 try rw [nnp] at h1
 refine s_exit (q_seqX (q_loopX (q_blkH (Ec (Eb [3] rfl (Ef (Eg (Ea (Ee rfl) (Ea (Ee rfl) (Ed (Ec ?_)))))))))))
 refine Eb [2] rfl (Ej ?_)
 · refine Ei [0] (.inr rfl) rfl rfl rfl rfl (show (List.range 0 ++ [0]).Nodup by decide) ?_
   rw [take_end (show xs.length ≤ i by omega)]; exact ⟨by simp, rfl⟩
def nxH (h : Int) : Int := IntKind.wrap .i64 (IntKind.wrap .i64 (h * 6364136223846793005) + 1442695040888963407)
def byX (h : Int) : Int := band (bxor (h.fdiv (2 ^ (min (Int.toNat 33) (IntKind.bits .i64)))) (h.fdiv (2 ^ (min (Int.toNat 45) (IntKind.bits .i64))))) 255
def byF (code : List Int) (i h : Int) : Int × Int × Int :=
 if i < (code.length : Int) then (band (IntKind.wrap .i64 (byX (nxH h) + IntKind.wrap .i64 ((code[i.toNat]?).getD 0))) 255, IntKind.wrap .i64 (i + 1), nxH h) else (byX (nxH h), i, nxH h)
theorem by_1 {code : List Int} {i h y : Int} (h1 : i < (code.length : Int)) (e : code[i.toNat]? = some y) : byF code i h = (band (IntKind.wrap .i64 (byX (nxH h) + IntKind.wrap .i64 y)) 255, IntKind.wrap .i64 (i + 1), nxH h) := by
 rw [byF, if_pos h1, e]; rfl
theorem by_2 {code : List Int} {i h : Int} (h1 : ¬ i < (code.length : Int)) : byF code i h = (byX (nxH h), i, nxH h) := by rw [byF, if_neg h1]
theorem by_i {code : List Int} {i : Int} (hi : 0 ≤ i ∧ i ≤ code.length) (hc : code.length ≤ 1048576) (h1 : i < (code.length : Int)) : 0 ≤ IntKind.wrap .i64 (i + 1) ∧ IntKind.wrap .i64 (i + 1) ≤ code.length := by
 rw [wrap_in _ (by omega)]; omega
def bwF (code : List Int) (i h n : Int) : Int × Int × Int :=
 if n ≤ 0 then (0, i, h) else if n ≤ 256 then ((byF code i h).1.tmod n, (byF code i h).2) else
  let a := byF code i h
  let b := byF code a.2.1 a.2.2
  let c := byF code b.2.1 b.2.2
  let d := byF code c.2.1 c.2.2
  ((a.1 * 16777216 + b.1 * 65536 + c.1 * 256 + d.1).tmod n, d.2)
theorem bw_1 {code : List Int} {i h n : Int} (h1 : n ≤ 0) : bwF code i h n = (0, i, h) := by rw [bwF, if_pos h1]
theorem bw_2 {code : List Int} {i h n a i1 g1 : Int} (h1 : ¬ n ≤ 0) (h2 : n ≤ 256) (ha : byF code i h = (a, i1, g1)) : bwF code i h n = (a.tmod n, i1, g1) := by rw [bwF, if_neg h1, if_pos h2, ha]
theorem bw_3 {code : List Int} {i h n a i1 g1 b i2 g2 c i3 g3 d i4 g4 : Int} (h1 : ¬ n ≤ 0) (h2 : ¬ n ≤ 256) (ha : byF code i h = (a, i1, g1)) (hb : byF code i1 g1 = (b, i2, g2)) (hc : byF code i2 g2 = (c, i3, g3)) (hd : byF code i3 g3 = (d, i4, g4)) :
 bwF code i h n = ((a * 16777216 + b * 65536 + c * 256 + d).tmod n, i4, g4) := by
 rw [bwF, if_neg h1, if_neg h2]; simp only [ha, hb, hc, hd]
theorem cgf_229 (code : List Int) (hc : code.length ≤ 1048576) (i h : Int) (hi : 0 ≤ i ∧ i ≤ code.length) : GV prg 229 [cur code i h] [.cp 0 0] (fun u L1 => ∃ (x : Int) (i2 h2 : Int), byF code i h = (x, i2, h2) ∧ u = .w (.int .i64 x) ∧ (0 ≤ x ∧ x ≤ 255) ∧ (0 ≤ i2 ∧ i2 ≤ code.length) ∧ L1 = [cur code i2 h2]) := by
 refine gv_in g229 (Eb [0] rfl (Ef (Eg (Ea (Ee rfl) (Ed (Ec (Eb [0] rfl (Ef (Eg (Ea (Ee rfl) (Ea (Ee rfl) ?_)))))))))))
 refine Ea (o_nilc rfl) (Ea (Ep rfl) (Ea (Ey rfl rfl rfl) (Ea (o_mul rfl rfl) (Ea (o_add rfl rfl) (Ea (o_nilc rfl) (Ea (Ep rfl) (s_opN (o_stC rfl rfl rfl rfl rfl rfl) (Ed (Ec (Eb [0] rfl (Ef ?_)))))))))))
 refine Eg (Ea (Ee rfl) (Ea (o_nilc rfl) (Ea (Ep rfl) (Ea (Ey rfl rfl rfl) (Ea (o_shr rfl rfl (by omega)) (Ea (Ee rfl) (Ea (o_nilc rfl) (Ea (Ep rfl) (Ea (Ey rfl rfl rfl) (Ea (o_shr rfl rfl (by omega)) (Ea (o_bxor rfl rfl) ?_)))))))))))
 refine Ea (o_band rfl rfl) (Ea (Ee rfl) (Ed (Ec (Eb [0, 3] rfl (Ef (Ef (Eg (Ea (Ee rfl) (Ea (o_nilc rfl) (Ea (Ep rfl) (Ea (Ey rfl rfl rfl) ?_)))))))))))
 refine Ea (Ee rfl) (Ea (o_nilc rfl) (Ea (Ep rfl) (Ea (Ey rfl rfl rfl) ?_)))
 first | refine Ea (o_lenM rfl) ?_ | refine Ea (o_len rfl) ?_ | refine Ea (o_lenL rfl rfl rfl) ?_ | refine Ea (o_lenN rfl) ?_
 refine Ea (o_lss rfl rfl) (Ed (Ec (Eb [0, 3, 34] rfl ?_)))
 first | refine Em rfl ?_ ?_ | refine Ek rfl ?_ ?_
 intro h1
 try rw [nnp] at h1
 refine Ef (Eg (Ea (Ee rfl) (Ea (Ee rfl) (Ea (o_nilc rfl) (Ea (Ep rfl) (Ea (Ey rfl rfl rfl) (Ea (Ee rfl) (Ea (o_nilc rfl) (Ea (Ep rfl) (Ea (Ey rfl rfl rfl) (s_iaM rfl rfl (by omega) ?_)))))))))))
 intro y2 e2
 try simp only [Int.toNat_natCast, Int.toNat_zero] at e2
 refine Ea (o_ld rfl rfl) (Ea (o_cvi rfl) (Ea (o_add rfl rfl) (Ea (o_band rfl rfl) (Ea (Ee rfl) (Ed (Ec (Eb [0, 3] rfl (Eg (Ea (Ee rfl) (Ea (Ee rfl) (Ea (o_nilc rfl) ?_)))))))))))
 refine Ea (Ep rfl) (Ea (Ey rfl rfl rfl) (Ea (o_add rfl rfl) (Ea (o_nilc rfl) (Ea (Ep rfl) (s_opN (o_stC rfl rfl rfl rfl rfl rfl) (Ed (Ec (Eb [3] rfl (Ef (Eg (Ea (Ee rfl) ?_)))))))))))
 refine Ea (Ee rfl) (Ed (Ec (Eb [2] rfl (Ej ?_))))
 · refine Ei [] (.inr rfl) rfl rfl rfl rfl (show (List.range 1 ++ []).Nodup by decide) ?_
   first | exact ⟨_, _, _, by_1 h1 (by assumption), rfl, band_bd _, by_i hi hc h1, rfl⟩ | exact ⟨_, _, _, by_2 h1, rfl, band_bd _, hi, rfl⟩
 intro h1
 try rw [nnp] at h1
 refine Et (Ec (Eb [3] rfl (Ef (Eg (Ea (Ee rfl) (Ea (Ee rfl) (Ed (Ec (Eb [2] rfl (Ej ?_))))))))))
 · refine Ei [] (.inr rfl) rfl rfl rfl rfl (show (List.range 1 ++ []).Nodup by decide) ?_
   first | exact ⟨_, _, _, by_1 h1 (by assumption), rfl, band_bd _, by_i hi hc h1, rfl⟩ | exact ⟨_, _, _, by_2 h1, rfl, band_bd _, hi, rfl⟩
theorem cgf_228 (code : List Int) (hc : code.length ≤ 1048576) (i h : Int) (hi : 0 ≤ i ∧ i ≤ code.length) (n : Int) : GV prg 228 [cur code i h] [.cp 0 0, .w (.int .i64 n)] (fun u L1 => ∃ (x : Int) (i2 h2 : Int), bwF code i h n = (x, i2, h2) ∧ u = .w (.int .i64 x) ∧ ((0 < n → 0 ≤ x ∧ x < n) ∧ (n ≤ 0 → x = 0)) ∧ (0 ≤ i2 ∧ i2 ≤ code.length) ∧ L1 = [cur code i2 h2]) := by
 refine gv_in g228 (Eb [0, 1] rfl (Ef (Eg (Ea (Ee rfl) (Ed (Ec (Eb [0, 1] rfl (Ef (Ef (Eg (Ea (Ee rfl) ?_)))))))))))
 refine Ea (o_leq rfl rfl) (Ed (Ec (Eb [0, 1, 10] rfl ?_)))
 first | refine Em rfl ?_ ?_ | refine Ek rfl ?_ ?_
 intro h1
 try rw [nnp] at h1
 refine Ef (Eg (Ea (Ee rfl) (Ed (Ec (Eb [4] rfl (Ej (Eu ?_)))))))
 · refine Ei [] (.inr rfl) rfl rfl rfl rfl (show (List.range 1 ++ []).Nodup by decide) ?_
   first | exact ⟨_, _, _, bw_1 (by assumption), rfl, ⟨fun _ => by omega, fun _ => rfl⟩, hi, rfl⟩ | exact ⟨_, _, _, bw_2 (by assumption) (by assumption) hFb0, rfl, ⟨fun _ => tmod_bd (by omega) (by omega), fun _ => by omega⟩, hi, rfl⟩ | exact ⟨_, _, _, bw_3 (by assumption) (by assumption) hFb0 hFb1 hFb2 hFb3, rfl, ⟨fun _ => tmod_bd (by omega) (by omega), fun _ => by omega⟩, hi, rfl⟩
 intro h1
 try rw [nnp] at h1
 refine Et (Ec (Eb [0, 1] rfl (Ef (Ef (Eg (Ea (Ee rfl) (Ea (o_leq rfl rfl) (Ed (Ec (Eb [0, 1, 12] rfl ?_))))))))))
 first | refine Em rfl ?_ ?_ | refine Ek rfl ?_ ?_
 intro h2
 try rw [nnp] at h2
 refine Ef (Eg (Ea (Ee rfl) (Fc [0] rfl rfl rfl rfl (by simp) (.inl rfl) (cgf_229 _ hc _ _ hi) ?_)))
 rintro u L1 ⟨b0, i, h, hFb0, rfl, hb0, hi, rfl⟩
 refine ⟨_, _, rfl, rfl, ?_⟩
 refine Ea (Ee rfl) ?_
 first | refine Ea (o_rem rfl rfl (by decide)) ?_ | refine Ea (o_rem rfl rfl (by omega)) ?_
 refine Ea (Ee rfl) (Ed (Ec (Eb [4] rfl (Ej (Eu ?_)))))
 · refine Ei [] (.inr rfl) rfl rfl rfl rfl (show (List.range 1 ++ []).Nodup by decide) ?_
   first | exact ⟨_, _, _, bw_1 (by assumption), rfl, ⟨fun _ => by omega, fun _ => rfl⟩, hi, rfl⟩ | exact ⟨_, _, _, bw_2 (by assumption) (by assumption) hFb0, rfl, ⟨fun _ => tmod_bd (by omega) (by omega), fun _ => by omega⟩, hi, rfl⟩ | exact ⟨_, _, _, bw_3 (by assumption) (by assumption) hFb0 hFb1 hFb2 hFb3, rfl, ⟨fun _ => tmod_bd (by omega) (by omega), fun _ => by omega⟩, hi, rfl⟩
 intro h2
 try rw [nnp] at h2
 refine Et (Ec (Eb [0, 1] rfl (Ef (Eg (Ea (Ee rfl) (Fc [0] rfl rfl rfl rfl (by simp) (.inl rfl) (cgf_229 _ hc _ _ hi) ?_))))))
 rintro u L1 ⟨b0, i, h, hFb0, rfl, hb0, hi, rfl⟩
 refine ⟨_, _, rfl, rfl, ?_⟩
 refine Ea (Ee rfl) (Ed (Ec (Eb [0, 1, 5] rfl (Ef (Eg (Ea (Ee rfl) (Fc [0] rfl rfl rfl rfl (by simp) (.inl rfl) (cgf_229 _ hc _ _ hi) ?_)))))))
 rintro u L1 ⟨b1, i, h, hFb1, rfl, hb1, hi, rfl⟩
 refine ⟨_, _, rfl, rfl, ?_⟩
 refine Ea (Ee rfl) (Ed (Ec (Eb [0, 1, 5, 6] rfl (Ef (Eg (Ea (Ee rfl) (Fc [0] rfl rfl rfl rfl (by simp) (.inl rfl) (cgf_229 _ hc _ _ hi) ?_)))))))
 rintro u L1 ⟨b2, i, h, hFb2, rfl, hb2, hi, rfl⟩
 refine ⟨_, _, rfl, rfl, ?_⟩
 refine Ea (Ee rfl) (Ed (Ec (Eb [0, 1, 5, 6, 7] rfl (Ef (Eg (Ea (Ee rfl) (Fc [0] rfl rfl rfl rfl (by simp) (.inl rfl) (cgf_229 _ hc _ _ hi) ?_)))))))
 rintro u L1 ⟨b3, i, h, hFb3, rfl, hb3, hi, rfl⟩
 refine ⟨_, _, rfl, rfl, ?_⟩
 refine Ea (Ee rfl) (Ed (Ec (Eb [1, 5, 6, 7, 8] rfl (Ef (Eg (Ea (Ee rfl) ?_))))))
 first | refine Ea (o_muln rfl rfl (by omega)) ?_ | refine Ea (o_mul rfl rfl) ?_
 refine Ea (Ee rfl) ?_
 first | refine Ea (o_muln rfl rfl (by omega)) ?_ | refine Ea (o_mul rfl rfl) ?_
 first | refine Ea (o_addn rfl rfl (by omega)) ?_ | refine Ea (o_add rfl rfl) ?_
 refine Ea (Ee rfl) ?_
 first | refine Ea (o_muln rfl rfl (by omega)) ?_ | refine Ea (o_mul rfl rfl) ?_
 first | refine Ea (o_addn rfl rfl (by omega)) ?_ | refine Ea (o_add rfl rfl) ?_
 refine Ea (Ee rfl) ?_
 first | refine Ea (o_addn rfl rfl (by omega)) ?_ | refine Ea (o_add rfl rfl) ?_
 refine Ea (Ee rfl) ?_
 first | refine Ea (o_rem rfl rfl (by decide)) ?_ | refine Ea (o_rem rfl rfl (by omega)) ?_
 refine Ea (Ee rfl) (Ed (Ec (Eb [4] rfl (Ej ?_))))
 · refine Ei [] (.inr rfl) rfl rfl rfl rfl (show (List.range 1 ++ []).Nodup by decide) ?_
   first | exact ⟨_, _, _, bw_1 (by assumption), rfl, ⟨fun _ => by omega, fun _ => rfl⟩, hi, rfl⟩ | exact ⟨_, _, _, bw_2 (by assumption) (by assumption) hFb0, rfl, ⟨fun _ => tmod_bd (by omega) (by omega), fun _ => by omega⟩, hi, rfl⟩ | exact ⟨_, _, _, bw_3 (by assumption) (by assumption) hFb0 hFb1 hFb2 hFb3, rfl, ⟨fun _ => tmod_bd (by omega) (by omega), fun _ => by omega⟩, hi, rfl⟩
def newH (code : List Int) : Nat → Int
 | 0 => 10101 + code.length
 | k + 1 => band (IntKind.wrap .i64 (IntKind.wrap .i64 (IntKind.wrap .i64 (newH code k * 131) + IntKind.wrap .i64 ((code[k]?).getD 0)) + 7)) 1073741823
theorem newH_next {code : List Int} {k : Nat} {y : Int} (h : code[k]? = some y) : newH code (k + 1) = band (IntKind.wrap .i64 (IntKind.wrap .i64 (IntKind.wrap .i64 (newH code k * 131) + IntKind.wrap .i64 y) + 7)) 1073741823 := by rw [newH, h]; rfl
def newF (code : List Int) : Int := newH code (min code.length 4000)
theorem newF_at {code : List Int} {i : Nat} (hi : i ≤ code.length ∧ i ≤ 4000) (h : ¬ (i : Int) < code.length ∨ ¬ (i : Int) < 4000) : newH code i = newF code := by
 rw [newF]; congr 1; omega
theorem cgf_231 (code : List Int) (hc : code.length ≤ 1048576) : GV prg 231 [] [.sl 1 (code.map uR)] (fun u L1 => u = .cp 0 0 ∧ L1 = [cur code 0 (newF code)]) := by
 refine gv_in g231 (Eb [0] rfl (Ef (Eg (Ea (Ee rfl) (Ed (Ec (Eb [0] rfl (Ef (Eg (Ea (Ee rfl) ?_))))))))))
 first | refine Ea (o_lenM rfl) ?_ | refine Ea (o_len rfl) ?_
 first | refine Ea (o_addn rfl rfl (by omega)) ?_ | refine Ea (o_add rfl rfl) ?_
 refine Ea (Ee rfl) (Ed (Ec (Eb [0, 3] rfl (Ef (Ef (Eg (Ea (Ee rfl) (Ed (Ec (Eb [0, 3, 4] rfl (Fb ?_)))))))))))
 refine S_loop (ι := Nat) (fun i => i ≤ code.length ∧ i ≤ 4000) (fun i => [(3, .w (.int .i64 (newH code i))), (4, .w (.int .i64 (i : Int)))]) (fun i => []) (fun i => code.length - i) 0 0 ⟨Nat.zero_le _, Nat.zero_le _⟩ rfl (hasOf ⟨rfl, rfl, trivial⟩ rfl) rfl (fun _ _ => rfl) (fun _ _ => ⟨rfl, rfl⟩) ?_
 intro i hi
 refine Eb [0, 3, 4] rfl (Ef (Ef (Eg (Ea (Ee rfl) (Ea (Ee rfl) ?_)))))
 first | refine Ea (o_lenM rfl) ?_ | refine Ea (o_len rfl) ?_
 refine Ea (o_lss rfl rfl) (Ea (Ee rfl) ?_)
 first | refine s_gDT rfl ?_ ?_ | refine s_gB rfl ?_ ?_
 intro h1
 try rw [nnp] at h1
 refine Ea (Ee rfl) (Ev rfl (Ea (o_lss rfl rfl) (Ea (Er rfl rfl) (Ed (Ec (Eb [0, 3, 4, 13, 14, 15] rfl ?_))))))
 first | refine Em rfl ?_ ?_ | refine Ek rfl ?_ ?_
 intro h2
 try rw [nnp] at h2
 refine Et (Ec (Eb [0, 3, 4, 13, 14] rfl (Ef (Fb (Eg (Ea (Ee rfl) ?_))))))
 first | refine Ea (o_muln rfl rfl (by omega)) ?_ | refine Ea (o_mul rfl rfl) ?_
 refine Ea (Ee rfl) (Ea (Ee rfl) (s_iaM rfl rfl (by omega) ?_))
 intro y3 e3
 try simp only [Int.toNat_natCast, Int.toNat_zero] at e3
 refine Ea (o_ld rfl rfl) (Ea (o_cvi rfl) ?_)
 first | refine Ea (o_addn rfl rfl (by omega)) ?_ | refine Ea (o_add rfl rfl) ?_
 first | refine Ea (o_addn rfl rfl (by omega)) ?_ | refine Ea (o_add rfl rfl) ?_
 refine Ea (o_band rfl rfl) (Ea (Ee rfl) (Ed (q_blkN (Ec (Eb [0, 3, 4, 13, 14] rfl (Eg (Ea (Ee rfl) ?_)))))))
 first | refine Ea (o_addn rfl rfl (by omega)) ?_ | refine Ea (o_add rfl rfl) ?_
 refine Ea (Ee rfl) (Ed (q_loopN ?_))
 · refine ⟨i + 1, ⟨by omega, by omega⟩, by omega, hasOf ⟨?_, rfl, trivial⟩ rfl⟩
   rw [newH_next (by assumption)]; rfl
 intro h2
 try rw [nnp] at h2
 refine s_exit (q_seqX (q_loopX (q_blkH (Ec (Eb [0, 3] rfl (Ef (Eg (Ea (Ee rfl) (Ea (Ee rfl) (Ea (o_bd rfl rfl) (Ea (o_box rfl rfl rfl) ?_)))))))))))
 refine Ea (Ee rfl) (Ed (Ec (Eb [2] rfl (Ej ?_))))
 · refine Ei [0] (.inr rfl) rfl rfl rfl rfl (show (List.range 0 ++ [0]).Nodup by decide) ?_
   rw [newF_at hi (by omega)]; exact ⟨rfl, rfl⟩
 intro h1
 try rw [nnp] at h1
 refine Eh rfl (Eh rfl (Ea (En rfl rfl) (Ed (Ec (Eb [0, 3, 4, 13, 14, 15] rfl (s_condF rfl (s_exit (q_seqX (q_loopX (q_blkH (Ec ?_)))))))))))
 refine Eb [0, 3] rfl (Ef (Eg (Ea (Ee rfl) (Ea (Ee rfl) (Ea (o_bd rfl rfl) (Ea (o_box rfl rfl rfl) (Ea (Ee rfl) (Ed (Ec (Eb [2] rfl (Ej ?_)))))))))))
 · refine Ei [0] (.inr rfl) rfl rfl rfl rfl (show (List.range 0 ++ [0]).Nodup by decide) ?_
   rw [newF_at hi (by omega)]; exact ⟨rfl, rfl⟩
def tbV (st b : Int) : Int := if st = 1 then b.tmod 2 else if st = 2 then IntKind.wrap .i64 (97 + b.tmod 4) else b
def tb (st b : Int) : UInt8 := UInt8.ofNat (IntKind.wrap .u8 (tbV st b)).toNat
theorem tv_0 {st b : Int} (h : ¬ st = 1) (k : ¬ st = 2) : tbV st b = b := by rw [tbV, if_neg h, if_neg k]
theorem tv_1 {st b : Int} (h : st = 1) : tbV st b = b.tmod 2 := by rw [tbV, if_pos h]
theorem tv_2 {st b : Int} (h : ¬ st = 1) (k : st = 2) : tbV st b = IntKind.wrap .i64 (97 + b.tmod 4) := by rw [tbV, if_neg h, if_pos k]
theorem tb_snoc {out : List UInt8} {st b v : Int} (e : tbV st b = v) : (out ++ [tb st b]).map byR = out.map byR ++ [[.w (.int .u8 (IntKind.wrap .u8 v))]] := by
 rw [tb, e, byR_snoc]
def textL (code : List Int) (st : Int) : Nat → List UInt8 → Int → Int → List UInt8 × Int × Int
 | 0, out, i, h => (out, i, h)
 | k + 1, out, i, h => textL code st k (out ++ [tb st (byF code i h).1]) (byF code i h).2.1 (byF code i h).2.2
theorem textL_next {code : List Int} {st n : Int} {out : List UInt8} {i h b i1 g1 : Int} (hn : 0 < n) (hb : byF code i h = (b, i1, g1)) : textL code st (n - 1).toNat (out ++ [tb st b]) i1 g1 = textL code st n.toNat out i h := by
 have e : n.toNat = (n - 1).toNat + 1 := by omega
 rw [e, textL, hb]
def textF (code : List Int) (i h most : Int) : List UInt8 × Int × Int :=
 let s := bwF code i h 4
 let n := bwF code s.2.1 s.2.2 (most + 1)
 textL code s.1 n.1.toNat [] n.2.1 n.2.2
theorem text_end {code : List Int} {i0 h0 most st i1 g1 n0 i2 g2 n i h : Int} {out : List UInt8} (hs : bwF code i0 h0 4 = (st, i1, g1)) (hn : bwF code i1 g1 (most + 1) = (n0, i2, g2)) (hT : textL code st n.toNat out i h = textL code st n0.toNat [] i2 g2) (h0' : ¬ 0 < n) : textF code i0 h0 most = (out, i, h) := by
 have e : n.toNat = 0 := by omega
 rw [e] at hT
 rw [textF, hs]
 simp only
 rw [hn]
 simp only
 rw [← hT]; rfl
theorem cgf_236 (code : List Int) (hc : code.length ≤ 1048576) (i h : Int) (hi : 0 ≤ i ∧ i ≤ code.length) (most : Int) (hmost : 0 ≤ most ∧ most ≤ 1000) : GV prg 236 [cur code i h] [.cp 0 0, .w (.int .i64 most)] (fun u L1 => ∃ (x : List UInt8) (i2 h2 : Int), textF code i h most = (x, i2, h2) ∧ u = .w (.string ⟨(x).toArray⟩) ∧ ((x.length : Int) ≤ most) ∧ (0 ≤ i2 ∧ i2 ≤ code.length) ∧ L1 = [cur code i2 h2]) := by
 refine gv_in g236 (Eb [0, 1] rfl (Ef (Eg (Ea (Ee rfl) (Ed (Ec (Eb [0, 1] rfl (Ef (Eg (Ea (o_bs rfl rfl rfl rfl) (Ea (Ee rfl) ?_)))))))))))
 refine Ed (Ec (Eb [0, 1, 5] rfl (Ef (Eg (Ea (Ee rfl) (Fc [0] rfl rfl rfl rfl (by simp) (.inl rfl) (cgf_228 _ hc _ _ hi _) ?_))))))
 rintro u L1 ⟨st, i, h, hFst, rfl, hst, hi, rfl⟩
 refine ⟨_, _, rfl, rfl, ?_⟩
 refine Ea (Ee rfl) (Ed (Ec (Eb [0, 1, 5, 6] rfl (Ef (Ef (Eg (Ea (Ee rfl) (Ea (Ee rfl) ?_))))))))
 first | refine Ea (o_addn rfl rfl (by omega)) ?_ | refine Ea (o_add rfl rfl) ?_
 refine Fc [0] rfl rfl rfl rfl (by simp) (.inl rfl) (cgf_228 _ hc _ _ hi _) ?_
 rintro u L1 ⟨n0, i, h, hFn0, rfl, hn0, hi, rfl⟩
 refine ⟨_, _, rfl, rfl, ?_⟩
 refine Ea (Ee rfl) (Ed (Ec (Eb [0, 5, 6, 7] rfl (Fb (S_loop (ι := Int × List UInt8 × Int × Int) (fun p => (0 ≤ p.1 ∧ (p.2.1.length : Int) + p.1 ≤ most) ∧ (0 ≤ p.2.2.1 ∧ p.2.2.1 ≤ code.length) ∧ textL code st p.1.toNat p.2.1 p.2.2.1 p.2.2.2 = textL code st n0.toNat [] i h) (fun p => [(5, .ls 1 (p.2.1.map byR).length), (7, .w (.int .i64 p.1))]) (fun p => [cur code p.2.2.1 p.2.2.2, .arr 1 (p.2.1.map byR)]) (fun p => p.1.toNat) 2 (n0, [], i, h) ⟨⟨by simp only; omega, by simp only [List.length_nil]; omega⟩, hi, rfl⟩ rfl (hasOf ⟨rfl, rfl, trivial⟩ rfl) rfl (fun _ _ => rfl) (fun _ _ => ⟨rfl, rfl⟩) ?_)))))
 rintro ⟨n, out, i, h⟩ hp
 obtain ⟨hn1, hi, hT⟩ := hp
 simp only at hn1 hi hT
 have hml : (out.map byR).length = out.length := List.length_map ..
 refine Eb [0, 5, 6, 7] rfl ?_
 dsimp only
 refine Ef (Ef (Eg (Ea (Ee rfl) (Ea (o_gtr rfl rfl) (Ed (Ec (Eb [0, 5, 6, 7, 17] rfl ?_)))))))
 first | refine Em rfl ?_ ?_ | refine Ek rfl ?_ ?_
 intro h1
 try rw [nnp] at h1
 refine Et (Ec (Eb [0, 5, 6, 7] rfl (Ef (Fb (Ef (Eg (Ea (Ee rfl) (Fc [0] rfl rfl rfl rfl (by simp) (.inl rfl) (cgf_229 _ hc _ _ hi) ?_))))))))
 rintro u L1 ⟨b, i, h, hFb, rfl, hb, hi, rfl⟩
 refine ⟨_, _, rfl, rfl, ?_⟩
 refine Ea (Ee rfl) (Ed (Ec (Eb [0, 5, 6, 7, 8] rfl (Ef (Ef (Eg (Ea (Ee rfl) (Ea (o_eql rfl rfl) (Ed (Ec (Eb [0, 5, 6, 7, 8, 23] rfl ?_)))))))))))
 first | refine Em rfl ?_ ?_ | refine Ek rfl ?_ ?_
 intro h2
 try rw [nnp] at h2
 refine Eg (Ea (Ee rfl) ?_)
 first | refine Ea (o_rem rfl rfl (by decide)) ?_ | refine Ea (o_rem rfl rfl (by omega)) ?_
 refine Ea (Ee rfl) (Ed (Ec (Eb [0, 5, 6, 7, 8] rfl (Ef (Ef (Eg (Ea (Ee rfl) (Ea (o_eql rfl rfl) (Ed (Ec (Eb [0, 5, 6, 7, 8, 27] rfl ?_)))))))))))
 first | refine Em rfl ?_ ?_ | refine Ek rfl ?_ ?_
 intro h3
 try rw [nnp] at h3
 refine Eg (Ea (Ee rfl) ?_)
 first | refine Ea (o_rem rfl rfl (by decide)) ?_ | refine Ea (o_rem rfl rfl (by omega)) ?_
 first | refine Ea (o_addn rfl rfl (by omega)) ?_ | refine Ea (o_add rfl rfl) ?_
 refine Ea (Ee rfl) (Ed (Ec (Eb [0, 5, 6, 7, 8] rfl (Eg (Ea (Ee rfl) (Ea (Ee rfl) (Ea (o_cvi rfl) (Ea (o_bs rfl rfl rfl rfl) ?_))))))))
 first | refine Ea (o_appL rfl rfl rfl rfl rfl rfl rfl (by simp [roomy]; omega)) ?_ | refine Ea (o_app rfl rfl rfl rfl rfl (by simp [roomy]; omega)) ?_
 refine Ea (Ee rfl) (Ed (q_blkN (Ec (Eb [0, 5, 6, 7] rfl (Eg (Ea (Ee rfl) ?_))))))
 first | refine Ea (o_subn rfl rfl (by omega)) ?_ | refine Ea (o_sub rfl rfl) ?_
 refine Ea (Ee rfl) (Ed (q_loopN ?_))
 · have hnp : 0 < n := by omega
   have hTn := (textL_next (st := st) (out := out) hnp hFb).trans hT
   have ho : (out ++ [tb st b]).length = out.length + 1 := by simp
   first | (exfalso; omega) | skip
   all_goals first | have hv := tv_1 (b := b) (by assumption) | have hv := tv_2 (b := b) (by assumption) (by assumption) | have hv := tv_0 (b := b) (by assumption) (by assumption)
   all_goals (refine ⟨(n - 1, out ++ [tb st b], i, h), ⟨⟨by simp only; omega, by simp only [ho]; omega⟩, hi, hTn⟩, by simp only; omega, hasOf ⟨?_, rfl, trivial⟩ ?_⟩ <;> simp only [tb_snoc hv] <;> rfl)
 intro h3
 try rw [nnp] at h3
 refine Et (Ec (Eb [0, 5, 6, 7, 8] rfl (Eg (Ea (Ee rfl) (Ea (Ee rfl) (Ea (o_cvi rfl) (Ea (o_bs rfl rfl rfl rfl) ?_)))))))
 first | refine Ea (o_appL rfl rfl rfl rfl rfl rfl rfl (by simp [roomy]; omega)) ?_ | refine Ea (o_app rfl rfl rfl rfl rfl (by simp [roomy]; omega)) ?_
 refine Ea (Ee rfl) (Ed (q_blkN (Ec (Eb [0, 5, 6, 7] rfl (Eg (Ea (Ee rfl) ?_))))))
 first | refine Ea (o_subn rfl rfl (by omega)) ?_ | refine Ea (o_sub rfl rfl) ?_
 refine Ea (Ee rfl) (Ed (q_loopN ?_))
 · have hnp : 0 < n := by omega
   have hTn := (textL_next (st := st) (out := out) hnp hFb).trans hT
   have ho : (out ++ [tb st b]).length = out.length + 1 := by simp
   first | (exfalso; omega) | skip
   all_goals first | have hv := tv_1 (b := b) (by assumption) | have hv := tv_2 (b := b) (by assumption) (by assumption) | have hv := tv_0 (b := b) (by assumption) (by assumption)
   all_goals (refine ⟨(n - 1, out ++ [tb st b], i, h), ⟨⟨by simp only; omega, by simp only [ho]; omega⟩, hi, hTn⟩, by simp only; omega, hasOf ⟨?_, rfl, trivial⟩ ?_⟩ <;> simp only [tb_snoc hv] <;> rfl)
 intro h2
 try rw [nnp] at h2
 refine Et (Ec (Eb [0, 5, 6, 7, 8] rfl (Ef (Ef (Eg (Ea (Ee rfl) (Ea (o_eql rfl rfl) (Ed (Ec (Eb [0, 5, 6, 7, 8, 27] rfl ?_))))))))))
 first | refine Em rfl ?_ ?_ | refine Ek rfl ?_ ?_
 intro h4
 try rw [nnp] at h4
 refine Eg (Ea (Ee rfl) ?_)
 first | refine Ea (o_rem rfl rfl (by decide)) ?_ | refine Ea (o_rem rfl rfl (by omega)) ?_
 first | refine Ea (o_addn rfl rfl (by omega)) ?_ | refine Ea (o_add rfl rfl) ?_
 refine Ea (Ee rfl) (Ed (Ec (Eb [0, 5, 6, 7, 8] rfl (Eg (Ea (Ee rfl) (Ea (Ee rfl) (Ea (o_cvi rfl) (Ea (o_bs rfl rfl rfl rfl) ?_))))))))
 first | refine Ea (o_appL rfl rfl rfl rfl rfl rfl rfl (by simp [roomy]; omega)) ?_ | refine Ea (o_app rfl rfl rfl rfl rfl (by simp [roomy]; omega)) ?_
 refine Ea (Ee rfl) (Ed (q_blkN (Ec (Eb [0, 5, 6, 7] rfl (Eg (Ea (Ee rfl) ?_))))))
 first | refine Ea (o_subn rfl rfl (by omega)) ?_ | refine Ea (o_sub rfl rfl) ?_
 refine Ea (Ee rfl) (Ed (q_loopN ?_))
 · have hnp : 0 < n := by omega
   have hTn := (textL_next (st := st) (out := out) hnp hFb).trans hT
   have ho : (out ++ [tb st b]).length = out.length + 1 := by simp
   first | (exfalso; omega) | skip
   all_goals first | have hv := tv_1 (b := b) (by assumption) | have hv := tv_2 (b := b) (by assumption) (by assumption) | have hv := tv_0 (b := b) (by assumption) (by assumption)
   all_goals (refine ⟨(n - 1, out ++ [tb st b], i, h), ⟨⟨by simp only; omega, by simp only [ho]; omega⟩, hi, hTn⟩, by simp only; omega, hasOf ⟨?_, rfl, trivial⟩ ?_⟩ <;> simp only [tb_snoc hv] <;> rfl)
 intro h4
 try rw [nnp] at h4
 refine Et (Ec (Eb [0, 5, 6, 7, 8] rfl (Eg (Ea (Ee rfl) (Ea (Ee rfl) (Ea (o_cvi rfl) (Ea (o_bs rfl rfl rfl rfl) ?_)))))))
 first | refine Ea (o_appL rfl rfl rfl rfl rfl rfl rfl (by simp [roomy]; omega)) ?_ | refine Ea (o_app rfl rfl rfl rfl rfl (by simp [roomy]; omega)) ?_
 refine Ea (Ee rfl) (Ed (q_blkN (Ec (Eb [0, 5, 6, 7] rfl (Eg (Ea (Ee rfl) ?_))))))
 first | refine Ea (o_subn rfl rfl (by omega)) ?_ | refine Ea (o_sub rfl rfl) ?_
 refine Ea (Ee rfl) (Ed (q_loopN ?_))
 · have hnp : 0 < n := by omega
   have hTn := (textL_next (st := st) (out := out) hnp hFb).trans hT
   have ho : (out ++ [tb st b]).length = out.length + 1 := by simp
   first | (exfalso; omega) | skip
   all_goals first | have hv := tv_1 (b := b) (by assumption) | have hv := tv_2 (b := b) (by assumption) (by assumption) | have hv := tv_0 (b := b) (by assumption) (by assumption)
   all_goals (refine ⟨(n - 1, out ++ [tb st b], i, h), ⟨⟨by simp only; omega, by simp only [ho]; omega⟩, hi, hTn⟩, by simp only; omega, hasOf ⟨?_, rfl, trivial⟩ ?_⟩ <;> simp only [tb_snoc hv] <;> rfl)
 intro h1
 try rw [nnp] at h1
 refine s_exit (q_seqX (q_loopX (q_blkH (Ec (Eb [5] rfl (Ef (Eg (Ea (Ee rfl) (Ea (o_cvbsb rfl rfl rfl) (Ea (Ee rfl) (Ed ?_)))))))))))
 refine Ec (Eb [4] rfl (Ej ?_))
 · refine Ei [] (.inr rfl) rfl rfl rfl rfl (show (List.range 1 ++ []).Nodup by decide) ?_
   exact ⟨_, _, _, text_end hFst hFn0 hT (by assumption), rfl, by omega, hi, rfl⟩
def cutS (s : List UInt8) (l h : Int) : List UInt8 := (s.take h.toNat).drop l.toNat
theorem cutS_len {s : List UInt8} {l h : Int} (h0 : 0 ≤ l ∧ l ≤ h ∧ h ≤ s.length) : ((cutS s l h).length : Int) = h - l := by
 simp only [cutS, List.length_drop, List.length_take]; omega
def oneB (v : Int) : List UInt8 := [UInt8.ofNat (IntKind.wrap .u8 v).toNat]
def spF (code : List Int) (i h : Int) (s : List UInt8) : List UInt8 × Int × Int :=
 if (s.length : Int) = 0 then textF code i h 3 else
 let k := bwF code i h s.length
 let z := bwF code k.2.1 k.2.2 4
 if z.1 = 0 then (cutS s 0 k.1 ++ cutS s (k.1 + 1) s.length, z.2) else if z.1 = 1 then
  let b := byF code z.2.1 z.2.2
  (cutS s 0 k.1 ++ oneB b.1 ++ cutS s k.1 s.length, b.2)
 else if z.1 = 2 then (cutS s 0 k.1, z.2) else
  let x := bwF code z.2.1 z.2.2 255
  (cutS s 0 k.1 ++ oneB (bxor (IntKind.wrap .i64 (((s[k.1.toNat]?).getD 0).toNat : Int)) (1 + x.1)) ++ cutS s (k.1 + 1) s.length, x.2)
theorem sp_e {code : List Int} {i h : Int} {s t : List UInt8} {i1 g1 : Int} (h0 : (s.length : Int) = 0) (ht : textF code i h 3 = (t, i1, g1)) : spF code i h s = (t, i1, g1) := by rw [spF, if_pos h0, ht]
theorem sp_0 {code : List Int} {i h k i1 g1 z i2 g2 : Int} {s : List UInt8} (h0 : ¬ (s.length : Int) = 0) (hk : bwF code i h s.length = (k, i1, g1)) (hz : bwF code i1 g1 4 = (z, i2, g2)) (h1 : z = 0) : spF code i h s = (cutS s 0 k ++ cutS s (k + 1) s.length, i2, g2) := by
 rw [spF, if_neg h0]; simp only [hk, hz]; rw [if_pos h1]
theorem sp_1 {code : List Int} {i h k i1 g1 z i2 g2 b i3 g3 : Int} {s : List UInt8} (h0 : ¬ (s.length : Int) = 0) (hk : bwF code i h s.length = (k, i1, g1)) (hz : bwF code i1 g1 4 = (z, i2, g2)) (h1 : ¬ z = 0) (h2 : z = 1) (hb : byF code i2 g2 = (b, i3, g3)) : spF code i h s = (cutS s 0 k ++ oneB b ++ cutS s k s.length, i3, g3) := by
 rw [spF, if_neg h0]; simp only [hk, hz]; rw [if_neg h1, if_pos h2, hb]
theorem sp_2 {code : List Int} {i h k i1 g1 z i2 g2 : Int} {s : List UInt8} (h0 : ¬ (s.length : Int) = 0) (hk : bwF code i h s.length = (k, i1, g1)) (hz : bwF code i1 g1 4 = (z, i2, g2)) (h1 : ¬ z = 0) (h2 : ¬ z = 1) (h3 : z = 2) : spF code i h s = (cutS s 0 k, i2, g2) := by
 rw [spF, if_neg h0]; simp only [hk, hz]; rw [if_neg h1, if_neg h2, if_pos h3]
theorem sp_3 {code : List Int} {i h k i1 g1 z i2 g2 x i3 g3 : Int} {s : List UInt8} {y : UInt8} (h0 : ¬ (s.length : Int) = 0) (hk : bwF code i h s.length = (k, i1, g1)) (hz : bwF code i1 g1 4 = (z, i2, g2)) (h1 : ¬ z = 0) (h2 : ¬ z = 1) (h3 : ¬ z = 2) (hy : s[k.toNat]? = some y) (hx : bwF code i2 g2 255 = (x, i3, g3)) :
 spF code i h s = (cutS s 0 k ++ oneB (bxor (IntKind.wrap .i64 (y.toNat : Int)) (1 + x)) ++ cutS s (k + 1) s.length, i3, g3) := by
 rw [spF, if_neg h0]; simp only [hk, hz]; rw [if_neg h1, if_neg h2, if_neg h3, hx, hy]; rfl
theorem cgf_235 (code : List Int) (hc : code.length ≤ 1048576) (i h : Int) (hi : 0 ≤ i ∧ i ≤ code.length) (s : List UInt8) (hs : s.length ≤ 1000) : GV prg 235 [cur code i h] [.cp 0 0, .w (.string ⟨(s).toArray⟩)] (fun u L1 => ∃ (x : List UInt8) (i2 h2 : Int), spF code i h s = (x, i2, h2) ∧ u = .w (.string ⟨(x).toArray⟩) ∧ ((x.length : Int) ≤ s.length + 3) ∧ (0 ≤ i2 ∧ i2 ≤ code.length) ∧ L1 = [cur code i2 h2]) := by
 refine gv_in g235 (Eb [0, 1] rfl (Ef (Eg (Ea (Ee rfl) (Ed (Ec (Eb [0, 1] rfl (Ef (Ef (Eg (Ea (Ee rfl) ?_)))))))))))
 refine Ea (o_lenb rfl) (Ea (o_eql rfl rfl) (Ed (Ec (Eb [0, 1, 8] rfl ?_))))
 first | refine Em rfl ?_ ?_ | refine Ek rfl ?_ ?_
 intro h1
 try rw [nnp] at h1
 refine Ef (Eg (Ea (Ee rfl) (Fc [0] rfl rfl rfl rfl (by simp) (.inl rfl) (cgf_236 _ hc _ _ hi _ (by omega)) ?_)))
 rintro u L1 ⟨t0, i, h, hFt0, rfl, ht0, hi, rfl⟩
 refine ⟨_, _, rfl, rfl, ?_⟩
 refine Ea (Ee rfl) (Ed (Ec (Eb [4] rfl (Ej (Eu ?_)))))
 · refine Ei [] (.inr rfl) rfl rfl rfl rfl (show (List.range 1 ++ []).Nodup by decide) ?_
   first | exact ⟨_, _, _, sp_e (by assumption) hFt0, rfl, by omega, hi, rfl⟩ | exact ⟨_, _, _, sp_0 (by assumption) hFk hFz (by assumption), rfl, by rw [List.length_append]; have g1 := cutS_len (s := s) (l := 0) (h := k) (by omega); have g2 := cutS_len (s := s) (l := k + 1) (h := s.length) (by omega); omega, hi, rfl⟩ | exact ⟨_, _, _, sp_1 (by assumption) hFk hFz (by assumption) (by assumption) hFb, rfl, by rw [List.length_append, List.length_append]; have g1 := cutS_len (s := s) (l := 0) (h := k) (by omega); have g2 := cutS_len (s := s) (l := k) (h := s.length) (by omega); have g3 : (oneB b).length = 1 := rfl; omega, hi, rfl⟩ | exact ⟨_, _, _, sp_2 (by assumption) hFk hFz (by assumption) (by assumption) (by assumption), rfl, by have g1 := cutS_len (s := s) (l := 0) (h := k) (by omega); omega, hi, rfl⟩ | exact ⟨_, _, _, sp_3 (by assumption) hFk hFz (by assumption) (by assumption) (by assumption) hy hFx1, rfl, by rw [List.length_append, List.length_append]; have g1 := cutS_len (s := s) (l := 0) (h := k) (by omega); have g2 := cutS_len (s := s) (l := k + 1) (h := s.length) (by omega); have g3 : (oneB (bxor (IntKind.wrap .i64 (y.toNat : Int)) (1 + x1))).length = 1 := rfl; omega, hi, rfl⟩
 intro h1
 try rw [nnp] at h1
 refine Et (Ec (Eb [0, 1] rfl (Ef (Eg (Ea (Ee rfl) (Ea (Ee rfl) (Ea (o_lenb rfl) (Fc [0] rfl rfl rfl rfl (by simp) (.inl rfl) (cgf_228 _ hc _ _ hi _) ?_))))))))
 rintro u L1 ⟨k, i, h, hFk, rfl, hk, hi, rfl⟩
 refine ⟨_, _, rfl, rfl, ?_⟩
 have hk1 := hk.1 (by omega)
 obtain ⟨y, hy⟩ : ∃ y, s[k.toNat]? = some y := ⟨_, List.getElem?_eq_getElem (show k.toNat < s.length by omega)⟩
 refine Ea (Ee rfl) (Ed (Ec (Eb [0, 1, 5] rfl (Ef (Ef (Eg (Ea (Ee rfl) (Fc [0] rfl rfl rfl rfl (by simp) (.inl rfl) (cgf_228 _ hc _ _ hi _) ?_))))))))
 rintro u L1 ⟨z, i, h, hFz, rfl, hz, hi, rfl⟩
 refine ⟨_, _, rfl, rfl, ?_⟩
 refine Ed (Ec (Eb [0, 1, 5, 16] rfl (Fb (Ef (Eg (Ea (o_eql rfl rfl) (Ea (Ee rfl) (Ed (Ec (Eb [0, 1, 5, 16, 17] rfl ?_))))))))))
 first | refine Em rfl ?_ ?_ | refine Ek rfl ?_ ?_
 intro h2
 try rw [nnp] at h2
 refine Ef (Eg (Ea (Ee rfl) (Ea (Ee rfl) (Ea (o_slsb rfl rfl rfl (by omega)) (Ea (Ee rfl) (Ea (Ee rfl) ?_))))))
 first | refine Ea (o_addn rfl rfl (by omega)) ?_ | refine Ea (o_add rfl rfl) ?_
 refine Ea (o_slsb rfl rfl rfl (by omega)) (Ea (o_adds rfl rfl (by simp only [List.length_append, List.length_drop, List.length_take, List.length_cons, List.length_nil]; omega)) (Ea (Ee rfl) (Ed (Ec (Eb [4] rfl (Ej (q_blkR (Eu ?_))))))))
 · refine Ei [] (.inr rfl) rfl rfl rfl rfl (show (List.range 1 ++ []).Nodup by decide) ?_
   first | exact ⟨_, _, _, sp_e (by assumption) hFt0, rfl, by omega, hi, rfl⟩ | exact ⟨_, _, _, sp_0 (by assumption) hFk hFz (by assumption), rfl, by rw [List.length_append]; have g1 := cutS_len (s := s) (l := 0) (h := k) (by omega); have g2 := cutS_len (s := s) (l := k + 1) (h := s.length) (by omega); omega, hi, rfl⟩ | exact ⟨_, _, _, sp_1 (by assumption) hFk hFz (by assumption) (by assumption) hFb, rfl, by rw [List.length_append, List.length_append]; have g1 := cutS_len (s := s) (l := 0) (h := k) (by omega); have g2 := cutS_len (s := s) (l := k) (h := s.length) (by omega); have g3 : (oneB b).length = 1 := rfl; omega, hi, rfl⟩ | exact ⟨_, _, _, sp_2 (by assumption) hFk hFz (by assumption) (by assumption) (by assumption), rfl, by have g1 := cutS_len (s := s) (l := 0) (h := k) (by omega); omega, hi, rfl⟩ | exact ⟨_, _, _, sp_3 (by assumption) hFk hFz (by assumption) (by assumption) (by assumption) hy hFx1, rfl, by rw [List.length_append, List.length_append]; have g1 := cutS_len (s := s) (l := 0) (h := k) (by omega); have g2 := cutS_len (s := s) (l := k + 1) (h := s.length) (by omega); have g3 : (oneB (bxor (IntKind.wrap .i64 (y.toNat : Int)) (1 + x1))).length = 1 := rfl; omega, hi, rfl⟩
 intro h2
 try rw [nnp] at h2
 refine Ef (Eg (Ea (o_eql rfl rfl) (Ea (Ee rfl) (Ed (Ec (Eb [0, 1, 5, 16, 27] rfl ?_))))))
 first | refine Em rfl ?_ ?_ | refine Ek rfl ?_ ?_
 intro h3
 try rw [nnp] at h3
 refine Ef (s_rgH [0] rfl (h_op (Ee rfl) rfl (h_op (Ee rfl) rfl (h_op (o_slsb rfl rfl rfl (by omega)) rfl (h_op (Ee rfl) rfl (h_callG [0] [] rfl rfl rfl rfl rfl rfl (by simp) rfl (cgf_229 _ hc _ _ hi) (by simp) ?_))))))
 rintro u L1 ⟨b, i, h, hFb, rfl, hb, hi, rfl⟩
 refine ⟨rfl, _, _, _, _, rfl, rfl, rfl, rfl, ?_⟩
 refine h_op (o_cvi rfl) rfl (h_op (o_bs rfl rfl rfl rfl) rfl (h_op (o_cvbs1 rfl rfl (wrap_u8 _)) rfl (h_op (o_adds rfl rfl (by simp only [List.length_append, List.length_drop, List.length_take, List.length_cons, List.length_nil]; omega)) rfl (h_op (Ee rfl) rfl (h_op (Ee rfl) rfl (h_op (o_slsb rfl rfl rfl (by omega)) rfl (h_bar rfl (Ea (o_adds rfl rfl (by simp only [List.length_append, List.length_drop, List.length_take, List.length_cons, List.length_nil]; omega)) (Ea (Ee rfl) (Ed (Ec ?_)))))))))))
 refine Eb [4] rfl (Ej (q_blkR (Eu ?_)))
 · refine Ei [] (.inr rfl) rfl rfl rfl rfl (show (List.range 1 ++ []).Nodup by decide) ?_
   first | exact ⟨_, _, _, sp_e (by assumption) hFt0, rfl, by omega, hi, rfl⟩ | exact ⟨_, _, _, sp_0 (by assumption) hFk hFz (by assumption), rfl, by rw [List.length_append]; have g1 := cutS_len (s := s) (l := 0) (h := k) (by omega); have g2 := cutS_len (s := s) (l := k + 1) (h := s.length) (by omega); omega, hi, rfl⟩ | exact ⟨_, _, _, sp_1 (by assumption) hFk hFz (by assumption) (by assumption) hFb, rfl, by rw [List.length_append, List.length_append]; have g1 := cutS_len (s := s) (l := 0) (h := k) (by omega); have g2 := cutS_len (s := s) (l := k) (h := s.length) (by omega); have g3 : (oneB b).length = 1 := rfl; omega, hi, rfl⟩ | exact ⟨_, _, _, sp_2 (by assumption) hFk hFz (by assumption) (by assumption) (by assumption), rfl, by have g1 := cutS_len (s := s) (l := 0) (h := k) (by omega); omega, hi, rfl⟩ | exact ⟨_, _, _, sp_3 (by assumption) hFk hFz (by assumption) (by assumption) (by assumption) hy hFx1, rfl, by rw [List.length_append, List.length_append]; have g1 := cutS_len (s := s) (l := 0) (h := k) (by omega); have g2 := cutS_len (s := s) (l := k + 1) (h := s.length) (by omega); have g3 : (oneB (bxor (IntKind.wrap .i64 (y.toNat : Int)) (1 + x1))).length = 1 := rfl; omega, hi, rfl⟩
 intro h3
 try rw [nnp] at h3
 refine Ef (Eg (Ea (o_eql rfl rfl) (Ea (Ee rfl) (Ed (Ec (Eb [0, 1, 5, 42] rfl ?_))))))
 first | refine Em rfl ?_ ?_ | refine Ek rfl ?_ ?_
 intro h4
 try rw [nnp] at h4
 refine Ef (Eg (Ea (Ee rfl) (Ea (Ee rfl) (Ea (o_slsb rfl rfl rfl (by omega)) (Ea (Ee rfl) (Ed (Ec (Eb [4] rfl (Ej (q_blkR (Eu ?_)))))))))))
 · refine Ei [] (.inr rfl) rfl rfl rfl rfl (show (List.range 1 ++ []).Nodup by decide) ?_
   first | exact ⟨_, _, _, sp_e (by assumption) hFt0, rfl, by omega, hi, rfl⟩ | exact ⟨_, _, _, sp_0 (by assumption) hFk hFz (by assumption), rfl, by rw [List.length_append]; have g1 := cutS_len (s := s) (l := 0) (h := k) (by omega); have g2 := cutS_len (s := s) (l := k + 1) (h := s.length) (by omega); omega, hi, rfl⟩ | exact ⟨_, _, _, sp_1 (by assumption) hFk hFz (by assumption) (by assumption) hFb, rfl, by rw [List.length_append, List.length_append]; have g1 := cutS_len (s := s) (l := 0) (h := k) (by omega); have g2 := cutS_len (s := s) (l := k) (h := s.length) (by omega); have g3 : (oneB b).length = 1 := rfl; omega, hi, rfl⟩ | exact ⟨_, _, _, sp_2 (by assumption) hFk hFz (by assumption) (by assumption) (by assumption), rfl, by have g1 := cutS_len (s := s) (l := 0) (h := k) (by omega); omega, hi, rfl⟩ | exact ⟨_, _, _, sp_3 (by assumption) hFk hFz (by assumption) (by assumption) (by assumption) hy hFx1, rfl, by rw [List.length_append, List.length_append]; have g1 := cutS_len (s := s) (l := 0) (h := k) (by omega); have g2 := cutS_len (s := s) (l := k + 1) (h := s.length) (by omega); have g3 : (oneB (bxor (IntKind.wrap .i64 (y.toNat : Int)) (1 + x1))).length = 1 := rfl; omega, hi, rfl⟩
 intro h4
 try rw [nnp] at h4
 refine Et (q_blkN (Ec (Eb [0, 1, 5] rfl (Ef (s_rgH [0] rfl (h_op (Ee rfl) rfl (h_op (Ee rfl) rfl (h_op (o_slsb rfl rfl rfl (by omega)) rfl (h_op (Ee rfl) rfl (h_op (Ee rfl) rfl (h_op (o_ixb rfl rfl hk1.1 hy) rfl ?_)))))))))))
 refine h_op (o_cvi rfl) rfl (h_op (Ee rfl) rfl (h_callG [0] [] rfl rfl rfl rfl rfl rfl (by simp) rfl (cgf_228 _ hc _ _ hi _) (by simp) ?_))
 rintro u L1 ⟨x1, i, h, hFx1, rfl, hx1, hi, rfl⟩
 refine ⟨rfl, _, _, _, _, rfl, rfl, rfl, rfl, ?_⟩
 first | refine h_op (o_addn rfl rfl (by omega)) rfl ?_ | refine h_op (o_add rfl rfl) rfl ?_
 refine h_op (o_bxor rfl rfl) rfl (h_op (o_cvi rfl) rfl (h_op (o_bs rfl rfl rfl rfl) rfl (h_op (o_cvbs1 rfl rfl (wrap_u8 _)) rfl (h_op (o_adds rfl rfl (by simp only [List.length_append, List.length_drop, List.length_take, List.length_cons, List.length_nil]; omega)) rfl (h_op (Ee rfl) rfl (h_op (Ee rfl) rfl ?_))))))
 first | refine h_op (o_addn rfl rfl (by omega)) rfl ?_ | refine h_op (o_add rfl rfl) rfl ?_
 refine h_op (o_slsb rfl rfl rfl (by omega)) rfl (h_bar rfl (Fd (is := [61, 65]) rfl (Ea (o_adds rfl rfl (by simp only [List.length_append, List.length_drop, List.length_take, List.length_cons, List.length_nil]; omega)) (Ea (Ee rfl) (Ed (Ec (Eb [4] rfl (Ej ?_))))))))
 · refine Ei [] (.inr rfl) rfl rfl rfl rfl (show (List.range 1 ++ []).Nodup by decide) ?_
   first | exact ⟨_, _, _, sp_e (by assumption) hFt0, rfl, by omega, hi, rfl⟩ | exact ⟨_, _, _, sp_0 (by assumption) hFk hFz (by assumption), rfl, by rw [List.length_append]; have g1 := cutS_len (s := s) (l := 0) (h := k) (by omega); have g2 := cutS_len (s := s) (l := k + 1) (h := s.length) (by omega); omega, hi, rfl⟩ | exact ⟨_, _, _, sp_1 (by assumption) hFk hFz (by assumption) (by assumption) hFb, rfl, by rw [List.length_append, List.length_append]; have g1 := cutS_len (s := s) (l := 0) (h := k) (by omega); have g2 := cutS_len (s := s) (l := k) (h := s.length) (by omega); have g3 : (oneB b).length = 1 := rfl; omega, hi, rfl⟩ | exact ⟨_, _, _, sp_2 (by assumption) hFk hFz (by assumption) (by assumption) (by assumption), rfl, by have g1 := cutS_len (s := s) (l := 0) (h := k) (by omega); omega, hi, rfl⟩ | exact ⟨_, _, _, sp_3 (by assumption) hFk hFz (by assumption) (by assumption) (by assumption) hy hFx1, rfl, by rw [List.length_append, List.length_append]; have g1 := cutS_len (s := s) (l := 0) (h := k) (by omega); have g2 := cutS_len (s := s) (l := k + 1) (h := s.length) (by omega); have g3 : (oneB (bxor (IntKind.wrap .i64 (y.toNat : Int)) (1 + x1))).length = 1 := rfl; omega, hi, rfl⟩
def szN : List (List UInt8) := [[98, 121, 116, 101], [104, 97, 108, 102], [119, 111, 114, 100]]
def bstN : List (List UInt8) := [[111, 110, 101], [102, 111, 117, 114], [119, 114, 97, 112], [101, 105, 103, 104, 116]]
def wrW (b : Bool) : List UInt8 := if b = true then [119, 114, 105, 116, 101] else [114, 101, 97, 100]
def idxS (xs : List (List UInt8)) (w : List UInt8) : Int := idxOf (fun x => decide (x = w)) xs
theorem nums_next {ws : List (List UInt8)} {i : Nat} {w : List UInt8} (h : ws[i]? = some w) : ((ws.take (i + 1)).map fun w => (numN w 18).1).map iR = ((ws.take i).map fun w => (numN w 18).1).map iR ++ [iR (numN w 18).1] := by
 rw [take_get h, List.map_append, List.map_append]; rfl
theorem c_465  : CV prg 465 [] (fun res => res = .sl 1 (szN.map stR)) := by
 refine cv_in g465 (Eb [] rfl (Ef (Eg (Ea (Ee rfl) (Ed (Ec (Eb [] rfl (Ef (Eg (Ea (o_bs rfl rfl rfl rfl) (Ea (Ee rfl) ?_)))))))))))
 refine Ed (Ec (Eb [0] rfl (Ej ?_)))
 · refine ret_leafA (.inr rfl) rfl rfl rfl ?_
   rfl
theorem c_466  : CV prg 466 [] (fun res => res = .sl 1 (bstN.map stR)) := by
 refine cv_in g466 (Eb [] rfl (Ef (Eg (Ea (Ee rfl) (Ed (Ec (Eb [] rfl (Ef (Eg (Ea (o_bs rfl rfl rfl rfl) (Ea (Ee rfl) ?_)))))))))))
 refine Ed (Ec (Eb [0] rfl (Ej ?_)))
 · refine ret_leafA (.inr rfl) rfl rfl rfl ?_
   rfl
theorem c_468 (b : Bool) : CV prg 468 [.w (.bool b)] (fun res => res = .w (.string ⟨(wrW b).toArray⟩)) := by
 refine cv_in g468 (Eb [0] rfl (Ef (Eg (Ea (Ee rfl) (Ed (Ec (Eb [0] rfl (Ef (Ef (Eg (Ea (Ee rfl) ?_)))))))))))
 refine Ed (Ec (Eb [3] rfl ?_))
 first | refine Em rfl ?_ ?_ | refine s_condN rfl ?_ ?_ | refine s_condNB rfl ?_ ?_ | refine Ek rfl ?_ ?_
 intro h1
 try rw [nnp] at h1
 refine Ef (Eg (Ea (Ee rfl) (Ed (Ec (Eb [2] rfl (Ej (Eu (ret_leafR rfl rfl ?_))))))))
 rotate_left
 intro h1
 try rw [nnp] at h1
 refine Et (Ec (Eb [] rfl (Ef (Eg (Ea (Ee rfl) (Ed (Ec (Eb [2] rfl (Ej (ret_leafR rfl rfl ?_))))))))))
 rotate_left
 all_goals
  simp_all [wrW]
theorem c_464 (xs : List (List UInt8)) (w : List UInt8) (hl : xs.length ≤ 1048577) : CV prg 464 [.sl 1 (xs.map stR), .w (.string ⟨(w).toArray⟩)] (fun res => res = .w (.int .i64 (idxS xs w))) := by
 refine cv_in g464 (Eb [0, 1] rfl (Ef (Eg (Ea (Ee rfl) (Ed (Ec (Eb [0, 1] rfl (Ef (Ef (Eg (Ea (Ee rfl) ?_)))))))))))
 first | refine Ea (o_lenM rfl) ?_ | refine Ea (o_len rfl) ?_
 refine Ea (Ee rfl) (Ed (Ec (Eb [0, 1, 7, 8] rfl (Fb (S_loop0 (ι := Nat) (fun i => i ≤ xs.length ∧ (xs.take i).any (fun x => decide (x = w)) = false) (fun i => [(8, .w (.int .i64 (i : Int)))]) (fun i => xs.length - i) 0 (by simp) rfl ⟨rfl, trivial⟩ (fun _ _ => rfl) rfl ?_)))))
 intro i hi
 refine Eb [0, 1, 7, 8] rfl (Ef (Eg (Ea (o_lss rfl rfl) (Ed (Ec (Eb [0, 1, 7, 8, 9] rfl (Ef ?_)))))))
 first | refine Em rfl ?_ ?_ | refine Ek rfl ?_ ?_
 intro h1
 try rw [nnp] at h1
 first | have h1' := Eq.symm h1 | have h1' := Ne.symm h1 | skip
 refine Et (Ec (Eb [0, 1, 7, 8] rfl (Ef (Fb (Ef (Eg (Ea (Ee rfl) (Ea (Ee rfl) (Ed (Ec (Eb [0, 1, 5, 7, 8] rfl ?_)))))))))))
 refine Ef (Eg (Ea (Ee rfl) (Ea (Ee rfl) (Ea (Ee rfl) (s_iaM rfl rfl (by omega) ?_)))))
 intro y2 e2
 try simp only [Int.toNat_natCast, Int.toNat_zero] at e2
 refine Ea (o_ld rfl rfl) (Ea (o_eqls rfl rfl) (Ed (Ec (Eb [0, 1, 5, 7, 8, 16] rfl ?_))))
 first | refine Em rfl ?_ ?_ | refine Ek rfl ?_ ?_
 intro h3
 try rw [nnp] at h3
 first | have h3' := Eq.symm h3 | have h3' := Ne.symm h3 | skip
 refine Ef (Eg (Ea (Ee rfl) (Ea (Ee rfl) (Ed (Ec (Eb [4] rfl (Ej (q_blkR (Eu (q_loopR (q_blkR ?_)))))))))))
 refine Eu (ret_leafIR rfl rfl ?_)
 rotate_left
 intro h3
 try rw [nnp] at h3
 first | have h3' := Eq.symm h3 | have h3' := Ne.symm h3 | skip
 refine Et (q_blkN (Ec (Eb [0, 1, 7, 8] rfl (Eg ?_))))
 first | refine Ea (o_addn rfl rfl (by omega)) ?_ | refine Ea (o_add rfl rfl) ?_
 refine Ea (Ee rfl) (Ed (q_loopN ?_))
 · exact ⟨i + 1, ⟨by omega, any_take (by assumption) hi.2 (decide_eq_false (by assumption))⟩, by omega, hasOf ⟨rfl, trivial⟩ rfl⟩
 intro h1
 try rw [nnp] at h1
 first | have h1' := Eq.symm h1 | have h1' := Ne.symm h1 | skip
 refine s_exit (q_seqX (q_loopX (q_blkH (Ec (Eb [] rfl (Ef (Eg (Ea (Ee rfl) (Ed (Ec (Eb [4] rfl ?_)))))))))))
 refine Ej (ret_leafIR rfl rfl ?_)
 rotate_left
 all_goals
  first | exact (idxOf_at (by assumption) hi.2 (decide_eq_true (by assumption))).symm | exact (idxOf_no (any_end hi.2 (by omega))).symm
theorem c_460 (xs : List (List UInt8)) (w : List UInt8) (hl : xs.length ≤ 1048577) : CV prg 460 [.sl 1 (xs.map stR), .w (.string ⟨(w).toArray⟩)] (fun res => res = .w (.int .i64 (idxS xs w))) := by
 refine cv_in g460 (Eb [0, 1] rfl (Ef (Eg (Ea (Ee rfl) (Ed (Ec (Eb [0, 1] rfl (Ef (Ef (Eg (Ea (Ee rfl) ?_)))))))))))
 refine Ed (Ec (Eb [0, 1, 5] rfl (Fb (S_loop0 (ι := Nat) (fun i => i ≤ xs.length ∧ (xs.take i).any (fun x => decide (x = w)) = false) (fun i => [(5, .w (.int .i64 (i : Int)))]) (fun i => xs.length - i) 0 (by simp) rfl ⟨rfl, trivial⟩ (fun _ _ => rfl) rfl ?_))))
 intro i hi
 refine Eb [0, 1, 5] rfl (Ef (Ef (Eg (Ea (Ee rfl) (Ea (Ee rfl) ?_)))))
 first | refine Ea (o_lenM rfl) ?_ | refine Ea (o_len rfl) ?_
 refine Ea (o_lss rfl rfl) (Ed (Ec (Eb [0, 1, 5, 9] rfl ?_)))
 first | refine Em rfl ?_ ?_ | refine Ek rfl ?_ ?_
 intro h1
 try rw [nnp] at h1
 first | have h1' := Eq.symm h1 | have h1' := Ne.symm h1 | skip
 refine Et (Ec (Eb [0, 1, 5] rfl (Ef (Fb (Ef (Eg (Ea (Ee rfl) (Ea (Ee rfl) (s_iaM rfl rfl (by omega) ?_)))))))))
 intro y2 e2
 try simp only [Int.toNat_natCast, Int.toNat_zero] at e2
 refine Ea (o_ld rfl rfl) (Ea (Ee rfl) (Ea (o_eqls rfl rfl) (Ed (Ec (Eb [0, 1, 5, 17] rfl ?_)))))
 first | refine Em rfl ?_ ?_ | refine Ek rfl ?_ ?_
 intro h3
 try rw [nnp] at h3
 first | have h3' := Eq.symm h3 | have h3' := Ne.symm h3 | skip
 refine Ef (Eg (Ea (Ee rfl) (Ea (Ee rfl) (Ed (Ec (Eb [4] rfl (Ej (q_blkR (Eu (q_loopR (q_blkR ?_)))))))))))
 refine Eu (ret_leafIR rfl rfl ?_)
 rotate_left
 intro h3
 try rw [nnp] at h3
 first | have h3' := Eq.symm h3 | have h3' := Ne.symm h3 | skip
 refine Et (q_blkN (Ec (Eb [0, 1, 5] rfl (Eg (Ea (Ee rfl) ?_)))))
 first | refine Ea (o_addn rfl rfl (by omega)) ?_ | refine Ea (o_add rfl rfl) ?_
 refine Ea (Ee rfl) (Ed (q_loopN ?_))
 · exact ⟨i + 1, ⟨by omega, any_take (by assumption) hi.2 (decide_eq_false (by assumption))⟩, by omega, hasOf ⟨rfl, trivial⟩ rfl⟩
 intro h1
 try rw [nnp] at h1
 first | have h1' := Eq.symm h1 | have h1' := Ne.symm h1 | skip
 refine s_exit (q_seqX (q_loopX (q_blkH (Ec (Eb [] rfl (Ef (Eg (Ea (Ee rfl) (Ed (Ec (Eb [4] rfl ?_)))))))))))
 refine Ej (ret_leafIR rfl rfl ?_)
 rotate_left
 all_goals
  first | exact (idxOf_at (by assumption) hi.2 (decide_eq_true (by assumption))).symm | exact (idxOf_no (any_end hi.2 (by omega))).symm
theorem c_459 (s : List UInt8) (hs : s.length ≤ 1048576) : CV prg 459 [.w (.string ⟨(s).toArray⟩), .w (.int .u8 32)] (fun res => res = .sl 1 ((cutL 32 s).map stR)) := by
 refine cv_in g459 (Eb [0, 1] rfl (Ef (Eg (Ea (Ee rfl) (Ed (Ec (Eb [0, 1] rfl (Ef (Eg (Ea (o_bs rfl rfl rfl rfl) (Ea (Ee rfl) ?_)))))))))))
 refine Ed (Ec (Eb [0, 1, 5] rfl (Ef (Eg (Ea (Ee rfl) (Ed (Ec (Eb [0, 1, 5, 6] rfl (Ef (Ef (Eg ?_)))))))))))
 refine Ea (Ee rfl) (Ed (Ec (Eb [0, 1, 5, 6, 7] rfl (Fb (S_loop (ι := Nat × Nat × List (List UInt8)) (fun p => CutI s p.2.2 p.2.1 p.1) (fun p => [(5, .ls 0 (p.2.2.map stR).length), (6, .w (.int .i64 (p.2.1 : Int))), (7, .w (.int .i64 (p.1 : Int)))]) (fun p => [.arr 1 (p.2.2.map stR)]) (fun p => s.length - p.1) 1 (0, 0, []) (CutI.start s) rfl (hasOf ⟨rfl, rfl, rfl, trivial⟩ rfl) rfl (fun _ _ => rfl) (fun _ _ => ⟨rfl, rfl⟩) ?_)))))
 rintro ⟨i, a, out⟩ hI
 simp only at hI
 have hol := hI.len
 have hml : (out.map stR).length = out.length := List.length_map ..
 have hia := hI.1
 have hil := hI.2.1
 refine Eb [0, 1, 5, 6, 7] rfl ?_
 dsimp only
 refine Ef (Ef (Eg (Ea (Ee rfl) (Ea (Ee rfl) (Ea (o_lenb rfl) (Ea (o_lss rfl rfl) (Ed (Ec (Eb [0, 1, 5, 6, 7, 12] rfl ?_)))))))))
 first | refine Em rfl ?_ ?_ | refine Ek rfl ?_ ?_
 intro h1
 try rw [nnp] at h1
 refine Et (Ec (Eb [0, 1, 5, 6, 7] rfl (Ef (Fb (Ef (Eg (Ea (Ee rfl) (Ea (Ee rfl) (s_ixM rfl rfl (by omega) ?_)))))))))
 intro y2 e2
 simp only [Int.toNat_natCast] at e2
 refine Ea (Ee rfl) (Ea (o_eql rfl rfl) (Ed (Ec (Eb [0, 1, 5, 6, 7, 19] rfl ?_))))
 first | refine Em rfl ?_ ?_ | refine Ek rfl ?_ ?_
 intro h3
 try rw [nnp] at h3
 refine Ef (Eg (Ea (Ee rfl) (Ea (Ee rfl) (Ea (Ee rfl) (Ea (Ee rfl) (Ea (o_slsb rfl rfl rfl (by omega)) (Ea (o_bs rfl rfl rfl rfl) ?_)))))))
 first | refine Ea (o_appL rfl rfl rfl rfl rfl rfl rfl (by simp [roomy]; omega)) ?_ | refine Ea (o_app rfl rfl rfl rfl rfl (by simp [roomy]; omega)) ?_
 refine Ea (Ee rfl) (Ed (Ec (Eb [0, 1, 5, 7] rfl (Eg (Ea (Ee rfl) ?_)))))
 first | refine Ea (o_addn rfl rfl (by omega)) ?_ | refine Ea (o_add rfl rfl) ?_
 refine Ea (Ee rfl) (Ed (q_blkN (Ec (Eb [0, 1, 5, 6, 7] rfl (Eg (Ea (Ee rfl) ?_))))))
 first | refine Ea (o_addn rfl rfl (by omega)) ?_ | refine Ea (o_add rfl rfl) ?_
 refine Ea (Ee rfl) (Ed (q_loopN ?_))
 · first | exact ⟨(i + 1, a, out), hI.no (by assumption) (by assumption), by simp only; omega, hasOf ⟨rfl, rfl, rfl, trivial⟩ rfl⟩ | (refine ⟨(i + 1, i + 1, out ++ [_]), hI.yes (by assumption) (by assumption), by simp only; omega, hasOf ⟨?_, rfl, rfl, trivial⟩ ?_⟩ <;> simp only [stR_snoc] <;> rfl)
 intro h3
 try rw [nnp] at h3
 refine Et (q_blkN (Ec (Eb [0, 1, 5, 6, 7] rfl (Eg (Ea (Ee rfl) ?_)))))
 first | refine Ea (o_addn rfl rfl (by omega)) ?_ | refine Ea (o_add rfl rfl) ?_
 refine Ea (Ee rfl) (Ed (q_loopN ?_))
 · first | exact ⟨(i + 1, a, out), hI.no (by assumption) (by assumption), by simp only; omega, hasOf ⟨rfl, rfl, rfl, trivial⟩ rfl⟩ | (refine ⟨(i + 1, i + 1, out ++ [_]), hI.yes (by assumption) (by assumption), by simp only; omega, hasOf ⟨?_, rfl, rfl, trivial⟩ ?_⟩ <;> simp only [stR_snoc] <;> rfl)
 intro h1
 try rw [nnp] at h1
 refine s_exit (q_seqX (q_loopX (q_blkH (Ec (Eb [0, 5, 6] rfl (Ef (Eg (Ea (Ee rfl) (Ea (Ee rfl) (Ea (Ee rfl) (Ea (o_slsb rfl rfl rfl (by omega)) ?_)))))))))))
 refine Ea (o_bs rfl rfl rfl rfl) ?_
 first | refine Ea (o_appL rfl rfl rfl rfl rfl rfl rfl (by simp [roomy]; omega)) ?_ | refine Ea (o_app rfl rfl rfl rfl rfl (by simp [roomy]; omega)) ?_
 refine Ea (Ee rfl) (Ed (Ec (Eb [4] rfl (Ej ?_))))
 · refine ret_leafA (.inr rfl) rfl rfl rfl ?_
   rw [← hI.stop (by assumption), stR_snoc]; rfl
theorem c_461 (s : List UInt8) (hs : s.length ≤ 1048576) : CV prg 461 [.w (.string ⟨(s).toArray⟩)] (fun res => res = .w (.int .i64 (numS s))) := by
 refine cv_in g461 (Eb [0] rfl (Ef (Eg (Ea (Ee rfl) (Ed (Ec (Eb [0] rfl (Ef (Eg (Ea (Ee rfl) (Ed ?_)))))))))))
 refine Ec (Eb [0, 3] rfl (Ef (Ef (Eg (Ea (Ee rfl) (Ea (o_lenb rfl) (Ea (o_gtr rfl rfl) (Ea (Ee rfl) ?_))))))))
 first | refine s_gDT rfl ?_ ?_ | refine s_gB rfl ?_ ?_
 intro h1
 try rw [nnp] at h1
 refine Ea (Ee rfl) (Ev rfl (s_ixM rfl rfl (by omega) ?_))
 intro y2 e2
 first | (simp only [Int.toNat_natCast] at e2; obtain rfl := Option.some.inj ((hx0 (by omega)).symm.trans e2)) | skip
 refine Ev rfl (Ea (o_eql rfl rfl) (Ea (Er rfl rfl) (Ed (Ec (Eb [0, 3, 13] rfl ?_)))))
 first | refine Em rfl ?_ ?_ | refine Ek rfl ?_ ?_
 intro h3
 try rw [nnp] at h3
 refine Ef (Eg (Ea (Ee rfl) (Ed (Ec (Eb [0, 3] rfl (Eg (Ea (Ee rfl) (Ea (o_slsb rfl rfl rfl (by omega)) (Ea (Ee rfl) (Ed (Ec ?_)))))))))))
 refine Eb [0, 3] rfl (Ef (Eg (Ea (Ee rfl) (Ed (Ec (Eb [0, 3, 4] rfl (Ef (Ef (Eg (Ea (Ee rfl) (Ed ?_)))))))))))
 refine Ec (Eb [0, 3, 4, 5] rfl (Fb ?_))
 first | (have hS := numS_neg (by assumption) (by assumption); have htl := tailN_len hs; unfold tailN at hS htl; generalize (s.take ((s.length : Int)).toNat).drop (Int.toNat 1) = t at hS htl ⊢) | (have hS := numS_pos (by assumption) (by assumption); have htl := hs; rename List UInt8 => t) | (have hS := numS_nil (by assumption); have htl := hs; rename List UInt8 => t)
 refine S_loop0 (ι := Nat) (fun i => NumI t i) (fun i => [(4, .w (.int .i64 ((valN 0 (t.take i) : Nat) : Int))), (5, .w (.int .i64 (i : Int)))]) (fun i => t.length - i) 0 ⟨Nat.zero_le _, by simp, .inl rfl⟩ rfl ⟨rfl, rfl, trivial⟩ (fun _ _ => rfl) rfl ?_
 intro i hi
 have hnb := hi.bd
 obtain ⟨x0, hx0⟩ : ∃ x, i < t.length → t[i]? = some x := by
  by_cases h : i < t.length
  · exact ⟨t[i], fun _ => List.getElem?_eq_getElem h⟩
  · exact ⟨0, fun h2 => absurd h2 h⟩
 have hnl := hi.1
 refine Eb [0, 3, 4, 5] rfl (Ef (Ef (Eg (Ea (Ee rfl) (Ea (Ee rfl) (Ea (o_lenb rfl) (Ea (o_lss rfl rfl) (Ed (Ec (Eb [0, 3, 4, 5, 19] rfl ?_))))))))))
 first | refine Em rfl ?_ ?_ | refine Ek rfl ?_ ?_
 intro h4
 try rw [nnp] at h4
 refine Et (Ec (Eb [0, 3, 4, 5] rfl (Ef (Fb (Ef (Ef (Eg (Ea (Ee rfl) (Ea (Ee rfl) (s_ixM rfl rfl (by omega) ?_))))))))))
 intro y5 e5
 first | (simp only [Int.toNat_natCast] at e5; obtain rfl := Option.some.inj ((hx0 (by omega)).symm.trans e5)) | skip
 refine Ea (o_lss rfl rfl) (Ea (Ee rfl) ?_)
 first | refine s_gDF rfl ?_ ?_ | refine s_gB rfl ?_ ?_
 intro h6
 try rw [nnp] at h6
 refine Ea (Ee rfl) (Ev rfl (Ea (Ee rfl) (Ev rfl (s_ixM rfl rfl (by omega) ?_))))
 intro y7 e7
 first | (simp only [Int.toNat_natCast] at e7; obtain rfl := Option.some.inj ((hx0 (by omega)).symm.trans e7)) | skip
 refine Ev rfl (Ea (o_gtr rfl rfl) (Ea (En rfl rfl) (Ea (Ee rfl) ?_)))
 first | refine s_gDF rfl ?_ ?_ | refine s_gB rfl ?_ ?_
 intro h8
 try rw [nnp] at h8
 refine Ea (Ee rfl) (Ev rfl (Ea (o_lenb rfl) (Ev rfl (Ea (o_gtr rfl rfl) (Ea (En rfl rfl) (Ed (Ec (Eb [0, 3, 4, 5, 27, 28, 29, 30, 33, 34, 35, 36] rfl ?_))))))))
 first | refine Em rfl ?_ ?_ | refine Ek rfl ?_ ?_
 intro h9
 try rw [nnp] at h9
 refine Ef (Eg (Ea (Ee rfl) (Ed (Ec (Eb [2] rfl (Ej (Eu (q_blkR (Eu (q_loopR (q_blkR ?_)))))))))))
 refine Eu (ret_leafR rfl rfl ?_)
 rotate_left
 intro h9
 try rw [nnp] at h9
 refine Et (Ec (Eb [0, 3, 4, 5, 27, 28, 29, 30, 33, 34, 35] rfl (Eg ?_)))
 have hn17 := hi.bd17 (by omega) (by omega)
 refine Ea (Ee rfl) ?_
 first | refine Ea (o_muln rfl rfl (by omega)) ?_ | refine Ea (o_mul rfl rfl) ?_
 refine Ea (Ee rfl) (Ea (Ee rfl) (s_ixM rfl rfl (by omega) ?_))
 intro y10 e10
 first | (simp only [Int.toNat_natCast] at e10; obtain rfl := Option.some.inj ((hx0 (by omega)).symm.trans e10)) | skip
 refine Ea (o_cvi rfl) ?_
 rw [wrap_in (x0.toNat : Int) (by have := x0.toNat_lt; omega)]
 have hxl := x0.toNat_lt
 first | refine Ea (o_addn rfl rfl (by omega)) ?_ | refine Ea (o_add rfl rfl) ?_
 first | refine Ea (o_subn rfl rfl (by omega)) ?_ | refine Ea (o_sub rfl rfl) ?_
 refine Ea (Ee rfl) (Ed (q_blkN (Ec (Eb [0, 3, 4, 5, 27, 28, 29, 30, 33, 34, 35] rfl (Eg (Ea (Ee rfl) ?_))))))
 first | refine Ea (o_addn rfl rfl (by omega)) ?_ | refine Ea (o_add rfl rfl) ?_
 refine Ea (Ee rfl) (Ed (q_loopN ?_))
 · obtain ⟨g1, g2⟩ := hi.next (hx0 (by omega)) (by assumption) (by assumption) (by assumption)
   exact ⟨i + 1, g1, by omega, hasOf ⟨congrArg (fun b => some (V.w (.int .i64 b))) g2.symm, rfl, trivial⟩ rfl⟩
 intro h8
 try rw [nnp] at h8
 refine Eh rfl (Eh rfl (Eh rfl (Ea (Er rfl rfl) (Ed (Ec (Eb [0, 3, 4, 5, 27, 28, 29, 30, 33, 34, 35, 36] rfl (s_condT rfl (Ef (Eg (Ea (Ee rfl) (Ed ?_)))))))))))
 refine Ec (Eb [2] rfl (Ej (Eu (q_blkR (Eu (q_loopR (q_blkR (Eu (ret_leafR rfl rfl ?_)))))))))
 rotate_left
 intro h6
 try rw [nnp] at h6
 refine Eh rfl (Eh rfl (Eh rfl (Eh rfl (Ea (Er rfl rfl) (Ea (Ee rfl) (Eh rfl (Eh rfl (Eh rfl (Ea (Er rfl rfl) (Ed (Ec ?_)))))))))))
 refine Eb [0, 3, 4, 5, 27, 28, 29, 30, 33, 34, 35, 36] rfl (s_condT rfl (Ef (Eg (Ea (Ee rfl) (Ed (Ec (Eb [2] rfl (Ej (Eu (q_blkR (Eu ?_)))))))))))
 refine q_loopR (q_blkR (Eu (ret_leafR rfl rfl ?_)))
 rotate_left
 intro h4
 try rw [nnp] at h4
 refine s_exit (q_seqX (q_loopX (q_blkH (Ec (Eb [3, 4] rfl (Ef (Eg (Ea (Ee rfl) (Ea (Ee rfl) ?_)))))))))
 first | refine Ea (o_muln rfl rfl (by omega)) ?_ | refine Ea (o_mul rfl rfl) ?_
 refine Ea (Ee rfl) (Ed (Ec (Eb [2] rfl (Ej (ret_leafR rfl rfl ?_)))))
 rotate_left
 intro h3
 try rw [nnp] at h3
 refine Et (Ec (Eb [0, 3] rfl (Ef (Eg (Ea (Ee rfl) (Ed (Ec (Eb [0, 3, 4] rfl (Ef (Ef (Eg ?_)))))))))))
 refine Ea (Ee rfl) (Ed (Ec (Eb [0, 3, 4, 5] rfl (Fb ?_))))
 first | (have hS := numS_neg (by assumption) (by assumption); have htl := tailN_len hs; unfold tailN at hS htl; generalize (s.take ((s.length : Int)).toNat).drop (Int.toNat 1) = t at hS htl ⊢) | (have hS := numS_pos (by assumption) (by assumption); have htl := hs; rename List UInt8 => t) | (have hS := numS_nil (by assumption); have htl := hs; rename List UInt8 => t)
 refine S_loop0 (ι := Nat) (fun i => NumI t i) (fun i => [(4, .w (.int .i64 ((valN 0 (t.take i) : Nat) : Int))), (5, .w (.int .i64 (i : Int)))]) (fun i => t.length - i) 0 ⟨Nat.zero_le _, by simp, .inl rfl⟩ rfl ⟨rfl, rfl, trivial⟩ (fun _ _ => rfl) rfl ?_
 intro i hi
 have hnb := hi.bd
 obtain ⟨x0, hx0⟩ : ∃ x, i < t.length → t[i]? = some x := by
  by_cases h : i < t.length
  · exact ⟨t[i], fun _ => List.getElem?_eq_getElem h⟩
  · exact ⟨0, fun h2 => absurd h2 h⟩
 have hnl := hi.1
 refine Eb [0, 3, 4, 5] rfl (Ef (Ef (Eg (Ea (Ee rfl) (Ea (Ee rfl) (Ea (o_lenb rfl) (Ea (o_lss rfl rfl) (Ed (Ec (Eb [0, 3, 4, 5, 19] rfl ?_))))))))))
 first | refine Em rfl ?_ ?_ | refine Ek rfl ?_ ?_
 intro h11
 try rw [nnp] at h11
 refine Et (Ec (Eb [0, 3, 4, 5] rfl (Ef (Fb (Ef (Ef (Eg (Ea (Ee rfl) (Ea (Ee rfl) (s_ixM rfl rfl (by omega) ?_))))))))))
 intro y12 e12
 first | (simp only [Int.toNat_natCast] at e12; obtain rfl := Option.some.inj ((hx0 (by omega)).symm.trans e12)) | skip
 refine Ea (o_lss rfl rfl) (Ea (Ee rfl) ?_)
 first | refine s_gDF rfl ?_ ?_ | refine s_gB rfl ?_ ?_
 intro h13
 try rw [nnp] at h13
 refine Ea (Ee rfl) (Ev rfl (Ea (Ee rfl) (Ev rfl (s_ixM rfl rfl (by omega) ?_))))
 intro y14 e14
 first | (simp only [Int.toNat_natCast] at e14; obtain rfl := Option.some.inj ((hx0 (by omega)).symm.trans e14)) | skip
 refine Ev rfl (Ea (o_gtr rfl rfl) (Ea (En rfl rfl) (Ea (Ee rfl) ?_)))
 first | refine s_gDF rfl ?_ ?_ | refine s_gB rfl ?_ ?_
 intro h15
 try rw [nnp] at h15
 refine Ea (Ee rfl) (Ev rfl (Ea (o_lenb rfl) (Ev rfl (Ea (o_gtr rfl rfl) (Ea (En rfl rfl) (Ed (Ec (Eb [0, 3, 4, 5, 27, 28, 29, 30, 33, 34, 35, 36] rfl ?_))))))))
 first | refine Em rfl ?_ ?_ | refine Ek rfl ?_ ?_
 intro h16
 try rw [nnp] at h16
 refine Ef (Eg (Ea (Ee rfl) (Ed (Ec (Eb [2] rfl (Ej (Eu (q_blkR (Eu (q_loopR (q_blkR ?_)))))))))))
 refine Eu (ret_leafR rfl rfl ?_)
 rotate_left
 intro h16
 try rw [nnp] at h16
 refine Et (Ec (Eb [0, 3, 4, 5, 27, 28, 29, 30, 33, 34, 35] rfl (Eg ?_)))
 have hn17 := hi.bd17 (by omega) (by omega)
 refine Ea (Ee rfl) ?_
 first | refine Ea (o_muln rfl rfl (by omega)) ?_ | refine Ea (o_mul rfl rfl) ?_
 refine Ea (Ee rfl) (Ea (Ee rfl) (s_ixM rfl rfl (by omega) ?_))
 intro y17 e17
 first | (simp only [Int.toNat_natCast] at e17; obtain rfl := Option.some.inj ((hx0 (by omega)).symm.trans e17)) | skip
 refine Ea (o_cvi rfl) ?_
 rw [wrap_in (x0.toNat : Int) (by have := x0.toNat_lt; omega)]
 have hxl := x0.toNat_lt
 first | refine Ea (o_addn rfl rfl (by omega)) ?_ | refine Ea (o_add rfl rfl) ?_
 first | refine Ea (o_subn rfl rfl (by omega)) ?_ | refine Ea (o_sub rfl rfl) ?_
 refine Ea (Ee rfl) (Ed (q_blkN (Ec (Eb [0, 3, 4, 5, 27, 28, 29, 30, 33, 34, 35] rfl (Eg (Ea (Ee rfl) ?_))))))
 first | refine Ea (o_addn rfl rfl (by omega)) ?_ | refine Ea (o_add rfl rfl) ?_
 refine Ea (Ee rfl) (Ed (q_loopN ?_))
 · obtain ⟨g1, g2⟩ := hi.next (hx0 (by omega)) (by assumption) (by assumption) (by assumption)
   exact ⟨i + 1, g1, by omega, hasOf ⟨congrArg (fun b => some (V.w (.int .i64 b))) g2.symm, rfl, trivial⟩ rfl⟩
 intro h15
 try rw [nnp] at h15
 refine Eh rfl (Eh rfl (Eh rfl (Ea (Er rfl rfl) (Ed (Ec (Eb [0, 3, 4, 5, 27, 28, 29, 30, 33, 34, 35, 36] rfl (s_condT rfl (Ef (Eg (Ea (Ee rfl) (Ed ?_)))))))))))
 refine Ec (Eb [2] rfl (Ej (Eu (q_blkR (Eu (q_loopR (q_blkR (Eu (ret_leafR rfl rfl ?_)))))))))
 rotate_left
 intro h13
 try rw [nnp] at h13
 refine Eh rfl (Eh rfl (Eh rfl (Eh rfl (Ea (Er rfl rfl) (Ea (Ee rfl) (Eh rfl (Eh rfl (Eh rfl (Ea (Er rfl rfl) (Ed (Ec ?_)))))))))))
 refine Eb [0, 3, 4, 5, 27, 28, 29, 30, 33, 34, 35, 36] rfl (s_condT rfl (Ef (Eg (Ea (Ee rfl) (Ed (Ec (Eb [2] rfl (Ej (Eu (q_blkR (Eu ?_)))))))))))
 refine q_loopR (q_blkR (Eu (ret_leafR rfl rfl ?_)))
 rotate_left
 intro h11
 try rw [nnp] at h11
 refine s_exit (q_seqX (q_loopX (q_blkH (Ec (Eb [3, 4] rfl (Ef (Eg (Ea (Ee rfl) (Ea (Ee rfl) ?_)))))))))
 first | refine Ea (o_muln rfl rfl (by omega)) ?_ | refine Ea (o_mul rfl rfl) ?_
 refine Ea (Ee rfl) (Ed (Ec (Eb [2] rfl (Ej (ret_leafR rfl rfl ?_)))))
 rotate_left
 intro h1
 try rw [nnp] at h1
 refine Eh rfl (Eh rfl (Eh rfl (Ea (En rfl rfl) (Ed (Ec (Eb [0, 3, 13] rfl (s_condF rfl (Et (Ec (Eb [0, 3] rfl (Ef ?_)))))))))))
 refine Eg (Ea (Ee rfl) (Ed (Ec (Eb [0, 3, 4] rfl (Ef (Ef (Eg (Ea (Ee rfl) (Ed (Ec (Eb [0, 3, 4, 5] rfl ?_)))))))))))
 refine Fb ?_
 first | (have hS := numS_neg (by assumption) (by assumption); have htl := tailN_len hs; unfold tailN at hS htl; generalize (s.take ((s.length : Int)).toNat).drop (Int.toNat 1) = t at hS htl ⊢) | (have hS := numS_pos (by assumption) (by assumption); have htl := hs; rename List UInt8 => t) | (have hS := numS_nil (by assumption); have htl := hs; rename List UInt8 => t)
 refine S_loop0 (ι := Nat) (fun i => NumI t i) (fun i => [(4, .w (.int .i64 ((valN 0 (t.take i) : Nat) : Int))), (5, .w (.int .i64 (i : Int)))]) (fun i => t.length - i) 0 ⟨Nat.zero_le _, by simp, .inl rfl⟩ rfl ⟨rfl, rfl, trivial⟩ (fun _ _ => rfl) rfl ?_
 intro i hi
 have hnb := hi.bd
 obtain ⟨x0, hx0⟩ : ∃ x, i < t.length → t[i]? = some x := by
  by_cases h : i < t.length
  · exact ⟨t[i], fun _ => List.getElem?_eq_getElem h⟩
  · exact ⟨0, fun h2 => absurd h2 h⟩
 have hnl := hi.1
 refine Eb [0, 3, 4, 5] rfl (Ef (Ef (Eg (Ea (Ee rfl) (Ea (Ee rfl) (Ea (o_lenb rfl) (Ea (o_lss rfl rfl) (Ed (Ec (Eb [0, 3, 4, 5, 19] rfl ?_))))))))))
 first | refine Em rfl ?_ ?_ | refine Ek rfl ?_ ?_
 intro h18
 try rw [nnp] at h18
 refine Et (Ec (Eb [0, 3, 4, 5] rfl (Ef (Fb (Ef (Ef (Eg (Ea (Ee rfl) (Ea (Ee rfl) (s_ixM rfl rfl (by omega) ?_))))))))))
 intro y19 e19
 first | (simp only [Int.toNat_natCast] at e19; obtain rfl := Option.some.inj ((hx0 (by omega)).symm.trans e19)) | skip
 refine Ea (o_lss rfl rfl) (Ea (Ee rfl) ?_)
 first | refine s_gDF rfl ?_ ?_ | refine s_gB rfl ?_ ?_
 intro h20
 try rw [nnp] at h20
 refine Ea (Ee rfl) (Ev rfl (Ea (Ee rfl) (Ev rfl (s_ixM rfl rfl (by omega) ?_))))
 intro y21 e21
 first | (simp only [Int.toNat_natCast] at e21; obtain rfl := Option.some.inj ((hx0 (by omega)).symm.trans e21)) | skip
 refine Ev rfl (Ea (o_gtr rfl rfl) (Ea (En rfl rfl) (Ea (Ee rfl) ?_)))
 first | refine s_gDF rfl ?_ ?_ | refine s_gB rfl ?_ ?_
 intro h22
 try rw [nnp] at h22
 refine Ea (Ee rfl) (Ev rfl (Ea (o_lenb rfl) (Ev rfl (Ea (o_gtr rfl rfl) (Ea (En rfl rfl) (Ed (Ec (Eb [0, 3, 4, 5, 27, 28, 29, 30, 33, 34, 35, 36] rfl ?_))))))))
 first | refine Em rfl ?_ ?_ | refine Ek rfl ?_ ?_
 intro h23
 try rw [nnp] at h23
 refine Ef (Eg (Ea (Ee rfl) (Ed (Ec (Eb [2] rfl (Ej (Eu (q_blkR (Eu (q_loopR (q_blkR ?_)))))))))))
 refine Eu (ret_leafR rfl rfl ?_)
 rotate_left
 intro h23
 try rw [nnp] at h23
 refine Et (Ec (Eb [0, 3, 4, 5, 27, 28, 29, 30, 33, 34, 35] rfl (Eg ?_)))
 have hn17 := hi.bd17 (by omega) (by omega)
 refine Ea (Ee rfl) ?_
 first | refine Ea (o_muln rfl rfl (by omega)) ?_ | refine Ea (o_mul rfl rfl) ?_
 refine Ea (Ee rfl) (Ea (Ee rfl) (s_ixM rfl rfl (by omega) ?_))
 intro y24 e24
 first | (simp only [Int.toNat_natCast] at e24; obtain rfl := Option.some.inj ((hx0 (by omega)).symm.trans e24)) | skip
 refine Ea (o_cvi rfl) ?_
 rw [wrap_in (x0.toNat : Int) (by have := x0.toNat_lt; omega)]
 have hxl := x0.toNat_lt
 first | refine Ea (o_addn rfl rfl (by omega)) ?_ | refine Ea (o_add rfl rfl) ?_
 first | refine Ea (o_subn rfl rfl (by omega)) ?_ | refine Ea (o_sub rfl rfl) ?_
 refine Ea (Ee rfl) (Ed (q_blkN (Ec (Eb [0, 3, 4, 5, 27, 28, 29, 30, 33, 34, 35] rfl (Eg (Ea (Ee rfl) ?_))))))
 first | refine Ea (o_addn rfl rfl (by omega)) ?_ | refine Ea (o_add rfl rfl) ?_
 refine Ea (Ee rfl) (Ed (q_loopN ?_))
 · obtain ⟨g1, g2⟩ := hi.next (hx0 (by omega)) (by assumption) (by assumption) (by assumption)
   exact ⟨i + 1, g1, by omega, hasOf ⟨congrArg (fun b => some (V.w (.int .i64 b))) g2.symm, rfl, trivial⟩ rfl⟩
 intro h22
 try rw [nnp] at h22
 refine Eh rfl (Eh rfl (Eh rfl (Ea (Er rfl rfl) (Ed (Ec (Eb [0, 3, 4, 5, 27, 28, 29, 30, 33, 34, 35, 36] rfl (s_condT rfl (Ef (Eg (Ea (Ee rfl) (Ed ?_)))))))))))
 refine Ec (Eb [2] rfl (Ej (Eu (q_blkR (Eu (q_loopR (q_blkR (Eu (ret_leafR rfl rfl ?_)))))))))
 rotate_left
 intro h20
 try rw [nnp] at h20
 refine Eh rfl (Eh rfl (Eh rfl (Eh rfl (Ea (Er rfl rfl) (Ea (Ee rfl) (Eh rfl (Eh rfl (Eh rfl (Ea (Er rfl rfl) (Ed (Ec ?_)))))))))))
 refine Eb [0, 3, 4, 5, 27, 28, 29, 30, 33, 34, 35, 36] rfl (s_condT rfl (Ef (Eg (Ea (Ee rfl) (Ed (Ec (Eb [2] rfl (Ej (Eu (q_blkR (Eu ?_)))))))))))
 refine q_loopR (q_blkR (Eu (ret_leafR rfl rfl ?_)))
 rotate_left
 intro h18
 try rw [nnp] at h18
 refine s_exit (q_seqX (q_loopX (q_blkH (Ec (Eb [3, 4] rfl (Ef (Eg (Ea (Ee rfl) (Ea (Ee rfl) ?_)))))))))
 first | refine Ea (o_muln rfl rfl (by omega)) ?_ | refine Ea (o_mul rfl rfl) ?_
 refine Ea (Ee rfl) (Ed (Ec (Eb [2] rfl (Ej (ret_leafR rfl rfl ?_)))))
 rotate_left
 all_goals
  first | exact numS_0 hS (by assumption) (.inl (by assumption)) | exact numS_0 hS (by assumption) (.inr (.inl (by assumption))) | exact numS_0 hS (by assumption) (.inr (.inr (by assumption))) | exact numS_1 hS hi (by assumption)
theorem cg_467 (ws : List (List UInt8)) (hl : ws.length ≤ 1048577) (hw : ∀ w, w ∈ ws → w.length ≤ 1048576) : GV prg 467 [] [.sl 1 (ws.map stR)] (fun u L1 => ((ws.all fun w => (numN w 18).2) = true ∧ u = .tup [.ls 0 ws.length, .w (.bool true)] ∧ L1 = [.arr 1 ((ws.map fun w => (numN w 18).1).map iR)]) ∨ ((ws.all fun w => (numN w 18).2) = false ∧ u = .tup [.w (.slice none 0 0), .w (.bool false)] ∧ L1 = [])) := by
 refine gv_in g467 (Eb [0] rfl (Ef (Eg (Ea (Ee rfl) (Ea (Ee rfl) (Ed (Ec (Eb [0] rfl (Ef (Eg (Ea (o_bs rfl rfl rfl rfl) ?_)))))))))))
 refine Ea (Ee rfl) (Ed (Ec (Eb [0, 4] rfl (Ef (Ef (Eg (Ea (Ee rfl) ?_)))))))
 first | refine Ea (o_lenM rfl) ?_ | refine Ea (o_len rfl) ?_
 refine Ea (Ee rfl) (Ed (Ec (Eb [4, 10, 11, 12] rfl (Fb (S_loop (ι := Nat) (fun i => i ≤ ws.length ∧ ((ws.take i).all fun w => (numN w 18).2) = true) (fun i => [(4, .ls 0 (((ws.take i).map fun w => (numN w 18).1).map iR).length), (12, .w (.int .i64 (i : Int)))]) (fun i => [.arr 1 (((ws.take i).map fun w => (numN w 18).1).map iR)]) (fun i => ws.length - i) 1 0 (by simp) rfl (hasOf ⟨rfl, rfl, trivial⟩ rfl) rfl (fun _ _ => rfl) (fun _ _ => ⟨rfl, rfl⟩) ?_)))))
 intro i hi
 refine Eb [4, 10, 11, 12] rfl (Ef (Eg (Ea (o_lss rfl rfl) (Ed (Ec (Eb [4, 10, 11, 12, 13] rfl (Ef ?_)))))))
 first | refine Em rfl ?_ ?_ | refine Ek rfl ?_ ?_
 intro h1
 try rw [nnp] at h1
 refine Et (Ec (Eb [4, 10, 11, 12] rfl (Ef (Fb (Ef (Eg (s_iaM rfl rfl (by simp at *; omega) ?_)))))))
 intro y2 e2
 try simp only [Int.toNat_natCast, Int.toNat_zero] at e2
 refine Ea (o_ld rfl rfl) (Ea (Ee rfl) (Ed (Ec (Eb [4, 6, 10, 11, 12] rfl (Ef (Eg (Ea (Ee rfl) ?_)))))))
 first | refine Ew rfl rfl (cn_408 _ 18 (by have := hw _ (List.mem_of_getElem? (by assumption)); omega)) ?_ | refine Fa rfl rfl (by simp) (cn_408 _ 18 (by have := hw _ (List.mem_of_getElem? (by assumption)); omega)) rfl ?_
 refine Ea (Ee rfl) (Ea (o_ext rfl rfl) (Ea (o_ext rfl rfl) (Ea (Ee rfl) (Ea (Ee rfl) (Ed (Ec (Eb [4, 7, 8, 10, 11, 12] rfl (Ef (Ef (Eg (Ea (Ee rfl) ?_)))))))))))
 refine Ea (o_not rfl) (Ed (Ec (Eb [4, 7, 10, 11, 12, 22] rfl ?_)))
 first | refine Em rfl ?_ ?_ | refine s_condN rfl ?_ ?_ | refine s_condNB rfl ?_ ?_ | refine Ek rfl ?_ ?_
 intro h3
 try rw [nnp] at h3
 refine Ef (Eg (Ea (Ee rfl) (Ea (Ee rfl) (Ed (Ec (Eb [2, 3] rfl (Ej (Eu (q_blkR (Eu (q_loopR ?_)))))))))))
 refine q_blkR (Eu ?_)
 · first | (refine Ei [] (.inr rfl) rfl rfl rfl rfl (show (List.range 0 ++ []).Nodup by decide) ?_; exact .inr ⟨all_no (by assumption) (by assumption), rfl, rfl⟩) | (refine Ei [0] (.inr rfl) rfl rfl rfl rfl (show (List.range 0 ++ [0]).Nodup by decide) ?_; rw [take_end (show ws.length ≤ i by omega)]; exact .inl ⟨all_end hi.2 (by omega), by simp, rfl⟩)
 intro h3
 try rw [nnp] at h3
 refine Et (Ec (Eb [4, 7, 10, 11, 12] rfl (Eg (Ea (Ee rfl) (Ea (Ee rfl) (Ea (o_bs rfl rfl rfl rfl) ?_))))))
 first | refine Ea (o_appL rfl rfl rfl rfl rfl rfl rfl (by simp [roomy]; omega)) ?_ | refine Ea (o_app rfl rfl rfl rfl rfl (by simp [roomy]; omega)) ?_
 refine Ea (Ee rfl) (Ed (q_blkN (Ec (Eb [4, 10, 11, 12] rfl (Eg ?_)))))
 first | refine Ea (o_addn rfl rfl (by omega)) ?_ | refine Ea (o_add rfl rfl) ?_
 refine Ea (Ee rfl) (Ed (q_loopN ?_))
 · refine ⟨i + 1, ⟨by omega, all_take (by assumption) hi.2 (by assumption)⟩, by omega, hasOf ⟨?_, rfl, trivial⟩ ?_⟩ <;> rw [nums_next (by assumption)] <;> rfl
 intro h1
 try rw [nnp] at h1
 refine s_exit (q_seqX (q_loopX (q_blkH (Ec (Eb [4] rfl (Ef (Eg (Ea (Ee rfl) (Ea (Ee rfl) (Ea (Ee rfl) (Ed ?_)))))))))))
 refine Ec (Eb [2, 3] rfl (Ej ?_))
 · first | (refine Ei [] (.inr rfl) rfl rfl rfl rfl (show (List.range 0 ++ []).Nodup by decide) ?_; exact .inr ⟨all_no (by assumption) (by assumption), rfl, rfl⟩) | (refine Ei [0] (.inr rfl) rfl rfl rfl rfl (show (List.range 0 ++ [0]).Nodup by decide) ?_; rw [take_end (show ws.length ≤ i by omega)]; exact .inl ⟨all_end hi.2 (by omega), by simp, rfl⟩)
theorem spl_end {xs : List (List UInt8)} {i : Nat} (h : xs.length = i + 1) : ((tabV stR [.w (.string ⟨#[]⟩)] xs (i + 1)).take ((i : Int) + 1).toNat).drop (((0 : Nat) : Int)).toNat = xs.map stR := by
 rw [tabV_end _ _ _ (by omega), show ((i : Int) + 1).toNat = i + 1 by omega, List.take_of_length_le (by rw [List.length_map]; omega)]; rfl
theorem cntB_le (s : List UInt8) (c : UInt8) : Lib.countByte s c ≤ s.length := List.count_le_length
theorem cg_470 (s : List UInt8) (hs : s.length ≤ 1048576) (c : UInt8) : GV prg 470 [] [.w (.string ⟨(s).toArray⟩), .w (.string ⟨([c]).toArray⟩), .w (.int .i64 0), .w (.int .i64 (-1))] (fun u L1 => u = .ls 0 (cutL c s).length ∧ L1 = [.arr 1 ((cutL c s).map stR)]) := by
 have hcl := cntB_le s c
 have hwl := cut_len c s
 have hwc := cut_cnt c s
 refine gv_in g470 (Eb [0, 1, 2, 3] rfl (Ef (Eg (Ea (Ee rfl) (Ed (Ec (Eb [0, 1, 2, 3] rfl (Ef (Ef (Eg (Ea (Ee rfl) ?_)))))))))))
 refine Ea (o_eql rfl rfl) (Ed (Ec (Eb [0, 1, 2, 3, 13] rfl (s_condF rfl (Et (Ec (Eb [0, 1, 2, 3] rfl (Ef (Ef (Eg (Ea (Ee rfl) ?_)))))))))))
 refine Ea (o_eqls rfl rfl) (Ed (Ec (Eb [0, 1, 2, 3, 15] rfl (s_condF rfl (Et (Ec (Eb [0, 1, 2, 3] rfl (Ef (Ef (Eg (Ea (Ee rfl) ?_)))))))))))
 refine Ea (o_lss rfl rfl) (Ed (Ec (Eb [0, 1, 2, 3, 20] rfl (s_condT rfl (Eg (Ea (Ee rfl) (Ea (Ee rfl) (Ew rfl rfl (cn_472 s c) ?_))))))))
 first | refine Ea (o_addn rfl rfl (by omega)) ?_ | refine Ea (o_add rfl rfl) ?_
 refine Ea (Ee rfl) (Ed (Ec (Eb [0, 1, 2, 3] rfl (Ef (Eg (Ea (Ee rfl) (Ea (Ee rfl) (Ea (o_lenb rfl) ?_))))))))
 first | refine Ea (o_addn rfl rfl (by omega)) ?_ | refine Ea (o_add rfl rfl) ?_
 refine Ea (o_mn rfl) ?_
 rw [spl_min]
 refine Ea (Ee rfl) (Ed (Ec (Eb [0, 1, 2, 3] rfl (Ef (Eg (Ea (Ee rfl) (Ea (o_mk rfl rfl rfl rfl ⟨by omega, by unfold roomy; omega, by unfold roomy; omega⟩ rfl) (Ea (Ee rfl) (Ed (Ec (Eb [0, 1, 2, 3, 9] rfl ?_)))))))))))
 refine Ef (Eg (Ea (Ee rfl) ?_))
 first | refine Ea (o_subn rfl rfl (by omega)) ?_ | refine Ea (o_sub rfl rfl) ?_
 refine Ea (Ee rfl) (Ed (Ec (Eb [0, 1, 2, 3, 9] rfl (Ef (Eg (Ea (Ee rfl) (Ed (Ec (Eb [0, 1, 2, 3, 9, 10] rfl (Ef (Fb ?_)))))))))))
 refine S_loop (ι := Nat × List UInt8) (fun p => SplI c s p.1 p.2) (fun p => [(0, .w (.string ⟨(p.2).toArray⟩)), (10, .w (.int .i64 (p.1 : Int)))]) (fun p => [.arr 1 (tabV stR [.w (.string ⟨#[]⟩)] (cutL c s) p.1)]) (fun p => (cutL c s).length - p.1) 1 (0, s) (SplI.start c s) rfl (hasOf ⟨rfl, rfl, trivial⟩ (by rw [tabV_zero]; rfl)) rfl (fun _ _ => rfl) (fun _ _ => ⟨rfl, rfl⟩) ?_
 rintro ⟨i, cur⟩ hS
 simp only at hS
 have hil := hS.lt
 have hcl3 := hS.2
 refine Eb [0, 1, 2, 3, 9, 10] rfl ?_
 dsimp only
 refine Ef (Ef (Eg (Ea (Ee rfl) (Ea (Ee rfl) (Ea (o_lss rfl rfl) (Ed (Ec (Eb [0, 1, 2, 3, 9, 10, 36] rfl ?_))))))))
 first | refine Em rfl ?_ ?_ | refine Ek rfl ?_ ?_
 intro h1
 try rw [nnp] at h1
 refine Et (Ec (Eb [0, 1, 2, 3, 9, 10] rfl (Fb (Ef (Eg (Ea (Ee rfl) (Ea (Ee rfl) (Ew rfl rfl (cn_473 _ c) ?_))))))))
 obtain ⟨p, r, hcur, hq, hcl2, hpw, hS2⟩ := hS.next (by omega)
 rw [hq]
 refine Ea (Ee rfl) (Ed (Ec (Eb [0, 1, 2, 3, 9, 10, 11] rfl (Ef (Ef (Eg (Ea (Ee rfl) (Ea (o_lss rfl rfl) (Ed (Ec (Eb [0, 1, 2, 3, 9, 10, 11, 41] rfl ?_)))))))))))
 first | refine Em rfl ?_ ?_ | refine Ek rfl ?_ ?_
 · intro h2
   exfalso
   omega
 intro h2
 try rw [nnp] at h2
 refine Et (Ec (Eb [0, 1, 2, 3, 9, 10, 11] rfl (Ef (Eg (Ea (Ee rfl) (Ea (Ee rfl) (Ea (Ee rfl) (Ea (Ee rfl) (Ea (Ee rfl) ?_)))))))))
 first | refine Ea (o_addn rfl rfl (by omega)) ?_ | refine Ea (o_add rfl rfl) ?_
 refine Ea (o_slsb rfl rfl rfl (by omega)) ?_
 rw [spl_piece hcur]
 refine Ea (o_iaL rfl rfl (by first | (rw [tabV_len _ _ _ _ (by omega), List.length_replicate]; rfl) | (rw [List.length_set, tabV_len _ _ _ _ (by omega), List.length_replicate]; rfl)) rfl (by first | omega | (rw [List.length_replicate]; omega))) (s_opN (o_stA rfl rfl rfl rfl (by first | (rw [tabV_len _ _ _ _ (by omega), List.length_replicate]; rfl) | (rw [List.length_set, tabV_len _ _ _ _ (by omega), List.length_replicate]; rfl)) (by rw [Int.toNat_natCast]; exact tabV_at _ _ (by omega)) rfl rfl) (Ed (Ec (Eb [0, 1, 2, 3, 9, 10, 11] rfl (Ef (Eg (Ea (Ee rfl) (Ea (Ee rfl) (Ea (Ee rfl) (Ea (o_lenb rfl) ?_))))))))))
 rw [one_len]
 first | refine Ea (o_addn rfl rfl (by omega)) ?_ | refine Ea (o_add rfl rfl) ?_
 refine Ea (o_slsb rfl rfl rfl (by omega)) ?_
 rw [spl_rest hcur]
 refine Ea (Ee rfl) (Ed (Ec (Eb [0, 1, 2, 3, 9, 10] rfl (Eg (Ea (Ee rfl) ?_)))))
 first | refine Ea (o_addn rfl rfl (by omega)) ?_ | refine Ea (o_add rfl rfl) ?_
 refine Ea (Ee rfl) (Ed (q_blkN (q_loopN ?_)))
 · refine ⟨(i + 1, r), hS2, by simp only; omega, hasOf ⟨rfl, rfl, trivial⟩ ?_⟩
   simp only
   rw [← tabV_set stR _ hpw]; rfl
 intro h1
 try rw [nnp] at h1
 refine s_exit (q_seqX (q_loopX (q_blkH (Ec (Eb [0, 9, 10] rfl (Ef (Eg ?_)))))))
 obtain ⟨hwi, hwn⟩ := hS.last (by assumption)
 refine Ea (Ee rfl) (Ea (Ee rfl) (Ea (Ee rfl) (Ea (o_iaL rfl rfl (by first | (rw [tabV_len _ _ _ _ (by omega), List.length_replicate]; rfl) | (rw [List.length_set, tabV_len _ _ _ _ (by omega), List.length_replicate]; rfl)) rfl (by first | omega | (rw [List.length_replicate]; omega))) (s_opN (o_stA rfl rfl rfl rfl (by first | (rw [tabV_len _ _ _ _ (by omega), List.length_replicate]; rfl) | (rw [List.length_set, tabV_len _ _ _ _ (by omega), List.length_replicate]; rfl)) (by rw [Int.toNat_natCast]; exact tabV_at _ _ (by omega)) rfl rfl) (Ed (Ec (Eb [9, 10] rfl (Ef (Eg (Ea (Ee rfl) (Ea (Ee rfl) ?_)))))))))))
 first | refine Ea (o_addn rfl rfl (by omega)) ?_ | refine Ea (o_add rfl rfl) ?_
 refine s_cut rfl rfl (by first | (rw [tabV_len _ _ _ _ (by omega), List.length_replicate]; rfl) | (rw [List.length_set, tabV_len _ _ _ _ (by omega), List.length_replicate]; rfl)) rfl rfl (by rw [List.length_set, tabV_len _ _ _ _ (by omega)]; omega) rfl rfl (Ea (Ee rfl) (Ed (Ec (Eb [8] rfl (Ej ?_)))))
 · refine Ei [1] (.inr rfl) rfl rfl rfl rfl (show (List.range 0 ++ [1]).Nodup by decide) ?_
   have e9 : ((tabV stR [V.w (Value.string ⟨#[]⟩)] (cutL c s) i).set (↑i : Int).toNat [V.w (Value.string ⟨cur.toArray⟩)]) = tabV stR [V.w (Value.string ⟨#[]⟩)] (cutL c s) (i + 1) := by
    rw [Int.toNat_natCast]; exact tabV_set stR _ hwi
   rw [e9, spl_end hwn, List.length_map]; exact ⟨rfl, rfl⟩
theorem cg_463 (s : List UInt8) (hs : s.length ≤ 1048576) (c : UInt8) : GV prg 463 [] [.w (.string ⟨(s).toArray⟩), .w (.string ⟨([c]).toArray⟩)] (fun u L1 => u = .ls 0 (cutL c s).length ∧ L1 = [.arr 1 ((cutL c s).map stR)]) := by
 refine gv_in g463 (Eb [0, 1] rfl (Ef (Eg (Ea (Ee rfl) (Ed (Ec (Eb [0, 1] rfl (Ef (Eg (Ea (Ee rfl) (Ea (Ee rfl) ?_)))))))))))
 refine Fc [] rfl rfl rfl rfl (by simp) (.inl rfl) (cg_470 s hs c) ?_
 rintro u L1 ⟨rfl, rfl⟩
 refine ⟨_, _, rfl, rfl, ?_⟩
 refine Ea (Ee rfl) (Ed (Ec (Eb [4] rfl (Ej ?_))))
 · exact Ei [0] (.inr rfl) rfl rfl rfl rfl (show (List.range 0 ++ [0]).Nodup by decide) ⟨rfl, rfl⟩
def lockW : List UInt8 := [108, 111, 99, 107]
def szW (i : Int) : List UInt8 := (szN[i.toNat]?).getD []
def bstW (i : Int) : List UInt8 := (bstN[i.toNat]?).getD []
def lockL (b : Bool) : List (List UInt8) := if b = true then [lockW] else []
def reqHead (r : Req) : List (List UInt8) := [wrW r.write, szW r.size, bstW r.burst, Lib.itoa r.addr]
def reqAcc (r : Req) (ds : List Int) : List (List UInt8) := reqHead r ++ lockL r.lock ++ ds.map Lib.itoa
def reqT (r : Req) : List UInt8 := if r.ok = true then Lib.join (reqAcc r r.data) [32] else []
theorem burst_in {a s b : Int} (h : 0 < (burstL a s b).length) : (0 ≤ s ∧ s ≤ 2) ∧ (0 ≤ b ∧ b ≤ 3) ∧ 0 ≤ a ∧ a < 512 := by
 unfold burstL at h
 have hb : ¬ (beats b).toNat = 0 := by intro e; rw [e] at h; simp [bl] at h
 obtain ⟨n, e⟩ : ∃ n, (beats b).toNat = n + 1 := ⟨(beats b).toNat - 1, by omega⟩
 rw [e] at h
 simp only [bl] at h
 by_cases hn : nextA a s b < 0
 · rw [if_pos hn] at h; simp at h
 · unfold nextA at hn
   split at hn
   · rename_i hc
     simp only [Bool.and_eq_true, decide_eq_true_eq, aligned] at hc
     obtain ⟨⟨⟨⟨h1, h2⟩, _⟩, h3⟩, _⟩ := hc
     refine ⟨inB_t h1, ?_, h2, h3⟩
     unfold beats at hb
     split at hb
     · rename_i h4; exact inB_t h4
     · exact absurd rfl hb
   · exact absurd (by decide) hn
theorem ok_facts {r : Req} (h : r.ok = true) : (0 ≤ r.size ∧ r.size ≤ 2) ∧ (0 ≤ r.burst ∧ r.burst ≤ 3) ∧ (0 ≤ r.addr ∧ r.addr < 512) ∧ r.data.length ≤ 8 ∧ ∀ d, d ∈ r.data → 0 ≤ d ∧ d < 4294967296 := by
 have h8 := Req.ok_len h
 simp only [Req.ok, burstOk, Bool.and_eq_true, decide_eq_true_eq, List.all_eq_true] at h
 obtain ⟨⟨⟨_, h2⟩, _⟩, h4⟩ := h
 obtain ⟨g1, g2, g3, g4⟩ := burst_in h2
 refine ⟨g1, g2, ⟨g3, g4⟩, h8, fun d hd => ?_⟩
 have := inB_t (h4 d hd)
 have := limit_bd r.size
 omega
theorem ten18 {n : Int} (h : 0 ≤ n ∧ n < 4294967296) : (Lib.decDigits n.natAbs).length ≤ 18 := by
 rw [dec_len]
 have key : ∀ (k u : Nat), u < 10 ^ (k + 1) → Lib.nDigits u ≤ k + 1 := by
  intro k
  induction k with
  | zero => intro u hu; rw [Lib.nDigits_small (by simpa using hu)]; omega
  | succ k ih =>
    intro u hu
    by_cases h10 : u < 10
    · rw [Lib.nDigits_small h10]; omega
    · rw [Lib.nDigits_big h10]
      have := ih (u / 10) (by rw [Nat.pow_succ] at hu; omega)
      omega
 have := key 9 n.natAbs (by rw [show (10 : Nat) ^ (9 + 1) = 10000000000 by decide]; omega)
 omega
theorem sz_at {z : Int} (h : 0 ≤ z ∧ z ≤ 2) : (szN.map stR)[z.toNat]? = some (stR (szW z)) ∧ szN[z.toNat]? = some (szW z) ∧ idxS szN (szW z) = z ∧ (∀ b, b ∈ szW z → b ≠ 32) ∧ (szW z).length = 4 := by
 rcases (show z = 0 ∨ z = 1 ∨ z = 2 by omega) with rfl | rfl | rfl <;> exact ⟨rfl, rfl, by decide, by decide, rfl⟩
theorem bst_at {z : Int} (h : 0 ≤ z ∧ z ≤ 3) : (bstN.map stR)[z.toNat]? = some (stR (bstW z)) ∧ bstN[z.toNat]? = some (bstW z) ∧ idxS bstN (bstW z) = z ∧ (∀ b, b ∈ bstW z → b ≠ 32) ∧ (bstW z).length ≤ 5 := by
 rcases (show z = 0 ∨ z = 1 ∨ z = 2 ∨ z = 3 by omega) with rfl | rfl | rfl | rfl <;> exact ⟨rfl, rfl, by decide, by decide, by decide⟩
theorem wr_at (b : Bool) : (∀ x, x ∈ wrW b → x ≠ 32) ∧ (wrW b).length ≤ 5 ∧ decide (wrW b = [119, 114, 105, 116, 101]) = b := by
 cases b <;> exact ⟨by decide, by decide, by decide⟩
theorem acc_ne (r : Req) (ds : List Int) : reqAcc r ds ≠ [] := by simp [reqAcc, reqHead]
theorem acc_snoc (r : Req) (ds : List Int) (d : Int) : Lib.join (reqAcc r (ds ++ [d])) [32] = Lib.join (reqAcc r ds) [32] ++ [32] ++ Lib.itoa d := by
 have e : reqAcc r (ds ++ [d]) = reqAcc r ds ++ [Lib.itoa d] := by simp [reqAcc]
 rw [e, join_snoc _ _ _ (acc_ne r ds)]
theorem acc_next {r : Req} {i : Nat} {d : Int} (h : r.data[i]? = some d) : Lib.join (reqAcc r (r.data.take i)) [32] ++ [32] ++ Lib.itoa d = Lib.join (reqAcc r (r.data.take (i + 1))) [32] := by
 rw [take_get h, acc_snoc]
theorem acc_words {r : Req} (h : r.ok = true) {ds : List Int} (hd : ∀ d, d ∈ ds → d ∈ r.data) : ∀ w, w ∈ reqAcc r ds → (∀ b, b ∈ w → b ≠ 32) ∧ w.length ≤ 21 := by
 obtain ⟨h1, h2, h3, _, h5⟩ := ok_facts h
 intro w hw
 simp only [reqAcc, List.mem_append, reqHead, List.mem_cons, List.not_mem_nil, or_false, List.mem_map] at hw
 have hi : ∀ n : Int, 0 ≤ n ∧ n < 4294967296 → (∀ b, b ∈ Lib.itoa n → b ≠ 32) ∧ (Lib.itoa n).length ≤ 21 := fun n hn => ⟨itoa_no32, itoa_len (by omega)⟩
 rcases hw with ((rfl | rfl | rfl | rfl) | hw) | ⟨d, hd2, rfl⟩
 · have := wr_at r.write; exact ⟨this.1, by omega⟩
 · have := sz_at h1; exact ⟨this.2.2.2.1, by omega⟩
 · have := bst_at h2; exact ⟨this.2.2.2.1, by omega⟩
 · exact hi _ (by omega)
 · unfold lockL at hw
   split at hw
   · simp only [List.mem_cons, List.not_mem_nil, or_false] at hw
     subst hw; exact ⟨by decide, by decide⟩
   · cases hw
 · exact hi _ (h5 d (hd d hd2))
theorem lockL_len (b : Bool) : (lockL b).length ≤ 1 := by cases b <;> decide
theorem acc_cnt {r : Req} (h : r.ok = true) (i : Nat) : (reqAcc r (r.data.take i)).length ≤ 13 := by
 obtain ⟨_, _, _, h4, _⟩ := ok_facts h
 have h5 := lockL_len r.lock
 simp only [reqAcc, reqHead, List.length_append, List.length_map, List.length_take, List.length_cons, List.length_nil]
 omega
theorem accJ_len {r : Req} (h : r.ok = true) (i : Nat) : (Lib.join (reqAcc r (r.data.take i)) [32]).length ≤ 286 := by
 have h1 := join_le 21 [32] (reqAcc r (r.data.take i)) fun w hw => (acc_words h (ds := r.data.take i) (fun d hd => List.mem_of_mem_take hd) w hw).2
 have h2 := acc_cnt h i
 have h3 : (reqAcc r (r.data.take i)).length * (21 + ([32] : List UInt8).length) ≤ 13 * 22 := Nat.mul_le_mul h2 (Nat.le_refl _)
 omega
theorem reqT_yes {r : Req} (h : r.ok = true) {i : Nat} (hi : r.data.length ≤ i) : Lib.join (reqAcc r (r.data.take i)) [32] = reqT r := by
 rw [reqT, if_pos h, List.take_of_length_le hi]
theorem reqT_no {r : Req} (h : ¬ r.ok = true) : reqT r = [] := by rw [reqT, if_neg h]
theorem reqT_len (r : Req) : (reqT r).length ≤ 286 := by
 by_cases h : r.ok = true
 · rw [← reqT_yes h (Nat.le_refl _)]; exact accJ_len h _
 · rw [reqT_no h]; simp
theorem cut_req {r : Req} (h : r.ok = true) : cutL 32 (reqT r) = reqAcc r r.data := by
 rw [reqT, if_pos h]
 exact cut_join (acc_ne _ _) fun w hw => (acc_words h (fun d hd => hd) w hw).1
def hasL (ws : List (List UInt8)) : Bool := decide (ws.head? = some lockW)
def restL (ws : List (List UInt8)) : List (List UInt8) := if ws.head? = some lockW then ws.drop 1 else ws
def parW (f : List UInt8 → Int) (ws : List (List UInt8)) : Req :=
 ⟨decide ((ws[0]?).getD [] = [119, 114, 105, 116, 101]), f ((ws[3]?).getD []), idxS szN ((ws[1]?).getD []), idxS bstN ((ws[2]?).getD []), hasL (ws.drop 4), (restL (ws.drop 4)).map f⟩
theorem head_not (ds : List Int) : ¬ (ds.map Lib.itoa).head? = some lockW := by
 cases ds with
 | nil => simp
 | cons d ds =>
   simp only [List.map_cons, List.head?_cons, Option.some.injEq]
   exact itoa_not (by decide) (by decide)
theorem lock_has (b : Bool) (ds : List Int) : hasL (lockL b ++ ds.map Lib.itoa) = b ∧ restL (lockL b ++ ds.map Lib.itoa) = ds.map Lib.itoa := by
 cases b with
 | true => exact ⟨rfl, rfl⟩
 | false =>
   have h := head_not ds
   refine ⟨decide_eq_false h, ?_⟩
   show restL (ds.map Lib.itoa) = _
   rw [restL, if_neg h]
theorem par_acc {r : Req} (h : r.ok = true) (f : List UInt8 → Int) (hf : ∀ n : Int, 0 ≤ n ∧ n < 4294967296 → f (Lib.itoa n) = n) : parW f (reqAcc r r.data) = r := by
 obtain ⟨h1, h2, h3, _, h5⟩ := ok_facts h
 have e : reqAcc r r.data = wrW r.write :: szW r.size :: bstW r.burst :: Lib.itoa r.addr :: (lockL r.lock ++ r.data.map Lib.itoa) := by simp [reqAcc, reqHead]
 have g := lock_has r.lock r.data
 have hm : (r.data.map Lib.itoa).map f = r.data := by
  rw [List.map_map]
  have : r.data.map (f ∘ Lib.itoa) = r.data.map id := List.map_congr_left fun d hd => hf d (h5 d hd)
  rw [this, List.map_id]
 obtain ⟨w, a, s, b, l, ds⟩ := r
 simp only at *
 rw [e]
 simp only [parW, List.drop_succ_cons, List.drop_zero, g.1, g.2, hm, List.getElem?_cons_zero, List.getElem?_cons_succ, Option.getD_some, (sz_at h1).2.2.1, (bst_at h2).2.2.1, (wr_at w).2.2, hf a (by omega)]
def fN (w : List UInt8) : Int := (numN w 18).1
theorem numN18 {n : Int} (h : 0 ≤ n ∧ n < 4294967296) : numN (Lib.itoa n) 18 = (n, true) := by
 have := ten18 h
 rw [numN_itoa (by omega), if_pos (by omega)]
theorem fN_itoa (n : Int) (h : 0 ≤ n ∧ n < 4294967296) : fN (Lib.itoa n) = n := by rw [fN, numN18 h]
theorem fS_itoa (n : Int) (h : 0 ≤ n ∧ n < 4294967296) : numS (Lib.itoa n) = n := numS_itoa (ten18 h)
def zR : Req := ⟨false, 0, 0, 0, false, []⟩
def readQ (s : List UInt8) : Req × Bool := if 4 ≤ (cutL 32 s).length ∧ reqT (parW numS (cutL 32 s)) = s then (parW numS (cutL 32 s), true) else (zR, false)
theorem rq_few {s : List UInt8} (h : ((cutL 32 s).length : Int) < 4) : readQ s = (zR, false) := by rw [readQ, if_neg (by omega)]
theorem rq_no {s : List UInt8} (h : ¬ reqT (parW numS (cutL 32 s)) = s) : readQ s = (zR, false) := by rw [readQ, if_neg (fun k => h k.2)]
theorem rq_yes {s : List UInt8} (h : ¬ ((cutL 32 s).length : Int) < 4) (h2 : reqT (parW numS (cutL 32 s)) = s) : readQ s = (parW numS (cutL 32 s), true) := by rw [readQ, if_pos ⟨by omega, h2⟩]
theorem acc_four (r : Req) (ds : List Int) : 4 ≤ (reqAcc r ds).length := by
 simp only [reqAcc, reqHead, List.length_append, List.length_cons, List.length_nil]; omega
theorem rq_of {r : Req} (h : r.ok = true) : readQ (reqT r) = (r, true) := by
 have e := cut_req h
 have e2 := par_acc h numS fS_itoa
 rw [readQ, e, e2, if_pos ⟨acc_four _ _, rfl⟩]
theorem rq_some {s : List UInt8} (h : ¬ readQ s = (zR, false)) : ∃ r : Req, r.ok = true ∧ reqT r = s ∧ readQ s = (r, true) := by
 unfold readQ at h ⊢
 split at h
 · rename_i hc
   refine ⟨_, ?_, hc.2, if_pos hc⟩
   by_cases hk : (parW numS (cutL 32 s)).ok = true
   · exact hk
   · have h1 := hc.2
     rw [reqT_no hk] at h1
     rw [← h1] at hc
     exact absurd hc.1 (by decide)
 · exact absurd rfl h
theorem rq_words {s : List UInt8} (h : ¬ readQ s = (zR, false)) : ∃ r : Req, r.ok = true ∧ reqT r = s ∧ cutL 32 s = reqAcc r r.data := by
 obtain ⟨r, h1, h2, _⟩ := rq_some h
 exact ⟨r, h1, h2, by rw [← h2]; exact cut_req h1⟩
theorem ri_num {s : List UInt8} (h : (numN (((cutL 32 s)[3]?).getD []) 18).2 = false) : readQ s = (zR, false) := by
 refine Classical.byContradiction fun k => ?_
 obtain ⟨r, h1, _, h3⟩ := rq_words k
 have h4 := ok_facts h1
 rw [h3] at h
 have e : ((reqAcc r r.data)[3]?).getD [] = Lib.itoa r.addr := by simp [reqAcc, reqHead]
 rw [e, numN18 (by omega)] at h
 cases h
theorem ri_nums {s : List UInt8} (h : ((restL ((cutL 32 s).drop 4)).all fun w => (numN w 18).2) = false) : readQ s = (zR, false) := by
 refine Classical.byContradiction fun k => ?_
 obtain ⟨r, h1, _, h3⟩ := rq_words k
 have h4 := ok_facts h1
 rw [h3] at h
 have e : (reqAcc r r.data).drop 4 = lockL r.lock ++ r.data.map Lib.itoa := by simp [reqAcc, reqHead]
 rw [e, (lock_has _ _).2, List.all_map] at h
 rw [List.all_eq_false] at h
 obtain ⟨d, hd, hk⟩ := h
 simp only [Function.comp, numN18 (h4.2.2.2.2 d hd)] at hk
 exact hk trivial
theorem ri_par {s : List UInt8} (h : ¬ readQ s = (zR, false)) : (parW fN (cutL 32 s)).ok = true ∧ reqT (parW fN (cutL 32 s)) = s := by
 obtain ⟨r, h1, h2, h3⟩ := rq_words h
 rw [h3, par_acc h1 fN fN_itoa]
 exact ⟨h1, h2⟩
theorem ri_ok {s : List UInt8} (h : ¬ (parW fN (cutL 32 s)).ok = true) : readQ s = (zR, false) := Classical.byContradiction fun k => h (ri_par k).1
theorem ri_no {s : List UInt8} (h : ¬ reqT (parW fN (cutL 32 s)) = s) : readQ s = (zR, false) := Classical.byContradiction fun k => h (ri_par k).2
theorem ri_yes {s : List UInt8} (h : (parW fN (cutL 32 s)).ok = true) (h2 : reqT (parW fN (cutL 32 s)) = s) : readQ s = (parW fN (cutL 32 s), true) := by
 have := rq_of h
 rwa [h2] at this
theorem wr_t {b : Bool} (h : b = true) : [119, 114, 105, 116, 101] = wrW b := by rw [h]; rfl
theorem wr_f {b : Bool} (h : b = false) : [114, 101, 97, 100] = wrW b := by rw [h]; rfl
theorem acc_0t {x : Req} {w : List UInt8} (hw : w = wrW x.write) (hl : x.lock = true) : w ++ [32] ++ szW x.size ++ [32] ++ bstW x.burst ++ [32] ++ Lib.itoa x.addr ++ [32, 108, 111, 99, 107] = Lib.join (reqAcc x (x.data.take 0)) [32] := by
 subst hw
 simp [reqAcc, reqHead, lockL, hl, Lib.join_cons, Lib.joinTail, lockW]
theorem acc_0f {x : Req} {w : List UInt8} (hw : w = wrW x.write) (hl : x.lock = false) : w ++ [32] ++ szW x.size ++ [32] ++ bstW x.burst ++ [32] ++ Lib.itoa x.addr = Lib.join (reqAcc x (x.data.take 0)) [32] := by
 subst hw
 simp [reqAcc, reqHead, lockL, hl, Lib.join_cons, Lib.joinTail]
theorem accT {x : Req} (hl : x.lock = true) : reqHead x ++ [lockW] ++ x.data.map Lib.itoa = reqAcc x x.data := by rw [reqAcc, hl]; rfl
theorem accF {x : Req} (hl : x.lock = false) : reqHead x ++ x.data.map Lib.itoa = reqAcc x x.data := by rw [reqAcc, hl]; simp [lockL]
theorem accT_len {x : Req} (h : x.ok = true) (hl : x.lock = true) : (Lib.join (reqHead x ++ [lockW] ++ x.data.map Lib.itoa) [32]).length ≤ 140737488355328 := by
 have := accJ_len h x.data.length
 rw [List.take_of_length_le (Nat.le_refl _)] at this
 rw [accT hl]; omega
theorem accF_len {x : Req} (h : x.ok = true) (hl : x.lock = false) : (Lib.join (reqHead x ++ x.data.map Lib.itoa) [32]).length ≤ 140737488355328 := by
 have := accJ_len h x.data.length
 rw [List.take_of_length_le (Nat.le_refl _)] at this
 rw [accF hl]; omega
theorem reqT_T {x : Req} (h : x.ok = true) (hl : x.lock = true) : V.w (.string ⟨(Lib.join (reqHead x ++ [lockW] ++ x.data.map Lib.itoa) [32]).toArray⟩) = V.w (.string ⟨(reqT x).toArray⟩) := by rw [accT hl, reqT, if_pos h]
theorem reqT_F {x : Req} (h : x.ok = true) (hl : x.lock = false) : V.w (.string ⟨(Lib.join (reqHead x ++ x.data.map Lib.itoa) [32]).toArray⟩) = V.w (.string ⟨(reqT x).toArray⟩) := by rw [accF hl, reqT, if_pos h]
theorem reqT_0 {x : Req} (h : x.ok = false) : V.w (.string ⟨#[]⟩) = V.w (.string ⟨(reqT x).toArray⟩) := by rw [reqT_no (by rw [h]; decide)]
theorem reqT_1 {x : Req} (h : x.ok = true) {i : Nat} (hi : x.data.length ≤ i) : V.w (.string ⟨(Lib.join (reqAcc x (x.data.take i)) [32]).toArray⟩) = V.w (.string ⟨(reqT x).toArray⟩) := by rw [reqT_yes h hi]
theorem i64_ok {n : Int} (h : 0 ≤ n ∧ n < 4294967296) : -9223372036854775808 ≤ n ∧ n ≤ 9223372036854775807 := by omega
theorem i64_data {x : Req} (hd : ∀ d, d ∈ x.data → 0 ≤ d ∧ d < 4294967296) : ∀ y, y ∈ x.data → i64 y := fun y hy => by have := hd y hy; exact ⟨by omega, by omega⟩
theorem cg_84m (xs : List Int) (hl : xs.length ≤ 1048576) (hw : ∀ y, y ∈ xs → i64 y) : GV prg 84 [] [.sl 1 (xs.map iR)] (fun u L1 => u = .ls 0 ((xs.map Lib.itoa).map stR).length ∧ L1 = [.arr 1 ((xs.map Lib.itoa).map stR)]) := by
 have e : ((xs.map Lib.itoa).map stR).length = xs.length := by simp
 rw [e]; exact cg_84 xs hl hw
set_option maxHeartbeats 1000000 in
theorem c_462 (x : Req) (hs : x.small) : CV prg 462 [.agg x.r] (fun res => res = .w (.string ⟨(reqT x).toArray⟩)) := by
 refine cv_in g462 (Eb [0] rfl (Ef (Eg (Ea (o_box rfl rfl rfl) (Ea (Ee rfl) (Ed (Ec (Eb [1] rfl (Ef (Ef (Eg ?_)))))))))))
 refine Ea (o_ldnC rfl rfl rfl) ?_
 first | refine Ew rfl rfl (c_207 x hs) ?_ | refine Fa rfl rfl (by simp) (c_207 x hs) rfl ?_
 refine Ea (o_not rfl) (Ed (Ec (Eb [1, 7] rfl ?_)))
 first | refine Em rfl ?_ ?_ | refine s_condN rfl ?_ ?_ | refine s_condNB rfl ?_ ?_ | refine Ek rfl ?_ ?_
 intro h1
 try rw [nnp] at h1
 first | (have hok : x.ok = true := h1; obtain ⟨hz, hb, ha, h8, hd⟩ := ok_facts hok; have hsz := sz_at hz; have hbz := bst_at hb; have hwz := wr_at x.write; have hal := itoa_len (i64_ok (n := x.addr) (by omega))) | skip
 refine Ef (Eg (Ea (Ee rfl) (Ed (Ec (Eb [2] rfl (Ej (Eu (ret_leafR rfl rfl ?_))))))))
 rotate_left
 intro h1
 try rw [nnp] at h1
 first | (have hok : x.ok = true := h1; obtain ⟨hz, hb, ha, h8, hd⟩ := ok_facts hok; have hsz := sz_at hz; have hbz := bst_at hb; have hwz := wr_at x.write; have hal := itoa_len (i64_ok (n := x.addr) (by omega))) | skip
 refine Et (Ec (Eb [1] rfl (Ef (Eg (Ea (Ee rfl) (Ed (Ec (Eb [1, 3] rfl (Ef (Ef (Eg ?_)))))))))))
 refine Ea (Ep rfl) (Ea (Ey rfl rfl rfl) (Ed (Ec (Eb [1, 3, 9] rfl ?_))))
 first | refine Em rfl ?_ ?_ | refine s_condN rfl ?_ ?_ | refine s_condNB rfl ?_ ?_ | refine Ek rfl ?_ ?_
 intro h2
 try rw [nnp] at h2
 first | (have hok : x.ok = true := h2; obtain ⟨hz, hb, ha, h8, hd⟩ := ok_facts hok; have hsz := sz_at hz; have hbz := bst_at hb; have hwz := wr_at x.write; have hal := itoa_len (i64_ok (n := x.addr) (by omega))) | skip
 refine Eg (Ea (Ee rfl) (Ed (Ec (Eb [1, 3] rfl (Ef (Eg (Ea (Ee rfl) (Ea (o_adds rfl rfl (by simp only [List.length_append, List.length_cons, List.length_nil]; omega)) (Ea (o_bs rfl rfl rfl rfl) (Ea (Ep rfl) (Ea (Ey rfl rfl rfl) ?_)))))))))))
 refine Ea (o_iaL rfl rfl rfl rfl (by first | omega | (simp only [List.length_cons, List.length_nil]; omega))) (Ea (o_ldA rfl rfl rfl (by first | exact hsz.1 | exact hbz.1) rfl) (Ea (o_adds rfl rfl (by simp only [List.length_append, List.length_cons, List.length_nil]; omega)) (Ea (o_adds rfl rfl (by simp only [List.length_append, List.length_cons, List.length_nil]; omega)) (Ea (o_bs rfl rfl rfl rfl) (Ea (Ep rfl) (Ea (Ey rfl rfl rfl) (Ea (o_iaL rfl rfl rfl rfl (by first | omega | (simp only [List.length_cons, List.length_nil]; omega))) (Ea (o_ldA rfl rfl rfl (by first | exact hsz.1 | exact hbz.1) rfl) (Fd (is := [1, 18, 23]) rfl (Ea (o_adds rfl rfl (by simp only [List.length_append, List.length_cons, List.length_nil]; omega)) (Ea (o_adds rfl rfl (by simp only [List.length_append, List.length_cons, List.length_nil]; omega)) ?_)))))))))))
 refine Ea (Ep rfl) (Ea (Ey rfl rfl rfl) ?_)
 first | refine Ew rfl rfl (c_187 _ (by omega)) ?_ | refine Fa rfl rfl (by simp) (c_187 _ (by omega)) rfl ?_
 refine Ea (o_adds rfl rfl (by simp only [List.length_append, List.length_cons, List.length_nil]; omega)) (Ea (Ee rfl) (Ed (Ec (Eb [1, 3] rfl (Ef (Ef (Eg (Ea (Ep rfl) (Ea (Ey rfl rfl rfl) (Ed (Ec ?_)))))))))))
 refine Eb [1, 3, 31] rfl ?_
 first | refine Em rfl ?_ ?_ | refine s_condN rfl ?_ ?_ | refine s_condNB rfl ?_ ?_ | refine Ek rfl ?_ ?_
 intro h5
 try rw [nnp] at h5
 first | (have hok : x.ok = true := h5; obtain ⟨hz, hb, ha, h8, hd⟩ := ok_facts hok; have hsz := sz_at hz; have hbz := bst_at hb; have hwz := wr_at x.write; have hal := itoa_len (i64_ok (n := x.addr) (by omega))) | skip
 refine Eg (Ea (Ee rfl) (Ea (o_adds rfl rfl (by simp only [List.length_append, List.length_cons, List.length_nil]; omega)) (Ea (Ee rfl) (Ed (Ec (Eb [1, 3] rfl (Ef (Ef (Eg (Ea (Ee rfl) (Ed ?_)))))))))))
 refine Ec (Eb [1, 3, 4] rfl (Fb ?_))
 first | refine s_eqv 3 rfl (congrArg (fun l : List UInt8 => V.w (.string ⟨l.toArray⟩)) (acc_0t (wr_t (by assumption)) (by assumption))) ?_ | refine s_eqv 3 rfl (congrArg (fun l : List UInt8 => V.w (.string ⟨l.toArray⟩)) (acc_0t (wr_f (by assumption)) (by assumption))) ?_ | refine s_eqv 3 rfl (congrArg (fun l : List UInt8 => V.w (.string ⟨l.toArray⟩)) (acc_0f (wr_t (by assumption)) (by assumption))) ?_ | refine s_eqv 3 rfl (congrArg (fun l : List UInt8 => V.w (.string ⟨l.toArray⟩)) (acc_0f (wr_f (by assumption)) (by assumption))) ?_
 refine S_loop (ι := Nat) (fun i => i ≤ x.data.length) (fun i => [(3, .w (.string ⟨(Lib.join (reqAcc x (x.data.take i)) [32]).toArray⟩)), (4, .w (.int .i64 (i : Int)))]) (fun i => [.cell x.r, .arr 1 (szN.map stR), .arr 1 (bstN.map stR)]) (fun i => x.data.length - i) 3 0 (by simp) rfl (hasOf ⟨rfl, rfl, trivial⟩ rfl) rfl (fun _ _ => rfl) (fun _ _ => ⟨rfl, rfl⟩) ?_
 intro i hi
 have hjl := accJ_len (by assumption) i
 refine Eb [1, 3, 4] rfl (Ef (Ef (Eg (Ea (Ee rfl) (Ea (Ep rfl) (Ea (Ey rfl rfl rfl) ?_))))))
 first | refine Ea (o_lenM rfl) ?_ | refine Ea (o_len rfl) ?_ | refine Ea (o_lenL rfl rfl rfl) ?_ | refine Ea (o_lenN rfl) ?_
 refine Ea (o_lss rfl rfl) (Ed (Ec (Eb [1, 3, 4, 38] rfl ?_)))
 first | refine Em rfl ?_ ?_ | refine Ek rfl ?_ ?_
 intro h6
 try rw [nnp] at h6
 first | (have hok : x.ok = true := h6; obtain ⟨hz, hb, ha, h8, hd⟩ := ok_facts hok; have hsz := sz_at hz; have hbz := bst_at hb; have hwz := wr_at x.write; have hal := itoa_len (i64_ok (n := x.addr) (by omega))) | skip
 refine Et (Ec (Eb [1, 3, 4] rfl (Ef (Fb (Eg (Ea (Ee rfl) (Ea (o_adds rfl rfl (by simp only [List.length_append, List.length_cons, List.length_nil]; omega)) (Ea (Ep rfl) (Ea (Ey rfl rfl rfl) (Ea (Ee rfl) (s_iaM rfl rfl (by first | omega | (simp only [List.length_cons, List.length_nil]; omega)) ?_)))))))))))
 intro y7 e7
 simp only [Int.toNat_natCast] at e7
 have hyl := itoa_len (i64_ok (hd _ (List.mem_of_getElem? e7)))
 refine Ea (o_ld rfl rfl) ?_
 first | refine Ew rfl rfl (c_187 _ (i64_ok (hd _ (List.mem_of_getElem? (by assumption))))) ?_ | refine Fa rfl rfl (by simp) (c_187 _ (i64_ok (hd _ (List.mem_of_getElem? (by assumption))))) rfl ?_
 refine Ea (o_adds rfl rfl (by simp only [List.length_append, List.length_cons, List.length_nil]; omega)) (Ea (Ee rfl) (Ed (q_blkN (Ec (Eb [1, 3, 4] rfl (Eg (Ea (Ee rfl) ?_)))))))
 first | refine Ea (o_addn rfl rfl (by omega)) ?_ | refine Ea (o_add rfl rfl) ?_
 refine Ea (Ee rfl) (Ed (q_loopN ?_))
 · refine ⟨i + 1, by omega, by omega, hasOf ⟨?_, rfl, trivial⟩ rfl⟩
   rw [← acc_next (by assumption)]; rfl
 intro h6
 try rw [nnp] at h6
 first | (have hok : x.ok = true := h6; obtain ⟨hz, hb, ha, h8, hd⟩ := ok_facts hok; have hsz := sz_at hz; have hbz := bst_at hb; have hwz := wr_at x.write; have hal := itoa_len (i64_ok (n := x.addr) (by omega))) | skip
 refine s_exit (q_seqX (q_loopX (q_blkH (Ec (Eb [3] rfl (Ef (Eg (Ea (Ee rfl) (Ea (Ee rfl) (Ed (Ec ?_)))))))))))
 refine Eb [2] rfl (Ej (ret_leafR rfl rfl ?_))
 rotate_left
 intro h5
 try rw [nnp] at h5
 first | (have hok : x.ok = true := h5; obtain ⟨hz, hb, ha, h8, hd⟩ := ok_facts hok; have hsz := sz_at hz; have hbz := bst_at hb; have hwz := wr_at x.write; have hal := itoa_len (i64_ok (n := x.addr) (by omega))) | skip
 refine Et (Ec (Eb [1, 3] rfl (Ef (Ef (Eg (Ea (Ee rfl) (Ed (Ec (Eb [1, 3, 4] rfl (Fb ?_))))))))))
 first | refine s_eqv 3 rfl (congrArg (fun l : List UInt8 => V.w (.string ⟨l.toArray⟩)) (acc_0t (wr_t (by assumption)) (by assumption))) ?_ | refine s_eqv 3 rfl (congrArg (fun l : List UInt8 => V.w (.string ⟨l.toArray⟩)) (acc_0t (wr_f (by assumption)) (by assumption))) ?_ | refine s_eqv 3 rfl (congrArg (fun l : List UInt8 => V.w (.string ⟨l.toArray⟩)) (acc_0f (wr_t (by assumption)) (by assumption))) ?_ | refine s_eqv 3 rfl (congrArg (fun l : List UInt8 => V.w (.string ⟨l.toArray⟩)) (acc_0f (wr_f (by assumption)) (by assumption))) ?_
 refine S_loop (ι := Nat) (fun i => i ≤ x.data.length) (fun i => [(3, .w (.string ⟨(Lib.join (reqAcc x (x.data.take i)) [32]).toArray⟩)), (4, .w (.int .i64 (i : Int)))]) (fun i => [.cell x.r, .arr 1 (szN.map stR), .arr 1 (bstN.map stR)]) (fun i => x.data.length - i) 3 0 (by simp) rfl (hasOf ⟨rfl, rfl, trivial⟩ rfl) rfl (fun _ _ => rfl) (fun _ _ => ⟨rfl, rfl⟩) ?_
 intro i hi
 have hjl := accJ_len (by assumption) i
 refine Eb [1, 3, 4] rfl (Ef (Ef (Eg (Ea (Ee rfl) (Ea (Ep rfl) (Ea (Ey rfl rfl rfl) ?_))))))
 first | refine Ea (o_lenM rfl) ?_ | refine Ea (o_len rfl) ?_ | refine Ea (o_lenL rfl rfl rfl) ?_ | refine Ea (o_lenN rfl) ?_
 refine Ea (o_lss rfl rfl) (Ed (Ec (Eb [1, 3, 4, 38] rfl ?_)))
 first | refine Em rfl ?_ ?_ | refine Ek rfl ?_ ?_
 intro h8
 try rw [nnp] at h8
 first | (have hok : x.ok = true := h8; obtain ⟨hz, hb, ha, h8, hd⟩ := ok_facts hok; have hsz := sz_at hz; have hbz := bst_at hb; have hwz := wr_at x.write; have hal := itoa_len (i64_ok (n := x.addr) (by omega))) | skip
 refine Et (Ec (Eb [1, 3, 4] rfl (Ef (Fb (Eg (Ea (Ee rfl) (Ea (o_adds rfl rfl (by simp only [List.length_append, List.length_cons, List.length_nil]; omega)) (Ea (Ep rfl) (Ea (Ey rfl rfl rfl) (Ea (Ee rfl) (s_iaM rfl rfl (by first | omega | (simp only [List.length_cons, List.length_nil]; omega)) ?_)))))))))))
 intro y9 e9
 simp only [Int.toNat_natCast] at e9
 have hyl := itoa_len (i64_ok (hd _ (List.mem_of_getElem? e9)))
 refine Ea (o_ld rfl rfl) ?_
 first | refine Ew rfl rfl (c_187 _ (i64_ok (hd _ (List.mem_of_getElem? (by assumption))))) ?_ | refine Fa rfl rfl (by simp) (c_187 _ (i64_ok (hd _ (List.mem_of_getElem? (by assumption))))) rfl ?_
 refine Ea (o_adds rfl rfl (by simp only [List.length_append, List.length_cons, List.length_nil]; omega)) (Ea (Ee rfl) (Ed (q_blkN (Ec (Eb [1, 3, 4] rfl (Eg (Ea (Ee rfl) ?_)))))))
 first | refine Ea (o_addn rfl rfl (by omega)) ?_ | refine Ea (o_add rfl rfl) ?_
 refine Ea (Ee rfl) (Ed (q_loopN ?_))
 · refine ⟨i + 1, by omega, by omega, hasOf ⟨?_, rfl, trivial⟩ rfl⟩
   rw [← acc_next (by assumption)]; rfl
 intro h8
 try rw [nnp] at h8
 first | (have hok : x.ok = true := h8; obtain ⟨hz, hb, ha, h8, hd⟩ := ok_facts hok; have hsz := sz_at hz; have hbz := bst_at hb; have hwz := wr_at x.write; have hal := itoa_len (i64_ok (n := x.addr) (by omega))) | skip
 refine s_exit (q_seqX (q_loopX (q_blkH (Ec (Eb [3] rfl (Ef (Eg (Ea (Ee rfl) (Ea (Ee rfl) (Ed (Ec ?_)))))))))))
 refine Eb [2] rfl (Ej (ret_leafR rfl rfl ?_))
 rotate_left
 intro h2
 try rw [nnp] at h2
 first | (have hok : x.ok = true := h2; obtain ⟨hz, hb, ha, h8, hd⟩ := ok_facts hok; have hsz := sz_at hz; have hbz := bst_at hb; have hwz := wr_at x.write; have hal := itoa_len (i64_ok (n := x.addr) (by omega))) | skip
 refine Et (Ec (Eb [1, 3] rfl (Ef (Eg (Ea (Ee rfl) (Ea (o_adds rfl rfl (by simp only [List.length_append, List.length_cons, List.length_nil]; omega)) (Ea (o_bs rfl rfl rfl rfl) (Ea (Ep rfl) (Ea (Ey rfl rfl rfl) (Ea (o_iaL rfl rfl rfl rfl (by first | omega | (simp only [List.length_cons, List.length_nil]; omega))) (Ea (o_ldA rfl rfl rfl (by first | exact hsz.1 | exact hbz.1) rfl) ?_)))))))))))
 refine Ea (o_adds rfl rfl (by simp only [List.length_append, List.length_cons, List.length_nil]; omega)) (Ea (o_adds rfl rfl (by simp only [List.length_append, List.length_cons, List.length_nil]; omega)) (Ea (o_bs rfl rfl rfl rfl) (Ea (Ep rfl) (Ea (Ey rfl rfl rfl) (Ea (o_iaL rfl rfl rfl rfl (by first | omega | (simp only [List.length_cons, List.length_nil]; omega))) (Ea (o_ldA rfl rfl rfl (by first | exact hsz.1 | exact hbz.1) rfl) (Fd (is := [1, 18, 23]) rfl (Ea (o_adds rfl rfl (by simp only [List.length_append, List.length_cons, List.length_nil]; omega)) (Ea (o_adds rfl rfl (by simp only [List.length_append, List.length_cons, List.length_nil]; omega)) (Ea (Ep rfl) (Ea (Ey rfl rfl rfl) ?_)))))))))))
 first | refine Ew rfl rfl (c_187 _ (by omega)) ?_ | refine Fa rfl rfl (by simp) (c_187 _ (by omega)) rfl ?_
 refine Ea (o_adds rfl rfl (by simp only [List.length_append, List.length_cons, List.length_nil]; omega)) (Ea (Ee rfl) (Ed (Ec (Eb [1, 3] rfl (Ef (Ef (Eg (Ea (Ep rfl) (Ea (Ey rfl rfl rfl) (Ed (Ec ?_)))))))))))
 refine Eb [1, 3, 31] rfl ?_
 first | refine Em rfl ?_ ?_ | refine s_condN rfl ?_ ?_ | refine s_condNB rfl ?_ ?_ | refine Ek rfl ?_ ?_
 intro h12
 try rw [nnp] at h12
 first | (have hok : x.ok = true := h12; obtain ⟨hz, hb, ha, h8, hd⟩ := ok_facts hok; have hsz := sz_at hz; have hbz := bst_at hb; have hwz := wr_at x.write; have hal := itoa_len (i64_ok (n := x.addr) (by omega))) | skip
 refine Eg (Ea (Ee rfl) (Ea (o_adds rfl rfl (by simp only [List.length_append, List.length_cons, List.length_nil]; omega)) (Ea (Ee rfl) (Ed (Ec (Eb [1, 3] rfl (Ef (Ef (Eg (Ea (Ee rfl) (Ed ?_)))))))))))
 refine Ec (Eb [1, 3, 4] rfl (Fb ?_))
 first | refine s_eqv 3 rfl (congrArg (fun l : List UInt8 => V.w (.string ⟨l.toArray⟩)) (acc_0t (wr_t (by assumption)) (by assumption))) ?_ | refine s_eqv 3 rfl (congrArg (fun l : List UInt8 => V.w (.string ⟨l.toArray⟩)) (acc_0t (wr_f (by assumption)) (by assumption))) ?_ | refine s_eqv 3 rfl (congrArg (fun l : List UInt8 => V.w (.string ⟨l.toArray⟩)) (acc_0f (wr_t (by assumption)) (by assumption))) ?_ | refine s_eqv 3 rfl (congrArg (fun l : List UInt8 => V.w (.string ⟨l.toArray⟩)) (acc_0f (wr_f (by assumption)) (by assumption))) ?_
 refine S_loop (ι := Nat) (fun i => i ≤ x.data.length) (fun i => [(3, .w (.string ⟨(Lib.join (reqAcc x (x.data.take i)) [32]).toArray⟩)), (4, .w (.int .i64 (i : Int)))]) (fun i => [.cell x.r, .arr 1 (szN.map stR), .arr 1 (bstN.map stR)]) (fun i => x.data.length - i) 3 0 (by simp) rfl (hasOf ⟨rfl, rfl, trivial⟩ rfl) rfl (fun _ _ => rfl) (fun _ _ => ⟨rfl, rfl⟩) ?_
 intro i hi
 have hjl := accJ_len (by assumption) i
 refine Eb [1, 3, 4] rfl (Ef (Ef (Eg (Ea (Ee rfl) (Ea (Ep rfl) (Ea (Ey rfl rfl rfl) ?_))))))
 first | refine Ea (o_lenM rfl) ?_ | refine Ea (o_len rfl) ?_ | refine Ea (o_lenL rfl rfl rfl) ?_ | refine Ea (o_lenN rfl) ?_
 refine Ea (o_lss rfl rfl) (Ed (Ec (Eb [1, 3, 4, 38] rfl ?_)))
 first | refine Em rfl ?_ ?_ | refine Ek rfl ?_ ?_
 intro h13
 try rw [nnp] at h13
 first | (have hok : x.ok = true := h13; obtain ⟨hz, hb, ha, h8, hd⟩ := ok_facts hok; have hsz := sz_at hz; have hbz := bst_at hb; have hwz := wr_at x.write; have hal := itoa_len (i64_ok (n := x.addr) (by omega))) | skip
 refine Et (Ec (Eb [1, 3, 4] rfl (Ef (Fb (Eg (Ea (Ee rfl) (Ea (o_adds rfl rfl (by simp only [List.length_append, List.length_cons, List.length_nil]; omega)) (Ea (Ep rfl) (Ea (Ey rfl rfl rfl) (Ea (Ee rfl) (s_iaM rfl rfl (by first | omega | (simp only [List.length_cons, List.length_nil]; omega)) ?_)))))))))))
 intro y14 e14
 simp only [Int.toNat_natCast] at e14
 have hyl := itoa_len (i64_ok (hd _ (List.mem_of_getElem? e14)))
 refine Ea (o_ld rfl rfl) ?_
 first | refine Ew rfl rfl (c_187 _ (i64_ok (hd _ (List.mem_of_getElem? (by assumption))))) ?_ | refine Fa rfl rfl (by simp) (c_187 _ (i64_ok (hd _ (List.mem_of_getElem? (by assumption))))) rfl ?_
 refine Ea (o_adds rfl rfl (by simp only [List.length_append, List.length_cons, List.length_nil]; omega)) (Ea (Ee rfl) (Ed (q_blkN (Ec (Eb [1, 3, 4] rfl (Eg (Ea (Ee rfl) ?_)))))))
 first | refine Ea (o_addn rfl rfl (by omega)) ?_ | refine Ea (o_add rfl rfl) ?_
 refine Ea (Ee rfl) (Ed (q_loopN ?_))
 · refine ⟨i + 1, by omega, by omega, hasOf ⟨?_, rfl, trivial⟩ rfl⟩
   rw [← acc_next (by assumption)]; rfl
 intro h13
 try rw [nnp] at h13
 first | (have hok : x.ok = true := h13; obtain ⟨hz, hb, ha, h8, hd⟩ := ok_facts hok; have hsz := sz_at hz; have hbz := bst_at hb; have hwz := wr_at x.write; have hal := itoa_len (i64_ok (n := x.addr) (by omega))) | skip
 refine s_exit (q_seqX (q_loopX (q_blkH (Ec (Eb [3] rfl (Ef (Eg (Ea (Ee rfl) (Ea (Ee rfl) (Ed (Ec ?_)))))))))))
 refine Eb [2] rfl (Ej (ret_leafR rfl rfl ?_))
 rotate_left
 intro h12
 try rw [nnp] at h12
 first | (have hok : x.ok = true := h12; obtain ⟨hz, hb, ha, h8, hd⟩ := ok_facts hok; have hsz := sz_at hz; have hbz := bst_at hb; have hwz := wr_at x.write; have hal := itoa_len (i64_ok (n := x.addr) (by omega))) | skip
 refine Et (Ec (Eb [1, 3] rfl (Ef (Ef (Eg (Ea (Ee rfl) (Ed (Ec (Eb [1, 3, 4] rfl (Fb ?_))))))))))
 first | refine s_eqv 3 rfl (congrArg (fun l : List UInt8 => V.w (.string ⟨l.toArray⟩)) (acc_0t (wr_t (by assumption)) (by assumption))) ?_ | refine s_eqv 3 rfl (congrArg (fun l : List UInt8 => V.w (.string ⟨l.toArray⟩)) (acc_0t (wr_f (by assumption)) (by assumption))) ?_ | refine s_eqv 3 rfl (congrArg (fun l : List UInt8 => V.w (.string ⟨l.toArray⟩)) (acc_0f (wr_t (by assumption)) (by assumption))) ?_ | refine s_eqv 3 rfl (congrArg (fun l : List UInt8 => V.w (.string ⟨l.toArray⟩)) (acc_0f (wr_f (by assumption)) (by assumption))) ?_
 refine S_loop (ι := Nat) (fun i => i ≤ x.data.length) (fun i => [(3, .w (.string ⟨(Lib.join (reqAcc x (x.data.take i)) [32]).toArray⟩)), (4, .w (.int .i64 (i : Int)))]) (fun i => [.cell x.r, .arr 1 (szN.map stR), .arr 1 (bstN.map stR)]) (fun i => x.data.length - i) 3 0 (by simp) rfl (hasOf ⟨rfl, rfl, trivial⟩ rfl) rfl (fun _ _ => rfl) (fun _ _ => ⟨rfl, rfl⟩) ?_
 intro i hi
 have hjl := accJ_len (by assumption) i
 refine Eb [1, 3, 4] rfl (Ef (Ef (Eg (Ea (Ee rfl) (Ea (Ep rfl) (Ea (Ey rfl rfl rfl) ?_))))))
 first | refine Ea (o_lenM rfl) ?_ | refine Ea (o_len rfl) ?_ | refine Ea (o_lenL rfl rfl rfl) ?_ | refine Ea (o_lenN rfl) ?_
 refine Ea (o_lss rfl rfl) (Ed (Ec (Eb [1, 3, 4, 38] rfl ?_)))
 first | refine Em rfl ?_ ?_ | refine Ek rfl ?_ ?_
 intro h15
 try rw [nnp] at h15
 first | (have hok : x.ok = true := h15; obtain ⟨hz, hb, ha, h8, hd⟩ := ok_facts hok; have hsz := sz_at hz; have hbz := bst_at hb; have hwz := wr_at x.write; have hal := itoa_len (i64_ok (n := x.addr) (by omega))) | skip
 refine Et (Ec (Eb [1, 3, 4] rfl (Ef (Fb (Eg (Ea (Ee rfl) (Ea (o_adds rfl rfl (by simp only [List.length_append, List.length_cons, List.length_nil]; omega)) (Ea (Ep rfl) (Ea (Ey rfl rfl rfl) (Ea (Ee rfl) (s_iaM rfl rfl (by first | omega | (simp only [List.length_cons, List.length_nil]; omega)) ?_)))))))))))
 intro y16 e16
 simp only [Int.toNat_natCast] at e16
 have hyl := itoa_len (i64_ok (hd _ (List.mem_of_getElem? e16)))
 refine Ea (o_ld rfl rfl) ?_
 first | refine Ew rfl rfl (c_187 _ (i64_ok (hd _ (List.mem_of_getElem? (by assumption))))) ?_ | refine Fa rfl rfl (by simp) (c_187 _ (i64_ok (hd _ (List.mem_of_getElem? (by assumption))))) rfl ?_
 refine Ea (o_adds rfl rfl (by simp only [List.length_append, List.length_cons, List.length_nil]; omega)) (Ea (Ee rfl) (Ed (q_blkN (Ec (Eb [1, 3, 4] rfl (Eg (Ea (Ee rfl) ?_)))))))
 first | refine Ea (o_addn rfl rfl (by omega)) ?_ | refine Ea (o_add rfl rfl) ?_
 refine Ea (Ee rfl) (Ed (q_loopN ?_))
 · refine ⟨i + 1, by omega, by omega, hasOf ⟨?_, rfl, trivial⟩ rfl⟩
   rw [← acc_next (by assumption)]; rfl
 intro h15
 try rw [nnp] at h15
 first | (have hok : x.ok = true := h15; obtain ⟨hz, hb, ha, h8, hd⟩ := ok_facts hok; have hsz := sz_at hz; have hbz := bst_at hb; have hwz := wr_at x.write; have hal := itoa_len (i64_ok (n := x.addr) (by omega))) | skip
 refine s_exit (q_seqX (q_loopX (q_blkH (Ec (Eb [3] rfl (Ef (Eg (Ea (Ee rfl) (Ea (Ee rfl) (Ed (Ec ?_)))))))))))
 refine Eb [2] rfl (Ej (ret_leafR rfl rfl ?_))
 rotate_left
 all_goals
  first | exact reqT_0 (by assumption) | exact reqT_1 (by assumption) (by omega)
theorem c_457 (x : Req) (hs : x.small) : CV prg 457 [.agg x.r] (fun res => res = .w (.string ⟨(reqT x).toArray⟩)) := by
 refine cv_in g457 (Eb [0] rfl (Ef (Eg (Ea (o_box rfl rfl rfl) (Ea (Ee rfl) (Ed (Ec (Eb [1] rfl (Ef (Ef (Eg ?_)))))))))))
 refine Ea (o_ldnC rfl rfl rfl) ?_
 first | refine Ew rfl rfl (c_66 x hs) ?_ | refine Fa rfl rfl (by simp) (c_66 x hs) rfl ?_
 refine Ea (o_not rfl) (Ed (Ec (Eb [1, 6] rfl ?_)))
 first | refine Em rfl ?_ ?_ | refine s_condN rfl ?_ ?_ | refine s_condNB rfl ?_ ?_ | refine Ek rfl ?_ ?_
 intro h1
 try rw [nnp] at h1
 first | (have hok : x.ok = true := h1; obtain ⟨hz, hb, ha, h8, hd⟩ := ok_facts hok; have hsz := sz_at hz; have hbz := bst_at hb; have hwz := wr_at x.write; have hal := itoa_len (i64_ok (n := x.addr) (by omega))) | skip
 refine Ef (Eg (Ea (Ee rfl) (Ed (Ec (Eb [2] rfl (Ej (Eu (ret_leafR rfl rfl ?_))))))))
 rotate_left
 intro h1
 try rw [nnp] at h1
 first | (have hok : x.ok = true := h1; obtain ⟨hz, hb, ha, h8, hd⟩ := ok_facts hok; have hsz := sz_at hz; have hbz := bst_at hb; have hwz := wr_at x.write; have hal := itoa_len (i64_ok (n := x.addr) (by omega))) | skip
 refine Et (Ec (Eb [1] rfl (Ef (Eg (Ea (Ep rfl) (Ea (Ey rfl rfl rfl) ?_))))))
 first | refine Ew rfl rfl (c_468 _) ?_ | refine Fa rfl rfl (by simp) (c_468 _) rfl ?_
 refine Ew rfl rfl c_465 (Ea (Ep rfl) (Ea (Ey rfl rfl rfl) (s_iaM rfl rfl (by first | omega | (rw [show szN.length = 3 from rfl]; omega) | (rw [show bstN.length = 4 from rfl]; omega)) ?_)))
 intro y2 e2
 first | (rw [hsz.2.1] at e2; cases e2) | (rw [hbz.2.1] at e2; cases e2)
 refine Ea (o_ld rfl rfl) (Ew rfl rfl c_466 (Ea (Ep rfl) (Ea (Ey rfl rfl rfl) (s_iaM rfl rfl (by first | omega | (rw [show szN.length = 3 from rfl]; omega) | (rw [show bstN.length = 4 from rfl]; omega)) ?_))))
 intro y3 e3
 first | (rw [hsz.2.1] at e3; cases e3) | (rw [hbz.2.1] at e3; cases e3)
 refine Ea (o_ld rfl rfl) (Ea (Ep rfl) (Fd (is := [1, 9, 14, 19, 20]) rfl (Ea (Ey rfl rfl rfl) ?_)))
 first | refine Ew rfl rfl (c_38 _ (by omega)) ?_ | refine Fa rfl rfl (by simp) (c_38 _ (by omega)) rfl ?_
 refine Ea (o_bs rfl rfl rfl rfl) (Ea (Ee rfl) (Ed (Ec (Eb [1, 3] rfl (Ef (Ef (Eg (Ea (Ep rfl) (Ea (Ey rfl rfl rfl) (Ed (Ec ?_)))))))))))
 refine Eb [1, 3, 25] rfl ?_
 first | refine Em rfl ?_ ?_ | refine s_condN rfl ?_ ?_ | refine s_condNB rfl ?_ ?_ | refine Ek rfl ?_ ?_
 intro h4
 try rw [nnp] at h4
 first | (have hok : x.ok = true := h4; obtain ⟨hz, hb, ha, h8, hd⟩ := ok_facts hok; have hsz := sz_at hz; have hbz := bst_at hb; have hwz := wr_at x.write; have hal := itoa_len (i64_ok (n := x.addr) (by omega))) | skip
 refine Eg (Ea (Ee rfl) (Ea (o_bs rfl rfl rfl rfl) ?_))
 first | refine Ea (o_appL rfl rfl rfl rfl rfl rfl rfl (by first | (simp [roomy]; done) | (simp [roomy]; omega))) ?_ | refine Ea (o_app rfl rfl rfl rfl rfl (by first | (simp [roomy]; done) | (simp [roomy]; omega))) ?_
 refine Ea (Ee rfl) (Ed (Ec (Eb [1, 3] rfl (Ef (Eg (Ea (Ee rfl) (Ea (Ep rfl) (Ea (Ey rfl rfl rfl) (Fc [] rfl rfl rfl rfl (by simp) (.inl rfl) (cg_84m x.data hs (i64_data hd)) ?_)))))))))
 rintro u L1 ⟨rfl, rfl⟩
 refine ⟨_, _, rfl, rfl, ?_⟩
 first | refine Ea (o_appL rfl rfl rfl rfl rfl rfl rfl (by first | (simp [roomy]; done) | (simp [roomy]; omega))) ?_ | refine Ea (o_app rfl rfl rfl rfl rfl (by first | (simp [roomy]; done) | (simp [roomy]; omega))) ?_
 first | refine Fa rfl rfl (by simp) (cn_407 (reqHead x ++ [lockW] ++ x.data.map Lib.itoa) [32] (by simp [reqHead]) (by simp [reqHead]; omega) (accT_len (by assumption) (by assumption))) rfl ?_ | refine Fa rfl rfl (by simp) (cn_407 (reqHead x ++ x.data.map Lib.itoa) [32] (by simp [reqHead]) (by simp [reqHead]; omega) (accF_len (by assumption) (by assumption))) rfl ?_
 refine Ea (Ee rfl) (Ed (Ec (Eb [2] rfl (Ej (ret_leafR rfl rfl ?_)))))
 rotate_left
 intro h4
 try rw [nnp] at h4
 first | (have hok : x.ok = true := h4; obtain ⟨hz, hb, ha, h8, hd⟩ := ok_facts hok; have hsz := sz_at hz; have hbz := bst_at hb; have hwz := wr_at x.write; have hal := itoa_len (i64_ok (n := x.addr) (by omega))) | skip
 refine Et (Ec (Eb [1, 3] rfl (Ef (Eg (Ea (Ee rfl) (Ea (Ep rfl) (Ea (Ey rfl rfl rfl) (Fc [] rfl rfl rfl rfl (by simp) (.inl rfl) (cg_84m x.data hs (i64_data hd)) ?_))))))))
 rintro u L1 ⟨rfl, rfl⟩
 refine ⟨_, _, rfl, rfl, ?_⟩
 first | refine Ea (o_appL rfl rfl rfl rfl rfl rfl rfl (by first | (simp [roomy]; done) | (simp [roomy]; omega))) ?_ | refine Ea (o_app rfl rfl rfl rfl rfl (by first | (simp [roomy]; done) | (simp [roomy]; omega))) ?_
 first | refine Fa rfl rfl (by simp) (cn_407 (reqHead x ++ [lockW] ++ x.data.map Lib.itoa) [32] (by simp [reqHead]) (by simp [reqHead]; omega) (accT_len (by assumption) (by assumption))) rfl ?_ | refine Fa rfl rfl (by simp) (cn_407 (reqHead x ++ x.data.map Lib.itoa) [32] (by simp [reqHead]) (by simp [reqHead]; omega) (accF_len (by assumption) (by assumption))) rfl ?_
 refine Ea (Ee rfl) (Ed (Ec (Eb [2] rfl (Ej (ret_leafR rfl rfl ?_)))))
 rotate_left
 all_goals
  first | exact reqT_0 (by assumption) | exact reqT_T (by assumption) (by assumption) | exact reqT_F (by assumption) (by assumption)
theorem four_of {ws : List (List UInt8)} (h : ¬ (ws.length : Int) < 4) : ∃ y0 y1 y2 y3 xs, ws = y0 :: y1 :: y2 :: y3 :: xs := by
 match ws, h with
 | [], h => simp at h
 | [_], h => simp at h
 | [_, _], h => simp at h
 | [_, _, _], h => simp at h
 | a :: b :: c :: d :: r, _ => exact ⟨a, b, c, d, r, rfl⟩
theorem parW_eq {s y0 y1 y2 y3 : List UInt8} {xs ws : List (List UInt8)} {lk : Bool} (f : List UInt8 → Int) (e4 : cutL 32 s = y0 :: y1 :: y2 :: y3 :: xs) (hh : lk = hasL xs) (hg : restL xs = ws) : (⟨decide (y0 = [119, 114, 105, 116, 101]), f y3, idxS szN y1, idxS bstN y2, lk, ws.map f⟩ : Req) = parW f (cutL 32 s) := by
 subst hh; subst hg; rw [e4]; rfl
theorem rqs_few {s : List UInt8} (h : ((cutL 32 s).length : Int) < 4) : V.tup [.agg zR.r, .w (.bool false)] = V.tup [.agg (readQ s).1.r, .w (.bool (readQ s).2)] := by rw [rq_few h]
theorem rqs_no {s y0 y1 y2 y3 : List UInt8} {xs ws : List (List UInt8)} {lk : Bool} (e4 : cutL 32 s = y0 :: y1 :: y2 :: y3 :: xs) (hh : lk = hasL xs) (hg : restL xs = ws) (h : ¬ reqT (⟨decide (y0 = [119, 114, 105, 116, 101]), numS y3, idxS szN y1, idxS bstN y2, lk, ws.map numS⟩ : Req) = s) : V.tup [.agg zR.r, .w (.bool false)] = V.tup [.agg (readQ s).1.r, .w (.bool (readQ s).2)] := by
 rw [parW_eq numS e4 hh hg] at h; rw [rq_no h]
theorem rqs_yes {s y0 y1 y2 y3 : List UInt8} {xs ws : List (List UInt8)} {lk : Bool} (e4 : cutL 32 s = y0 :: y1 :: y2 :: y3 :: xs) (hh : lk = hasL xs) (hg : restL xs = ws) (h : reqT (⟨decide (y0 = [119, 114, 105, 116, 101]), numS y3, idxS szN y1, idxS bstN y2, lk, ws.map numS⟩ : Req) = s) : V.tup [.agg (⟨decide (y0 = [119, 114, 105, 116, 101]), numS y3, idxS szN y1, idxS bstN y2, lk, ws.map numS⟩ : Req).r, .w (.bool true)] = V.tup [.agg (readQ s).1.r, .w (.bool (readQ s).2)] := by
 rw [parW_eq numS e4 hh hg] at h ⊢; rw [rq_yes (by rw [e4]; simp; omega) h]
theorem lk_n {xs : List (List UInt8)} (h : ¬ (0 : Int) < xs.length) : hasL xs = false ∧ restL xs = xs := by
 cases xs with
 | nil => exact ⟨rfl, rfl⟩
 | cons a l => simp at h
theorem lk_f {xs : List (List UInt8)} {y : List UInt8} (h : xs[Int.toNat 0]? = some y) (h2 : ¬ y = [108, 111, 99, 107]) : hasL xs = false ∧ restL xs = xs := by
 cases xs with
 | nil => cases h
 | cons a l =>
   have : a = y := by simpa using h
   subst this
   have g : ¬ (a :: l).head? = some lockW := fun e => h2 (Option.some.inj e)
   exact ⟨decide_eq_false g, by rw [restL, if_neg g]⟩
theorem lk_t {xs : List (List UInt8)} {y : List UInt8} (h : xs[Int.toNat 0]? = some y) (h2 : y = [108, 111, 99, 107]) : hasL xs = true ∧ restL xs = xs.drop 1 := by
 cases xs with
 | nil => cases h
 | cons a l =>
   have : a = y := by simpa using h
   subst this
   have g : (a :: l).head? = some lockW := by rw [h2]; rfl
   exact ⟨decide_eq_true g, by rw [restL, if_pos g]⟩
theorem rest_mem {xs ws : List (List UInt8)} (h : restL xs = ws) : (∀ w, w ∈ ws → w ∈ xs) ∧ ws.length ≤ xs.length := by
 subst h; unfold restL
 split
 · exact ⟨fun w hw => List.mem_of_mem_drop hw, by simp⟩
 · exact ⟨fun w hw => hw, Nat.le_refl _⟩
theorem cut_four {s y0 y1 y2 y3 : List UInt8} {xs : List (List UInt8)} (hs : s.length ≤ 1048576) (e4 : cutL 32 s = y0 :: y1 :: y2 :: y3 :: xs) : (∀ w, w ∈ y0 :: y1 :: y2 :: y3 :: xs → w.length ≤ 1048576) ∧ xs.length ≤ 1048573 := by
 have h1 := cut_mem 32 s
 have h2 := cut_cnt 32 s
 rw [e4] at h1 h2
 refine ⟨fun w hw => by have := h1 w hw; omega, ?_⟩
 simp only [List.length_cons] at h2; omega
theorem sl4 {y0 y1 y2 y3 : List UInt8} {xs : List (List UInt8)} : (((y0 :: y1 :: y2 :: y3 :: xs).map stR).take ((((y0 :: y1 :: y2 :: y3 :: xs).map stR).length : Nat) : Int).toNat).drop (Int.toNat 4) = xs.map stR := by
 rw [Int.toNat_natCast, List.take_of_length_le (Nat.le_refl _)]; rfl
theorem sl1 {xs : List (List UInt8)} : ((xs.map stR).take (((xs.map stR).length : Nat) : Int).toNat).drop (Int.toNat 1) = (xs.drop 1).map stR := by
 rw [Int.toNat_natCast, List.take_of_length_le (Nat.le_refl _), List.map_drop]; rfl
theorem some_pos {xs : List (List UInt8)} {y : List UInt8} (h : xs[Int.toNat 0]? = some y) : 0 < xs.length := by
 cases xs with
 | nil => cases h
 | cons a l => simp
theorem numS_next {ws : List (List UInt8)} {i : Nat} {w : List UInt8} (h : ws[i]? = some w) : ((ws.take (i + 1)).map numS).map iR = ((ws.take i).map numS).map iR ++ [iR (numS w)] := by
 rw [take_get h, List.map_append, List.map_append]; rfl
set_option maxHeartbeats 1000000 in
theorem c_453 (s : List UInt8) (hs : s.length ≤ 1048576) : CV prg 453 [.w (.string ⟨(s).toArray⟩)] (fun res => res = .tup [.agg (readQ s).1.r, .w (.bool (readQ s).2)]) := by
 refine cv_in g453 (Eb [0] rfl (Ef (Eg (Ea (o_new rfl rfl) (Ea (Ee rfl) (Ed (Ec (Eb [0, 2] rfl (Ef (Eg (Ea (Ee rfl) ?_)))))))))))
 refine Ew rfl rfl (c_459 s hs) (Ea (Ee rfl) (Ed (Ec (Eb [0, 2, 4] rfl (Ef (Ef (Eg (Ea (Ee rfl) ?_))))))))
 first | refine Ea (o_lenM rfl) ?_ | refine Ea (o_len rfl) ?_ | refine Ea (o_lenL rfl rfl rfl) ?_ | refine Ea (o_lenN rfl) ?_
 refine Ea (o_lss rfl rfl) (Ed (Ec (Eb [0, 2, 4, 11] rfl ?_)))
 first | refine Em rfl ?_ ?_ | refine Ek rfl ?_ ?_
 intro h1
 try rw [nnp] at h1
 first | (have h4 : ¬ ((cutL 32 s).length : Int) < 4 := h1; obtain ⟨u0, u1, u2, u3, xs, ee⟩ := four_of h4; obtain ⟨hcw, hxl⟩ := cut_four hs ee; rw [ee]) | skip
 refine Ef (Eg (Ea (o_bd rfl rfl) (s_opN (o_stnC rfl rfl rfl rfl rfl rfl rfl) (Ea (Ee rfl) (Ed (Ec (Eb [2, 3] rfl ?_)))))))
 first | refine s_nilC 0 5 1 rfl rfl rfl rfl rfl ?_ | skip
 refine Ej (Eu ?_)
 · refine ret_leafP (.inr rfl) rfl rfl (by simp) ?_
   first | exact rqs_few (by assumption) | exact rqs_no ee hlk hg (by assumption) | exact rqs_yes ee hlk hg (by assumption)
 intro h1
 try rw [nnp] at h1
 first | (have h4 : ¬ ((cutL 32 s).length : Int) < 4 := h1; obtain ⟨u0, u1, u2, u3, xs, ee⟩ := four_of h4; obtain ⟨hcw, hxl⟩ := cut_four hs ee; rw [ee]) | skip
 refine Et (Ec (Eb [0, 2, 4] rfl (Ef (Eg (Ea (Ee rfl) (s_iaM rfl rfl (by simp at *; omega) ?_))))))
 intro y2 e2
 first | (obtain rfl := Option.some.inj e2) | (simp only [Int.toNat_natCast] at e2) | skip
 refine Ea (o_ld rfl rfl) (Ea (o_eqls rfl rfl) (Ea (o_bs rfl rfl rfl rfl) (Ea (Ee rfl) (s_iaM rfl rfl (by simp at *; omega) ?_))))
 intro y3 e3
 first | (obtain rfl := Option.some.inj e3) | (simp only [Int.toNat_natCast] at e3) | skip
 refine Ea (o_ld rfl rfl) (Fa rfl rfl (by simp) (c_460 szN _ (by decide)) rfl (Ea (o_bs rfl rfl rfl rfl) (Ea (Ee rfl) (s_iaM rfl rfl (by simp at *; omega) ?_))))
 intro y4 e4
 first | (obtain rfl := Option.some.inj e4) | (simp only [Int.toNat_natCast] at e4) | skip
 refine Ea (o_ld rfl rfl) (Fa rfl rfl (by simp) (c_460 bstN _ (by decide)) rfl (Fd (is := [0, 2, 4, 16, 21, 26]) rfl (Ea (o_bd rfl rfl) (Ea (o_new rfl rfl) (s_opN (o_stnC rfl rfl rfl rfl rfl rfl rfl) (Ed (Ec (Eb [0, 2, 4, 5] rfl (Ef (Eg (Ea (Ee rfl) ?_)))))))))))
 refine s_iaM rfl rfl (by simp at *; omega) ?_
 intro y5 e5
 first | (obtain rfl := Option.some.inj e5) | (simp only [Int.toNat_natCast] at e5) | skip
 refine Ea (o_ld rfl rfl) ?_
 first | refine Ew rfl rfl (c_461 _ (hcw _ (by simp))) ?_ | refine Fa rfl rfl (by simp) (c_461 _ (hcw _ (by simp))) rfl ?_
 refine Ea (Ep rfl) (s_opN (o_stC rfl rfl rfl rfl rfl rfl) (Ed (Ec (Eb [0, 2, 4, 5] rfl (Ef (Eg (Ea (Ee rfl) (Ea (o_sl rfl rfl rfl (by first | (simp; done) | (simp; omega) | (have hx1 := some_pos (by assumption); simp; omega)) (by first | (simp; done) | (simp; omega) | (have hx1 := some_pos (by assumption); simp; omega))) ?_))))))))
 rw [sl4]
 refine Ea (Ee rfl) (Ed (Ec (Eb [0, 2, 4, 5] rfl (Ef (Ef (Eg (Ea (Ee rfl) ?_)))))))
 first | refine Ea (o_lenM rfl) ?_ | refine Ea (o_len rfl) ?_
 refine Ea (o_gtr rfl rfl) (Ea (Ee rfl) ?_)
 first | refine s_gDT rfl ?_ ?_ | refine s_gB rfl ?_ ?_
 intro h6
 try rw [nnp] at h6
 first | (have h4 : ¬ ((cutL 32 s).length : Int) < 4 := h6; obtain ⟨u0, u1, u2, u3, xs, ee⟩ := four_of h4; obtain ⟨hcw, hxl⟩ := cut_four hs ee; rw [ee]) | skip
 refine Ea (Ee rfl) (Ev rfl (s_iaM rfl rfl (by simp at *; omega) ?_))
 intro y7 e7
 first | (obtain rfl := Option.some.inj e7) | (simp only [Int.toNat_natCast] at e7) | skip
 refine Ev rfl (Ea (o_ld rfl rfl) (Ev rfl (Ea (o_eqls rfl rfl) (Ea (Er rfl rfl) (Ed (Ec (Eb [0, 2, 4, 5, 43] rfl ?_)))))))
 first | refine Em rfl ?_ ?_ | refine Ek rfl ?_ ?_
 intro h8
 try rw [nnp] at h8
 first | (have h4 : ¬ ((cutL 32 s).length : Int) < 4 := h8; obtain ⟨u0, u1, u2, u3, xs, ee⟩ := four_of h4; obtain ⟨hcw, hxl⟩ := cut_four hs ee; rw [ee]) | skip
 refine Ef (Eg (Ea (Ep rfl) (s_opN (o_stC rfl rfl rfl rfl rfl rfl) (Ed (Ec (Eb [0, 2, 4, 5] rfl (Eg (Ea (Ee rfl) (Ea (o_sl rfl rfl rfl (by first | (simp; done) | (simp; omega) | (have hx1 := some_pos (by assumption); simp; omega)) (by first | (simp; done) | (simp; omega) | (have hx1 := some_pos (by assumption); simp; omega))) ?_)))))))))
 rw [sl1]
 refine Ea (Ee rfl) (Ed (Ec (Eb [0, 2, 4, 5] rfl (Ef (Ef (Eg (Ea (Ee rfl) (Ed (Ec (Eb [0, 2, 4, 5, 6] rfl (Fb ?_)))))))))))
 first | have hR := lk_t (xs := xs) (by assumption) (by assumption) | have hR := lk_f (xs := xs) (by assumption) (by assumption) | have hR := lk_n (xs := xs) (by assumption)
 rw [← hR.2]
 obtain ⟨ws, hg⟩ : ∃ ws, restL xs = ws := ⟨_, rfl⟩
 rw [hg]
 have hrm := rest_mem hg
 refine s_nilC 3 5 1 rfl rfl rfl rfl rfl (S_loop (ι := Nat × Bool) (fun p => p.1 ≤ ws.length ∧ p.2 = hasL xs) (fun p => [(6, .w (.int .i64 (p.1 : Int)))]) (fun p => [.cell [.w (.bool false), .w (.int .i64 0), .w (.int .i64 0), .w (.int .i64 0), .w (.bool false), .w (.slice none 0 0)], .arr 1 (szN.map stR), .arr 1 (bstN.map stR), .cell [.w (.bool (decide (u0 = [119, 114, 105, 116, 101]))), .w (.int .i64 (numS u3)), .w (.int .i64 (idxS szN u1)), .w (.int .i64 (idxS bstN u2)), .w (.bool p.2), .ls 4 (((ws.take p.1).map numS).map iR).length], .arr 1 (((ws.take p.1).map numS).map iR)]) (fun p => ws.length - p.1) 5 (0, _) ⟨Nat.zero_le _, hR.1.symm⟩ rfl (hasOf ⟨rfl, trivial⟩ rfl) rfl (fun _ _ => rfl) (fun _ _ => ⟨rfl, rfl⟩) ?_)
 rintro ⟨i, lk⟩ ⟨hi, hlk⟩
 simp only at hi hlk
 refine Eb [0, 2, 4, 5, 6] rfl ?_
 dsimp only
 refine Ef (Ef (Eg (Ea (Ee rfl) (Ea (Ee rfl) ?_))))
 first | refine Ea (o_lenM rfl) ?_ | refine Ea (o_len rfl) ?_
 refine Ea (o_lss rfl rfl) (Ed (Ec (Eb [0, 2, 4, 5, 6, 50] rfl ?_)))
 first | refine Em rfl ?_ ?_ | refine Ek rfl ?_ ?_
 intro h9
 try rw [nnp] at h9
 first | (have h4 : ¬ ((cutL 32 s).length : Int) < 4 := h9; obtain ⟨u0, u1, u2, u3, xs, ee⟩ := four_of h4; obtain ⟨hcw, hxl⟩ := cut_four hs ee; rw [ee]) | skip
 refine Et (Ec (Eb [0, 2, 4, 5, 6] rfl (Ef (Fb (Eg (Ea (Ep rfl) (Ea (Ey rfl rfl rfl) (Ea (Ee rfl) (Ea (Ee rfl) (s_iaM rfl rfl (by simp at *; omega) ?_))))))))))
 intro y10 e10
 first | (obtain rfl := Option.some.inj e10) | (simp only [Int.toNat_natCast] at e10) | skip
 refine Ea (o_ld rfl rfl) ?_
 first | refine Ew rfl rfl (c_461 _ (hcw _ (by simp [hrm.1 _ (List.mem_of_getElem? (by assumption))]))) ?_ | refine Fa rfl rfl (by simp) (c_461 _ (hcw _ (by simp [hrm.1 _ (List.mem_of_getElem? (by assumption))]))) rfl ?_
 refine Ea (o_bs rfl rfl rfl rfl) ?_
 first | refine Ea (o_appL rfl rfl rfl rfl rfl rfl rfl (by simp [roomy]; omega)) ?_ | refine Ea (o_app rfl rfl rfl rfl rfl (by simp [roomy]; omega)) ?_
 refine Ea (Ep rfl) (s_opN (o_stC rfl rfl rfl rfl rfl rfl) (Ed (q_blkN (Ec (Eb [0, 2, 4, 5, 6] rfl (Eg (Ea (Ee rfl) ?_)))))))
 first | refine Ea (o_addn rfl rfl (by omega)) ?_ | refine Ea (o_add rfl rfl) ?_
 refine Ea (Ee rfl) (Ed (q_loopN ?_))
 · refine ⟨(i + 1, lk), ⟨by simp only; omega, hlk⟩, by simp only; omega, hasOf ⟨rfl, trivial⟩ ?_⟩
   simp only
   rw [numS_next (by assumption)]; rfl
 intro h9
 try rw [nnp] at h9
 first | (have h4 : ¬ ((cutL 32 s).length : Int) < 4 := h9; obtain ⟨u0, u1, u2, u3, xs, ee⟩ := four_of h4; obtain ⟨hcw, hxl⟩ := cut_four hs ee; rw [ee]) | skip
 refine s_exit (q_seqX (q_loopX (q_blkH (Ec (Eb [0, 2, 5] rfl (Ef (Ef (Eg ?_))))))))
 rw [take_end (show ws.length ≤ i by omega)]
 refine Ea (o_ldnC rfl rfl rfl) ?_
 first | refine Ew rfl rfl (c_462 ⟨decide (u0 = [119, 114, 105, 116, 101]), numS u3, idxS szN u1, idxS bstN u2, lk, ws.map numS⟩ (by show (ws.map numS).length ≤ 1048576; rw [List.length_map]; omega)) ?_ | refine Fa rfl rfl (by simp) (c_462 ⟨decide (u0 = [119, 114, 105, 116, 101]), numS u3, idxS szN u1, idxS bstN u2, lk, ws.map numS⟩ (by show (ws.map numS).length ≤ 1048576; rw [List.length_map]; omega)) rfl ?_
 refine Ea (Ee rfl) (Ea (o_neqs rfl rfl) (Ed (Ec (Eb [2, 5, 66] rfl ?_))))
 first | refine Em rfl ?_ ?_ | refine Ek rfl ?_ ?_
 intro h11
 try rw [nnp] at h11
 first | (have h4 : ¬ ((cutL 32 s).length : Int) < 4 := h11; obtain ⟨u0, u1, u2, u3, xs, ee⟩ := four_of h4; obtain ⟨hcw, hxl⟩ := cut_four hs ee; rw [ee]) | skip
 refine Ef (Eg (Ea (o_bd rfl rfl) (s_opN (o_stnC rfl rfl rfl rfl rfl rfl rfl) (Ea (Ee rfl) (Ed (Ec (Eb [2, 3] rfl ?_)))))))
 first | refine s_nilC 0 5 1 rfl rfl rfl rfl rfl ?_ | skip
 refine Ej (Eu ?_)
 · refine ret_leafP (.inr rfl) rfl rfl (by simp) ?_
   first | exact rqs_few (by assumption) | exact rqs_no ee hlk hg (by assumption) | exact rqs_yes ee hlk hg (by assumption)
 intro h11
 try rw [nnp] at h11
 first | (have h4 : ¬ ((cutL 32 s).length : Int) < 4 := h11; obtain ⟨u0, u1, u2, u3, xs, ee⟩ := four_of h4; obtain ⟨hcw, hxl⟩ := cut_four hs ee; rw [ee]) | skip
 refine Et (Ec (Eb [2, 5] rfl (Ef (Eg (Ea (o_ldnC rfl rfl rfl) (s_opN (o_stnC rfl rfl rfl rfl rfl rfl rfl) (Ea (Ee rfl) (Ed (Ec (Eb [2, 3] rfl ?_))))))))))
 first | refine s_nilC 0 5 1 rfl rfl rfl rfl rfl ?_ | skip
 refine Ej ?_
 · refine ret_leafP (.inr rfl) rfl rfl (by simp) ?_
   first | exact rqs_few (by assumption) | exact rqs_no ee hlk hg (by assumption) | exact rqs_yes ee hlk hg (by assumption)
 intro h8
 try rw [nnp] at h8
 first | (have h4 : ¬ ((cutL 32 s).length : Int) < 4 := h8; obtain ⟨u0, u1, u2, u3, xs, ee⟩ := four_of h4; obtain ⟨hcw, hxl⟩ := cut_four hs ee; rw [ee]) | skip
 refine Et (Ec (Eb [0, 2, 4, 5] rfl (Ef (Ef (Eg (Ea (Ee rfl) (Ed (Ec (Eb [0, 2, 4, 5, 6] rfl (Fb ?_))))))))))
 first | have hR := lk_t (xs := xs) (by assumption) (by assumption) | have hR := lk_f (xs := xs) (by assumption) (by assumption) | have hR := lk_n (xs := xs) (by assumption)
 rw [← hR.2]
 obtain ⟨ws, hg⟩ : ∃ ws, restL xs = ws := ⟨_, rfl⟩
 rw [hg]
 have hrm := rest_mem hg
 refine s_nilC 3 5 1 rfl rfl rfl rfl rfl (S_loop (ι := Nat × Bool) (fun p => p.1 ≤ ws.length ∧ p.2 = hasL xs) (fun p => [(6, .w (.int .i64 (p.1 : Int)))]) (fun p => [.cell [.w (.bool false), .w (.int .i64 0), .w (.int .i64 0), .w (.int .i64 0), .w (.bool false), .w (.slice none 0 0)], .arr 1 (szN.map stR), .arr 1 (bstN.map stR), .cell [.w (.bool (decide (u0 = [119, 114, 105, 116, 101]))), .w (.int .i64 (numS u3)), .w (.int .i64 (idxS szN u1)), .w (.int .i64 (idxS bstN u2)), .w (.bool p.2), .ls 4 (((ws.take p.1).map numS).map iR).length], .arr 1 (((ws.take p.1).map numS).map iR)]) (fun p => ws.length - p.1) 5 (0, _) ⟨Nat.zero_le _, hR.1.symm⟩ rfl (hasOf ⟨rfl, trivial⟩ rfl) rfl (fun _ _ => rfl) (fun _ _ => ⟨rfl, rfl⟩) ?_)
 rintro ⟨i, lk⟩ ⟨hi, hlk⟩
 simp only at hi hlk
 refine Eb [0, 2, 4, 5, 6] rfl ?_
 dsimp only
 refine Ef (Ef (Eg (Ea (Ee rfl) (Ea (Ee rfl) ?_))))
 first | refine Ea (o_lenM rfl) ?_ | refine Ea (o_len rfl) ?_
 refine Ea (o_lss rfl rfl) (Ed (Ec (Eb [0, 2, 4, 5, 6, 50] rfl ?_)))
 first | refine Em rfl ?_ ?_ | refine Ek rfl ?_ ?_
 intro h12
 try rw [nnp] at h12
 first | (have h4 : ¬ ((cutL 32 s).length : Int) < 4 := h12; obtain ⟨u0, u1, u2, u3, xs, ee⟩ := four_of h4; obtain ⟨hcw, hxl⟩ := cut_four hs ee; rw [ee]) | skip
 refine Et (Ec (Eb [0, 2, 4, 5, 6] rfl (Ef (Fb (Eg (Ea (Ep rfl) (Ea (Ey rfl rfl rfl) (Ea (Ee rfl) (Ea (Ee rfl) (s_iaM rfl rfl (by simp at *; omega) ?_))))))))))
 intro y13 e13
 first | (obtain rfl := Option.some.inj e13) | (simp only [Int.toNat_natCast] at e13) | skip
 refine Ea (o_ld rfl rfl) ?_
 first | refine Ew rfl rfl (c_461 _ (hcw _ (by simp [hrm.1 _ (List.mem_of_getElem? (by assumption))]))) ?_ | refine Fa rfl rfl (by simp) (c_461 _ (hcw _ (by simp [hrm.1 _ (List.mem_of_getElem? (by assumption))]))) rfl ?_
 refine Ea (o_bs rfl rfl rfl rfl) ?_
 first | refine Ea (o_appL rfl rfl rfl rfl rfl rfl rfl (by simp [roomy]; omega)) ?_ | refine Ea (o_app rfl rfl rfl rfl rfl (by simp [roomy]; omega)) ?_
 refine Ea (Ep rfl) (s_opN (o_stC rfl rfl rfl rfl rfl rfl) (Ed (q_blkN (Ec (Eb [0, 2, 4, 5, 6] rfl (Eg (Ea (Ee rfl) ?_)))))))
 first | refine Ea (o_addn rfl rfl (by omega)) ?_ | refine Ea (o_add rfl rfl) ?_
 refine Ea (Ee rfl) (Ed (q_loopN ?_))
 · refine ⟨(i + 1, lk), ⟨by simp only; omega, hlk⟩, by simp only; omega, hasOf ⟨rfl, trivial⟩ ?_⟩
   simp only
   rw [numS_next (by assumption)]; rfl
 intro h12
 try rw [nnp] at h12
 first | (have h4 : ¬ ((cutL 32 s).length : Int) < 4 := h12; obtain ⟨u0, u1, u2, u3, xs, ee⟩ := four_of h4; obtain ⟨hcw, hxl⟩ := cut_four hs ee; rw [ee]) | skip
 refine s_exit (q_seqX (q_loopX (q_blkH (Ec (Eb [0, 2, 5] rfl (Ef (Ef (Eg ?_))))))))
 rw [take_end (show ws.length ≤ i by omega)]
 refine Ea (o_ldnC rfl rfl rfl) ?_
 first | refine Ew rfl rfl (c_462 ⟨decide (u0 = [119, 114, 105, 116, 101]), numS u3, idxS szN u1, idxS bstN u2, lk, ws.map numS⟩ (by show (ws.map numS).length ≤ 1048576; rw [List.length_map]; omega)) ?_ | refine Fa rfl rfl (by simp) (c_462 ⟨decide (u0 = [119, 114, 105, 116, 101]), numS u3, idxS szN u1, idxS bstN u2, lk, ws.map numS⟩ (by show (ws.map numS).length ≤ 1048576; rw [List.length_map]; omega)) rfl ?_
 refine Ea (Ee rfl) (Ea (o_neqs rfl rfl) (Ed (Ec (Eb [2, 5, 66] rfl ?_))))
 first | refine Em rfl ?_ ?_ | refine Ek rfl ?_ ?_
 intro h14
 try rw [nnp] at h14
 first | (have h4 : ¬ ((cutL 32 s).length : Int) < 4 := h14; obtain ⟨u0, u1, u2, u3, xs, ee⟩ := four_of h4; obtain ⟨hcw, hxl⟩ := cut_four hs ee; rw [ee]) | skip
 refine Ef (Eg (Ea (o_bd rfl rfl) (s_opN (o_stnC rfl rfl rfl rfl rfl rfl rfl) (Ea (Ee rfl) (Ed (Ec (Eb [2, 3] rfl ?_)))))))
 first | refine s_nilC 0 5 1 rfl rfl rfl rfl rfl ?_ | skip
 refine Ej (Eu ?_)
 · refine ret_leafP (.inr rfl) rfl rfl (by simp) ?_
   first | exact rqs_few (by assumption) | exact rqs_no ee hlk hg (by assumption) | exact rqs_yes ee hlk hg (by assumption)
 intro h14
 try rw [nnp] at h14
 first | (have h4 : ¬ ((cutL 32 s).length : Int) < 4 := h14; obtain ⟨u0, u1, u2, u3, xs, ee⟩ := four_of h4; obtain ⟨hcw, hxl⟩ := cut_four hs ee; rw [ee]) | skip
 refine Et (Ec (Eb [2, 5] rfl (Ef (Eg (Ea (o_ldnC rfl rfl rfl) (s_opN (o_stnC rfl rfl rfl rfl rfl rfl rfl) (Ea (Ee rfl) (Ed (Ec (Eb [2, 3] rfl ?_))))))))))
 first | refine s_nilC 0 5 1 rfl rfl rfl rfl rfl ?_ | skip
 refine Ej ?_
 · refine ret_leafP (.inr rfl) rfl rfl (by simp) ?_
   first | exact rqs_few (by assumption) | exact rqs_no ee hlk hg (by assumption) | exact rqs_yes ee hlk hg (by assumption)
 intro h6
 try rw [nnp] at h6
 first | (have h4 : ¬ ((cutL 32 s).length : Int) < 4 := h6; obtain ⟨u0, u1, u2, u3, xs, ee⟩ := four_of h4; obtain ⟨hcw, hxl⟩ := cut_four hs ee; rw [ee]) | skip
 refine Eh rfl (Eh rfl (Eh rfl (Eh rfl (Ea (En rfl rfl) (Ed (Ec (Eb [0, 2, 4, 5, 43] rfl (s_condF rfl (Et (Ec (Eb [0, 2, 4, 5] rfl ?_)))))))))))
 refine Ef (Ef (Eg (Ea (Ee rfl) (Ed (Ec (Eb [0, 2, 4, 5, 6] rfl (Fb ?_)))))))
 first | have hR := lk_t (xs := xs) (by assumption) (by assumption) | have hR := lk_f (xs := xs) (by assumption) (by assumption) | have hR := lk_n (xs := xs) (by assumption)
 rw [← hR.2]
 obtain ⟨ws, hg⟩ : ∃ ws, restL xs = ws := ⟨_, rfl⟩
 rw [hg]
 have hrm := rest_mem hg
 refine s_nilC 3 5 1 rfl rfl rfl rfl rfl (S_loop (ι := Nat × Bool) (fun p => p.1 ≤ ws.length ∧ p.2 = hasL xs) (fun p => [(6, .w (.int .i64 (p.1 : Int)))]) (fun p => [.cell [.w (.bool false), .w (.int .i64 0), .w (.int .i64 0), .w (.int .i64 0), .w (.bool false), .w (.slice none 0 0)], .arr 1 (szN.map stR), .arr 1 (bstN.map stR), .cell [.w (.bool (decide (u0 = [119, 114, 105, 116, 101]))), .w (.int .i64 (numS u3)), .w (.int .i64 (idxS szN u1)), .w (.int .i64 (idxS bstN u2)), .w (.bool p.2), .ls 4 (((ws.take p.1).map numS).map iR).length], .arr 1 (((ws.take p.1).map numS).map iR)]) (fun p => ws.length - p.1) 5 (0, _) ⟨Nat.zero_le _, hR.1.symm⟩ rfl (hasOf ⟨rfl, trivial⟩ rfl) rfl (fun _ _ => rfl) (fun _ _ => ⟨rfl, rfl⟩) ?_)
 rintro ⟨i, lk⟩ ⟨hi, hlk⟩
 simp only at hi hlk
 refine Eb [0, 2, 4, 5, 6] rfl ?_
 dsimp only
 refine Ef (Ef (Eg (Ea (Ee rfl) (Ea (Ee rfl) ?_))))
 first | refine Ea (o_lenM rfl) ?_ | refine Ea (o_len rfl) ?_
 refine Ea (o_lss rfl rfl) (Ed (Ec (Eb [0, 2, 4, 5, 6, 50] rfl ?_)))
 first | refine Em rfl ?_ ?_ | refine Ek rfl ?_ ?_
 intro h15
 try rw [nnp] at h15
 first | (have h4 : ¬ ((cutL 32 s).length : Int) < 4 := h15; obtain ⟨u0, u1, u2, u3, xs, ee⟩ := four_of h4; obtain ⟨hcw, hxl⟩ := cut_four hs ee; rw [ee]) | skip
 refine Et (Ec (Eb [0, 2, 4, 5, 6] rfl (Ef (Fb (Eg (Ea (Ep rfl) (Ea (Ey rfl rfl rfl) (Ea (Ee rfl) (Ea (Ee rfl) (s_iaM rfl rfl (by simp at *; omega) ?_))))))))))
 intro y16 e16
 first | (obtain rfl := Option.some.inj e16) | (simp only [Int.toNat_natCast] at e16) | skip
 refine Ea (o_ld rfl rfl) ?_
 first | refine Ew rfl rfl (c_461 _ (hcw _ (by simp [hrm.1 _ (List.mem_of_getElem? (by assumption))]))) ?_ | refine Fa rfl rfl (by simp) (c_461 _ (hcw _ (by simp [hrm.1 _ (List.mem_of_getElem? (by assumption))]))) rfl ?_
 refine Ea (o_bs rfl rfl rfl rfl) ?_
 first | refine Ea (o_appL rfl rfl rfl rfl rfl rfl rfl (by simp [roomy]; omega)) ?_ | refine Ea (o_app rfl rfl rfl rfl rfl (by simp [roomy]; omega)) ?_
 refine Ea (Ep rfl) (s_opN (o_stC rfl rfl rfl rfl rfl rfl) (Ed (q_blkN (Ec (Eb [0, 2, 4, 5, 6] rfl (Eg (Ea (Ee rfl) ?_)))))))
 first | refine Ea (o_addn rfl rfl (by omega)) ?_ | refine Ea (o_add rfl rfl) ?_
 refine Ea (Ee rfl) (Ed (q_loopN ?_))
 · refine ⟨(i + 1, lk), ⟨by simp only; omega, hlk⟩, by simp only; omega, hasOf ⟨rfl, trivial⟩ ?_⟩
   simp only
   rw [numS_next (by assumption)]; rfl
 intro h15
 try rw [nnp] at h15
 first | (have h4 : ¬ ((cutL 32 s).length : Int) < 4 := h15; obtain ⟨u0, u1, u2, u3, xs, ee⟩ := four_of h4; obtain ⟨hcw, hxl⟩ := cut_four hs ee; rw [ee]) | skip
 refine s_exit (q_seqX (q_loopX (q_blkH (Ec (Eb [0, 2, 5] rfl (Ef (Ef (Eg ?_))))))))
 rw [take_end (show ws.length ≤ i by omega)]
 refine Ea (o_ldnC rfl rfl rfl) ?_
 first | refine Ew rfl rfl (c_462 ⟨decide (u0 = [119, 114, 105, 116, 101]), numS u3, idxS szN u1, idxS bstN u2, lk, ws.map numS⟩ (by show (ws.map numS).length ≤ 1048576; rw [List.length_map]; omega)) ?_ | refine Fa rfl rfl (by simp) (c_462 ⟨decide (u0 = [119, 114, 105, 116, 101]), numS u3, idxS szN u1, idxS bstN u2, lk, ws.map numS⟩ (by show (ws.map numS).length ≤ 1048576; rw [List.length_map]; omega)) rfl ?_
 refine Ea (Ee rfl) (Ea (o_neqs rfl rfl) (Ed (Ec (Eb [2, 5, 66] rfl ?_))))
 first | refine Em rfl ?_ ?_ | refine Ek rfl ?_ ?_
 intro h17
 try rw [nnp] at h17
 first | (have h4 : ¬ ((cutL 32 s).length : Int) < 4 := h17; obtain ⟨u0, u1, u2, u3, xs, ee⟩ := four_of h4; obtain ⟨hcw, hxl⟩ := cut_four hs ee; rw [ee]) | skip
 refine Ef (Eg (Ea (o_bd rfl rfl) (s_opN (o_stnC rfl rfl rfl rfl rfl rfl rfl) (Ea (Ee rfl) (Ed (Ec (Eb [2, 3] rfl ?_)))))))
 first | refine s_nilC 0 5 1 rfl rfl rfl rfl rfl ?_ | skip
 refine Ej (Eu ?_)
 · refine ret_leafP (.inr rfl) rfl rfl (by simp) ?_
   first | exact rqs_few (by assumption) | exact rqs_no ee hlk hg (by assumption) | exact rqs_yes ee hlk hg (by assumption)
 intro h17
 try rw [nnp] at h17
 first | (have h4 : ¬ ((cutL 32 s).length : Int) < 4 := h17; obtain ⟨u0, u1, u2, u3, xs, ee⟩ := four_of h4; obtain ⟨hcw, hxl⟩ := cut_four hs ee; rw [ee]) | skip
 refine Et (Ec (Eb [2, 5] rfl (Ef (Eg (Ea (o_ldnC rfl rfl rfl) (s_opN (o_stnC rfl rfl rfl rfl rfl rfl rfl) (Ea (Ee rfl) (Ed (Ec (Eb [2, 3] rfl ?_))))))))))
 first | refine s_nilC 0 5 1 rfl rfl rfl rfl rfl ?_ | skip
 refine Ej ?_
 · refine ret_leafP (.inr rfl) rfl rfl (by simp) ?_
   first | exact rqs_few (by assumption) | exact rqs_no ee hlk hg (by assumption) | exact rqs_yes ee hlk hg (by assumption)
theorem riq_num {s u0 u1 u2 u3 : List UInt8} {xs : List (List UInt8)} {a : Int} {one : Bool} (ee : cutL 32 s = u0 :: u1 :: u2 :: u3 :: xs) (hn : numN u3 18 = (a, one)) (h : one = false) : readQ s = (zR, false) :=
 ri_num (by rw [ee]; show (numN u3 18).2 = false; rw [hn]; exact h)
theorem Ez {s u0 u1 u2 u3 : List UInt8} {xs ws : List (List UInt8)} (ee : cutL 32 s = u0 :: u1 :: u2 :: u3 :: xs) (hg : restL xs = ws) (h : (ws.all fun w => (numN w 18).2) = false) : readQ s = (zR, false) :=
 ri_nums (by rw [ee]; show ((restL xs).all fun w => (numN w 18).2) = false; rw [hg]; exact h)
theorem riq_eq {s u0 u1 u2 u3 : List UInt8} {xs ws : List (List UInt8)} {a : Int} {one lk : Bool} (ee : cutL 32 s = u0 :: u1 :: u2 :: u3 :: xs) (hh : hasL xs = lk) (hg : restL xs = ws) (hn : numN u3 18 = (a, one)) : (⟨decide (u0 = [119, 114, 105, 116, 101]), a, idxS szN u1, idxS bstN u2, lk, ws.map fN⟩ : Req) = parW fN (cutL 32 s) := by
 rw [← parW_eq fN ee hh.symm hg, fN, hn]
theorem riq_ok {s u0 u1 u2 u3 : List UInt8} {xs ws : List (List UInt8)} {a : Int} {one lk : Bool} (ee : cutL 32 s = u0 :: u1 :: u2 :: u3 :: xs) (hh : hasL xs = lk) (hg : restL xs = ws) (hn : numN u3 18 = (a, one)) (h : Req.ok ⟨decide (u0 = [119, 114, 105, 116, 101]), a, idxS szN u1, idxS bstN u2, lk, ws.map fN⟩ = false) : readQ s = (zR, false) := by
 rw [riq_eq ee hh hg hn] at h; exact ri_ok (by rw [h]; decide)
theorem riq_no {s u0 u1 u2 u3 : List UInt8} {xs ws : List (List UInt8)} {a : Int} {one lk : Bool} (ee : cutL 32 s = u0 :: u1 :: u2 :: u3 :: xs) (hh : hasL xs = lk) (hg : restL xs = ws) (hn : numN u3 18 = (a, one)) (h : ¬ reqT ⟨decide (u0 = [119, 114, 105, 116, 101]), a, idxS szN u1, idxS bstN u2, lk, ws.map fN⟩ = s) : readQ s = (zR, false) := by
 rw [riq_eq ee hh hg hn] at h; exact ri_no h
theorem riq_yes {s u0 u1 u2 u3 : List UInt8} {xs ws : List (List UInt8)} {a : Int} {one lk : Bool} (ee : cutL 32 s = u0 :: u1 :: u2 :: u3 :: xs) (hh : hasL xs = lk) (hg : restL xs = ws) (hn : numN u3 18 = (a, one)) (h : Req.ok ⟨decide (u0 = [119, 114, 105, 116, 101]), a, idxS szN u1, idxS bstN u2, lk, ws.map fN⟩ = true) (h2 : reqT ⟨decide (u0 = [119, 114, 105, 116, 101]), a, idxS szN u1, idxS bstN u2, lk, ws.map fN⟩ = s) : readQ s = (⟨decide (u0 = [119, 114, 105, 116, 101]), a, idxS szN u1, idxS bstN u2, lk, ws.map fN⟩, true) := by
 rw [riq_eq ee hh hg hn] at h h2 ⊢; exact ri_yes h h2
end Go.Proofs.YtoppcdecolponaaGreatDoor.AL
