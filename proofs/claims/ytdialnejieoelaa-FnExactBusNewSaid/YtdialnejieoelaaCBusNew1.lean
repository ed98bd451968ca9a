/- What functions do with plain data, each by the form of its code. Printed by program. -/
import Derived.Test.YtdialnejieoelaaCBusNew0
namespace Go.Proofs.Ytdialnejieoelaa.AL
open Go
set_option linter.unusedVariables false
set_option linter.unusedSimpArgs false
set_option maxRecDepth 4096
theorem cg_388 (xs : List MConf) (k : Int) (hl : xs.length ≤ 1048576) (hk : 0 ≤ k ∧ k ≤ 1099511627776) : GV prg 388 [.arr 4 (xs.map MConf.r)] [.ls 0 xs.length, .w (.int .i64 k)] (fun u L1 => u = .w (.int .i64 (k + 4 * xs.length)) ∧ L1 = [.arr 4 (((List.range xs.length).map (markC k)).map MConf.r)]) := by
 refine gv_in g388 (Eb [0, 1] rfl (Ee (Eg (Ea (Ef rfl) (Ed (Ec (Eb [0, 1] rfl (Ee (Ee (Eg (Ea (Ef rfl) ?_)))))))))))
 refine Ed (Ec (Eb [0, 1, 5] rfl (S_block (S_loop (ι := Nat) (fun i => i ≤ xs.length) (fun i => [(5, .w (.int .i64 (i : Int))), (1, .w (.int .i64 (k + 4 * (i : Int))))]) (fun i => [.arr 4 (mix MConf.r (markC k) xs i)]) (fun i => xs.length - i) 1 0 (by simp) rfl (hasOf ⟨rfl, congrArg (fun b => some (V.w (.int .i64 b))) (by simp), trivial⟩ (by rw [mix_zero]; rfl)) rfl (fun _ _ => rfl) (fun _ _ => ⟨rfl, rfl⟩) ?_))))
 intro i hi
 obtain ⟨y0, hy0⟩ : ∃ y, i < xs.length → xs[i]? = some y := by
  by_cases h : i < xs.length
  · exact ⟨xs[i], fun _ => List.getElem?_eq_getElem h⟩
  · exact ⟨markC k 0, fun h2 => absurd h2 h⟩
 refine Eb [0, 1, 5] rfl (Ee (Ee (Eg (Ea (Ef rfl) (Ea (Ef rfl) (Ea (o_lenL rfl rfl (by (try simp only [Int.toNat_natCast, List.length_set]); first | exact List.length_map .. | exact Ev _ _ _ _ hi)) (Ea (o_lss rfl rfl) (Ed (Ec (Eb [0, 1, 5, 9] rfl ?_))))))))))
 first | refine Em rfl ?_ ?_ | refine Ej rfl ?_ ?_
 intro h1
 try rw [nnp] at h1
 refine Eo (Ec (Eb [0, 1, 5] rfl (Ee (S_block (Ee (Eg (Ea (Ef rfl) (Ea (Ef rfl) (Ea (Ef rfl) (Ea (o_iaL rfl rfl (by (try simp only [Int.toNat_natCast, List.length_set]); first | exact List.length_map .. | exact Ev _ _ _ _ hi) rfl (by omega)) (Ea (o_faA rfl rfl (by (try simp only [Int.toNat_natCast, List.length_set]); first | exact List.length_map .. | exact Ev _ _ _ _ hi)) ?_)))))))))))
 refine s_opN (o_stA rfl rfl rfl rfl (by (try simp only [Int.toNat_natCast, List.length_set]); first | exact List.length_map .. | exact Ev _ _ _ _ hi) (by (try rw [Int.toNat_natCast]); first | exact set_at (by (try simp only [List.length_set]); rw [Ev _ _ _ _ hi]; omega) | exact mix_at _ _ (hy0 (by omega))) rfl rfl) (Ed (Ec (Eb [0, 1, 5] rfl (Ee (Eg (Ea (Ef rfl) ?_))))))
 first | refine Ea (o_addn rfl rfl (by omega)) ?_ | refine Ea (o_add rfl rfl) ?_
 refine Ea (Ef rfl) (Ed (Ec (Eb [0, 1, 5] rfl (Ee (Eg (Ea (Ef rfl) (Ea (Ef rfl) (Ea (Ef rfl) ?_))))))))
 first | refine Ea (o_rem rfl rfl (by decide)) ?_ | refine Ea (o_rem rfl rfl (by omega)) ?_
 refine Ea (o_eql rfl rfl) (Ea (o_iaL rfl rfl (by (try simp only [Int.toNat_natCast, List.length_set]); first | exact List.length_map .. | exact Ev _ _ _ _ hi) rfl (by omega)) (Ea (o_faA rfl rfl (by (try simp only [Int.toNat_natCast, List.length_set]); first | exact List.length_map .. | exact Ev _ _ _ _ hi)) (s_opN (o_stA rfl rfl rfl rfl (by (try simp only [Int.toNat_natCast, List.length_set]); first | exact List.length_map .. | exact Ev _ _ _ _ hi) (by (try rw [Int.toNat_natCast]); first | exact set_at (by (try simp only [List.length_set]); rw [Ev _ _ _ _ hi]; omega) | exact mix_at _ _ (hy0 (by omega))) rfl rfl) (Ed (Ec (Eb [0, 1, 5] rfl (Ee (Eg (Ea (Ef rfl) ?_)))))))))
 first | refine Ea (o_addn rfl rfl (by omega)) ?_ | refine Ea (o_add rfl rfl) ?_
 refine Ea (Ef rfl) (Ed (Ec (Eb [0, 1, 5] rfl (Ee (Eg (Ea (Ef rfl) (Ea (Ef rfl) (Ea (Ef rfl) (Ea (o_iaL rfl rfl (by (try simp only [Int.toNat_natCast, List.length_set]); first | exact List.length_map .. | exact Ev _ _ _ _ hi) rfl (by omega)) (Ea (o_faA rfl rfl (by (try simp only [Int.toNat_natCast, List.length_set]); first | exact List.length_map .. | exact Ev _ _ _ _ hi)) (s_opN (o_stA rfl rfl rfl rfl (by (try simp only [Int.toNat_natCast, List.length_set]); first | exact List.length_map .. | exact Ev _ _ _ _ hi) (by (try rw [Int.toNat_natCast]); first | exact set_at (by (try simp only [List.length_set]); rw [Ev _ _ _ _ hi]; omega) | exact mix_at _ _ (hy0 (by omega))) rfl rfl) ?_)))))))))))
 refine Ed (Ec (Eb [0, 1, 5] rfl (Ee (Eg (Ea (Ef rfl) ?_)))))
 first | refine Ea (o_addn rfl rfl (by omega)) ?_ | refine Ea (o_add rfl rfl) ?_
 refine Ea (Ef rfl) (Ed (Ec (Eb [0, 1, 5] rfl (Ee (Eg (Ea (Ef rfl) (Ea (Ef rfl) (Ea (Ef rfl) (Ea (o_iaL rfl rfl (by (try simp only [Int.toNat_natCast, List.length_set]); first | exact List.length_map .. | exact Ev _ _ _ _ hi) rfl (by omega)) (Ea (o_faA rfl rfl (by (try simp only [Int.toNat_natCast, List.length_set]); first | exact List.length_map .. | exact Ev _ _ _ _ hi)) (s_opN (o_stA rfl rfl rfl rfl (by (try simp only [Int.toNat_natCast, List.length_set]); first | exact List.length_map .. | exact Ev _ _ _ _ hi) (by (try rw [Int.toNat_natCast]); first | exact set_at (by (try simp only [List.length_set]); rw [Ev _ _ _ _ hi]; omega) | exact mix_at _ _ (hy0 (by omega))) rfl rfl) ?_)))))))))))
 refine Ed (Ec (Eb [0, 1, 5] rfl (Eg (Ea (Ef rfl) ?_))))
 first | refine Ea (o_addn rfl rfl (by omega)) ?_ | refine Ea (o_add rfl rfl) ?_
 refine Ea (Ef rfl) (Ed (q_blkN (Ec (Eb [0, 1, 5] rfl (Eg (Ea (Ef rfl) ?_))))))
 first | refine Ea (o_addn rfl rfl (by omega)) ?_ | refine Ea (o_add rfl rfl) ?_
 refine Ea (Ef rfl) (Ed (q_loopN ?_))
 · refine ⟨i + 1, by omega, by omega, hasOf ⟨rfl, congrArg (fun b => some (V.w (.int .i64 b))) (by omega), trivial⟩ ?_⟩
   simp only [Int.toNat_natCast, sets2]
   rw [← mix_set _ _ (by assumption)]; rfl
 intro h1
 try rw [nnp] at h1
 refine s_exit (q_seqX (q_loopX (q_blkH (Ec (Eb [1] rfl (Ee (Eg (Ea (Ef rfl) (Ea (Ef rfl) (Ed (Ec ?_)))))))))))
 refine Eb [4] rfl (En ?_)
 · refine retG_leaf [] (.inr rfl) rfl rfl rfl rfl (show (List.range 1 ++ []).Nodup by decide) ?_
   exact ⟨by rw [show (i : Int) = xs.length by omega], by rw [mix_end _ _ _ (by assumption) hi]⟩
theorem c_404 (n : Nat) (k : Int) (hl : n ≤ 1048576) (hk : 0 ≤ k ∧ k ≤ 1099511627776) : CV prg 404 [.sl 4 (((List.range n).map (markC k)).map MConf.r), .w (.int .i64 k)] (fun res => res = .w (.int .i64 (k + 4 * n))) := by
 have hln : ((List.range n).map (markC k)).length = n := by simp
 refine cv_in g404 (Eb [0, 1] rfl (Ee (Eg (Ea (Ef rfl) (Ed (Ec (Eb [0, 1] rfl (Ee (Ee (Eg (Ea (Ef rfl) ?_)))))))))))
 refine Ed (Ec (Eb [0, 1, 5] rfl (S_block (S_loop0 (ι := Nat) (fun i => i ≤ n) (fun i => [(5, .w (.int .i64 (i : Int))), (1, .w (.int .i64 (k + 4 * (i : Int))))]) (fun i => n - i) 0 (by simp) rfl ⟨rfl, congrArg (fun b => some (V.w (.int .i64 b))) (by simp), trivial⟩ (fun _ _ => rfl) rfl ?_))))
 intro i hi
 refine Eb [0, 1, 5] rfl (Ee (Ee (Eg (Ea (Ef rfl) (Ea (Ef rfl) ?_)))))
 first | refine Ea (o_lenM rfl) ?_ | refine Ea (o_len rfl) ?_
 refine Ea (o_lss rfl rfl) (Ed (Ec (Eb [0, 1, 5, 9] rfl ?_)))
 first | refine Em rfl ?_ ?_ | refine Ej rfl ?_ ?_
 intro h1
 try rw [nnp] at h1
 refine Eo (Ec (Eb [0, 1, 5] rfl (Ee (S_block (Ee (Ee (Eg (Ea (Ef rfl) (Ea (Ef rfl) (s_iaM rfl rfl (by omega) ?_))))))))))
 intro y2 e2
 simp only [Int.toNat_natCast] at e2; obtain rfl := mks_at e2
 refine Ea (o_fa rfl) (Ea (o_ld rfl rfl) (Ea (Ef rfl) (Ea (o_neq rfl rfl) (Ed (Ec (Eb [0, 1, 5, 18] rfl ?_))))))
 first | refine Em rfl ?_ ?_ | refine Ej rfl ?_ ?_
 intro h3
 try rw [nnp] at h3
 refine Ee (Eg (Ea (Ef rfl) (Ed (Ec (Eb [4] rfl (En (Ei (q_blkR (Ei (q_loopR (q_blkR ?_)))))))))))
 refine Ei (Eq rfl rfl ?_)
 rotate_left
 intro h3
 try rw [nnp] at h3
 refine Eo (Ec (Eb [0, 1, 5] rfl (Ee (Eg (Ea (Ef rfl) ?_)))))
 first | refine Ea (o_addn rfl rfl (by omega)) ?_ | refine Ea (o_add rfl rfl) ?_
 refine Ea (Ef rfl) (Ed (Ec (Eb [0, 1, 5] rfl (Ee (Ee (Eg (Ea (Ef rfl) (Ea (Ef rfl) (s_iaM rfl rfl (by omega) ?_)))))))))
 intro y4 e4
 simp only [Int.toNat_natCast] at e4; obtain rfl := mks_at e4
 refine Ea (o_fa rfl) (Ea (o_ld rfl rfl) (Ea (Ef rfl) ?_))
 first | refine Ea (o_rem rfl rfl (by decide)) ?_ | refine Ea (o_rem rfl rfl (by omega)) ?_
 refine Ea (o_eql rfl rfl) (Ea (o_eqb rfl rfl) (Ed (Ec (Eb [0, 1, 5, 29] rfl ?_))))
 first | refine Eu rfl ?_ ?_ | refine Ej rfl ?_ ?_
 intro h5
 try rw [nnp] at h5
 refine Ee (Eg (Ea (Ef rfl) (Ed (Ec (Eb [4] rfl (En (Ei (q_blkR (Ei (q_loopR (q_blkR ?_)))))))))))
 refine Ei (Eq rfl rfl ?_)
 rotate_left
 intro h5
 try rw [nnp] at h5
 refine Eo (Ec (Eb [0, 1, 5] rfl (Ee (Eg (Ea (Ef rfl) ?_)))))
 first | refine Ea (o_addn rfl rfl (by omega)) ?_ | refine Ea (o_add rfl rfl) ?_
 refine Ea (Ef rfl) (Ed (Ec (Eb [0, 1, 5] rfl (Ee (Ee (Eg (Ea (Ef rfl) (Ea (Ef rfl) (s_iaM rfl rfl (by omega) ?_)))))))))
 intro y6 e6
 simp only [Int.toNat_natCast] at e6; obtain rfl := mks_at e6
 refine Ea (o_fa rfl) (Ea (o_ld rfl rfl) (Ea (Ef rfl) (Ea (o_neq rfl rfl) (Ed (Ec (Eb [0, 1, 5, 38] rfl ?_))))))
 first | refine Em rfl ?_ ?_ | refine Ej rfl ?_ ?_
 intro h7
 try rw [nnp] at h7
 refine Ee (Eg (Ea (Ef rfl) (Ed (Ec (Eb [4] rfl (En (Ei (q_blkR (Ei (q_loopR (q_blkR ?_)))))))))))
 refine Ei (Eq rfl rfl ?_)
 rotate_left
 intro h7
 try rw [nnp] at h7
 refine Eo (Ec (Eb [0, 1, 5] rfl (Ee (Eg (Ea (Ef rfl) ?_)))))
 first | refine Ea (o_addn rfl rfl (by omega)) ?_ | refine Ea (o_add rfl rfl) ?_
 refine Ea (Ef rfl) (Ed (Ec (Eb [0, 1, 5] rfl (Ee (Ee (Eg (Ea (Ef rfl) (Ea (Ef rfl) (s_iaM rfl rfl (by omega) ?_)))))))))
 intro y8 e8
 simp only [Int.toNat_natCast] at e8; obtain rfl := mks_at e8
 refine Ea (o_fa rfl) (Ea (o_ld rfl rfl) (Ea (Ef rfl) (Ea (o_neq rfl rfl) (Ed (Ec (Eb [0, 1, 5, 47] rfl ?_))))))
 first | refine Em rfl ?_ ?_ | refine Ej rfl ?_ ?_
 intro h9
 try rw [nnp] at h9
 refine Ee (Eg (Ea (Ef rfl) (Ed (Ec (Eb [4] rfl (En (Ei (q_blkR (Ei (q_loopR (q_blkR ?_)))))))))))
 refine Ei (Eq rfl rfl ?_)
 rotate_left
 intro h9
 try rw [nnp] at h9
 refine Eo (Ec (Eb [0, 1, 5] rfl (Eg (Ea (Ef rfl) ?_))))
 first | refine Ea (o_addn rfl rfl (by omega)) ?_ | refine Ea (o_add rfl rfl) ?_
 refine Ea (Ef rfl) (Ed (q_blkN (Ec (Eb [0, 1, 5] rfl (Eg (Ea (Ef rfl) ?_))))))
 first | refine Ea (o_addn rfl rfl (by omega)) ?_ | refine Ea (o_add rfl rfl) ?_
 refine Ea (Ef rfl) (Ed (q_loopN ?_))
 · exact ⟨i + 1, by omega, by omega, hasOf ⟨rfl, congrArg (fun b => some (V.w (.int .i64 b))) (by omega), trivial⟩ rfl⟩
 intro h1
 try rw [nnp] at h1
 refine s_exit (q_seqX (q_loopX (q_blkH (Ec (Eb [1] rfl (Ee (Eg (Ea (Ef rfl) (Ea (Ef rfl) (Ed (Ec ?_)))))))))))
 refine Eb [4] rfl (En (Eq rfl rfl ?_))
 rotate_left
 all_goals
  first | (rw [show (i : Int) = n by omega]; done) | (exfalso; omega) | (exfalso; first | exact absurd rfl (by assumption) | (simp_all [markC]; done) | (simp_all [markC, markC1]; done))
theorem cg_390 (xs : List Bucket) (k : Int) (hl : xs.length ≤ 1048576) (hk : 0 ≤ k ∧ k ≤ 1099511627776) : GV prg 390 [.arr 2 (xs.map Bucket.r)] [.ls 0 xs.length, .w (.int .i64 k)] (fun u L1 => u = .w (.int .i64 (k + 2 * xs.length)) ∧ L1 = [.arr 2 (((List.range xs.length).map (markB k)).map Bucket.r)]) := by
 refine gv_in g390 (Eb [0, 1] rfl (Ee (Eg (Ea (Ef rfl) (Ed (Ec (Eb [0, 1] rfl (Ee (Ee (Eg (Ea (Ef rfl) ?_)))))))))))
 refine Ed (Ec (Eb [0, 1, 5] rfl (S_block (S_loop (ι := Nat) (fun i => i ≤ xs.length) (fun i => [(5, .w (.int .i64 (i : Int))), (1, .w (.int .i64 (k + 2 * (i : Int))))]) (fun i => [.arr 2 (mix Bucket.r (markB k) xs i)]) (fun i => xs.length - i) 1 0 (by simp) rfl (hasOf ⟨rfl, congrArg (fun b => some (V.w (.int .i64 b))) (by simp), trivial⟩ (by rw [mix_zero]; rfl)) rfl (fun _ _ => rfl) (fun _ _ => ⟨rfl, rfl⟩) ?_))))
 intro i hi
 obtain ⟨y0, hy0⟩ : ∃ y, i < xs.length → xs[i]? = some y := by
  by_cases h : i < xs.length
  · exact ⟨xs[i], fun _ => List.getElem?_eq_getElem h⟩
  · exact ⟨markB k 0, fun h2 => absurd h2 h⟩
 refine Eb [0, 1, 5] rfl (Ee (Ee (Eg (Ea (Ef rfl) (Ea (Ef rfl) (Ea (o_lenL rfl rfl (by (try simp only [Int.toNat_natCast, List.length_set]); first | exact List.length_map .. | exact Ev _ _ _ _ hi)) (Ea (o_lss rfl rfl) (Ed (Ec (Eb [0, 1, 5, 9] rfl ?_))))))))))
 first | refine Em rfl ?_ ?_ | refine Ej rfl ?_ ?_
 intro h1
 try rw [nnp] at h1
 refine Eo (Ec (Eb [0, 1, 5] rfl (Ee (S_block (Ee (Eg (Ea (Ef rfl) (Ea (Ef rfl) (Ea (Ef rfl) (Ea (o_iaL rfl rfl (by (try simp only [Int.toNat_natCast, List.length_set]); first | exact List.length_map .. | exact Ev _ _ _ _ hi) rfl (by omega)) (Ea (o_faA rfl rfl (by (try simp only [Int.toNat_natCast, List.length_set]); first | exact List.length_map .. | exact Ev _ _ _ _ hi)) ?_)))))))))))
 refine s_opN (o_stA rfl rfl rfl rfl (by (try simp only [Int.toNat_natCast, List.length_set]); first | exact List.length_map .. | exact Ev _ _ _ _ hi) (by (try rw [Int.toNat_natCast]); first | exact set_at (by (try simp only [List.length_set]); rw [Ev _ _ _ _ hi]; omega) | exact mix_at _ _ (hy0 (by omega))) rfl rfl) (Ed (Ec (Eb [0, 1, 5] rfl (Ee (Eg (Ea (Ef rfl) ?_))))))
 first | refine Ea (o_addn rfl rfl (by omega)) ?_ | refine Ea (o_add rfl rfl) ?_
 refine Ea (Ef rfl) (Ed (Ec (Eb [0, 1, 5] rfl (Ee (Eg (Ea (Ef rfl) (Ea (Ef rfl) (Ea (Ef rfl) (Ea (o_iaL rfl rfl (by (try simp only [Int.toNat_natCast, List.length_set]); first | exact List.length_map .. | exact Ev _ _ _ _ hi) rfl (by omega)) (Ea (o_faA rfl rfl (by (try simp only [Int.toNat_natCast, List.length_set]); first | exact List.length_map .. | exact Ev _ _ _ _ hi)) (s_opN (o_stA rfl rfl rfl rfl (by (try simp only [Int.toNat_natCast, List.length_set]); first | exact List.length_map .. | exact Ev _ _ _ _ hi) (by (try rw [Int.toNat_natCast]); first | exact set_at (by (try simp only [List.length_set]); rw [Ev _ _ _ _ hi]; omega) | exact mix_at _ _ (hy0 (by omega))) rfl rfl) ?_)))))))))))
 refine Ed (Ec (Eb [0, 1, 5] rfl (Eg (Ea (Ef rfl) ?_))))
 first | refine Ea (o_addn rfl rfl (by omega)) ?_ | refine Ea (o_add rfl rfl) ?_
 refine Ea (Ef rfl) (Ed (q_blkN (Ec (Eb [0, 1, 5] rfl (Eg (Ea (Ef rfl) ?_))))))
 first | refine Ea (o_addn rfl rfl (by omega)) ?_ | refine Ea (o_add rfl rfl) ?_
 refine Ea (Ef rfl) (Ed (q_loopN ?_))
 · refine ⟨i + 1, by omega, by omega, hasOf ⟨rfl, congrArg (fun b => some (V.w (.int .i64 b))) (by omega), trivial⟩ ?_⟩
   simp only [Int.toNat_natCast, sets2]
   rw [← mix_set _ _ (by assumption)]; rfl
 intro h1
 try rw [nnp] at h1
 refine s_exit (q_seqX (q_loopX (q_blkH (Ec (Eb [1] rfl (Ee (Eg (Ea (Ef rfl) (Ea (Ef rfl) (Ed (Ec ?_)))))))))))
 refine Eb [4] rfl (En ?_)
 · refine retG_leaf [] (.inr rfl) rfl rfl rfl rfl (show (List.range 1 ++ []).Nodup by decide) ?_
   exact ⟨by rw [show (i : Int) = xs.length by omega], by rw [mix_end _ _ _ (by assumption) hi]⟩
theorem c_393 (n : Nat) (k : Int) (hl : n ≤ 1048576) (hk : 0 ≤ k ∧ k ≤ 1099511627776) : CV prg 393 [.sl 2 (((List.range n).map (markB k)).map Bucket.r), .w (.int .i64 k)] (fun res => res = .w (.int .i64 (k + 2 * n))) := by
 have hln : ((List.range n).map (markB k)).length = n := by simp
 refine cv_in g393 (Eb [0, 1] rfl (Ee (Eg (Ea (Ef rfl) (Ed (Ec (Eb [0, 1] rfl (Ee (Ee (Eg (Ea (Ef rfl) ?_)))))))))))
 refine Ed (Ec (Eb [0, 1, 5] rfl (S_block (S_loop0 (ι := Nat) (fun i => i ≤ n) (fun i => [(5, .w (.int .i64 (i : Int))), (1, .w (.int .i64 (k + 2 * (i : Int))))]) (fun i => n - i) 0 (by simp) rfl ⟨rfl, congrArg (fun b => some (V.w (.int .i64 b))) (by simp), trivial⟩ (fun _ _ => rfl) rfl ?_))))
 intro i hi
 refine Eb [0, 1, 5] rfl (Ee (Ee (Eg (Ea (Ef rfl) (Ea (Ef rfl) ?_)))))
 first | refine Ea (o_lenM rfl) ?_ | refine Ea (o_len rfl) ?_
 refine Ea (o_lss rfl rfl) (Ed (Ec (Eb [0, 1, 5, 9] rfl ?_)))
 first | refine Em rfl ?_ ?_ | refine Ej rfl ?_ ?_
 intro h1
 try rw [nnp] at h1
 refine Eo (Ec (Eb [0, 1, 5] rfl (Ee (S_block (Ee (Ee (Eg (Ea (Ef rfl) (Ea (Ef rfl) (s_iaM rfl rfl (by omega) ?_))))))))))
 intro y2 e2
 simp only [Int.toNat_natCast] at e2; obtain rfl := mks_at e2
 refine Ea (o_fa rfl) (Ea (o_ld rfl rfl) (Ea (Ef rfl) (Ea (o_neq rfl rfl) (Ed (Ec (Eb [0, 1, 5, 18] rfl ?_))))))
 first | refine Em rfl ?_ ?_ | refine Ej rfl ?_ ?_
 intro h3
 try rw [nnp] at h3
 refine Ee (Eg (Ea (Ef rfl) (Ed (Ec (Eb [4] rfl (En (Ei (q_blkR (Ei (q_loopR (q_blkR ?_)))))))))))
 refine Ei (Eq rfl rfl ?_)
 rotate_left
 intro h3
 try rw [nnp] at h3
 refine Eo (Ec (Eb [0, 1, 5] rfl (Ee (Eg (Ea (Ef rfl) ?_)))))
 first | refine Ea (o_addn rfl rfl (by omega)) ?_ | refine Ea (o_add rfl rfl) ?_
 refine Ea (Ef rfl) (Ed (Ec (Eb [0, 1, 5] rfl (Ee (Ee (Eg (Ea (Ef rfl) (Ea (Ef rfl) (s_iaM rfl rfl (by omega) ?_)))))))))
 intro y4 e4
 simp only [Int.toNat_natCast] at e4; obtain rfl := mks_at e4
 refine Ea (o_fa rfl) (Ea (o_ld rfl rfl) (Ea (Ef rfl) (Ea (o_neq rfl rfl) (Ed (Ec (Eb [0, 1, 5, 27] rfl ?_))))))
 first | refine Em rfl ?_ ?_ | refine Ej rfl ?_ ?_
 intro h5
 try rw [nnp] at h5
 refine Ee (Eg (Ea (Ef rfl) (Ed (Ec (Eb [4] rfl (En (Ei (q_blkR (Ei (q_loopR (q_blkR ?_)))))))))))
 refine Ei (Eq rfl rfl ?_)
 rotate_left
 intro h5
 try rw [nnp] at h5
 refine Eo (Ec (Eb [0, 1, 5] rfl (Eg (Ea (Ef rfl) ?_))))
 first | refine Ea (o_addn rfl rfl (by omega)) ?_ | refine Ea (o_add rfl rfl) ?_
 refine Ea (Ef rfl) (Ed (q_blkN (Ec (Eb [0, 1, 5] rfl (Eg (Ea (Ef rfl) ?_))))))
 first | refine Ea (o_addn rfl rfl (by omega)) ?_ | refine Ea (o_add rfl rfl) ?_
 refine Ea (Ef rfl) (Ed (q_loopN ?_))
 · exact ⟨i + 1, by omega, by omega, hasOf ⟨rfl, congrArg (fun b => some (V.w (.int .i64 b))) (by omega), trivial⟩ rfl⟩
 intro h1
 try rw [nnp] at h1
 refine s_exit (q_seqX (q_loopX (q_blkH (Ec (Eb [1] rfl (Ee (Eg (Ea (Ef rfl) (Ea (Ef rfl) (Ed (Ec ?_)))))))))))
 refine Eb [4] rfl (En (Eq rfl rfl ?_))
 rotate_left
 all_goals
  first | (rw [show (i : Int) = n by omega]; done) | (exfalso; omega) | (exfalso; first | exact absurd rfl (by assumption) | (simp_all [markB]; done) | (simp_all [markB, markB1]; done))
theorem c_375 (k : Int) : CV prg 375 [.w (.slice none 0 0), .w (.int .i64 k)] (fun res => res = .w (.int .i64 k)) := by
 refine cv_in g375 (Eb [0, 1] rfl (Ee (Eg (Ea (Ef rfl) (Ed (Ec (Eb [0, 1] rfl (Ee (Ee (Eg (Ea (Ef rfl) ?_)))))))))))
 refine Ed (Ec (Eb [0, 1, 5] rfl (S_block (S_loop0 (ι := Nat) (fun i => i = 0) (fun i => [(5, .w (.int .i64 (i : Int))), (1, .w (.int .i64 k))]) (fun i => i) 0 rfl rfl ⟨rfl, rfl, trivial⟩ (fun _ _ => rfl) rfl ?_))))
 intro i hi
 refine Eb [0, 1, 5] rfl (Ee (Ee (Eg (Ea (Ef rfl) (Ea (Ef rfl) (Ea (o_lenN rfl) (Ea (o_lss rfl rfl) (Ed (Ec (Eb [0, 1, 5, 9] rfl ?_))))))))))
 first | refine Em rfl ?_ ?_ | refine Ej rfl ?_ ?_
 · intro h1
   exfalso
   omega
 intro h1
 try rw [nnp] at h1
 refine s_exit (q_seqX (q_loopX (q_blkH (Ec (Eb [1] rfl (Ee (Eg (Ea (Ef rfl) (Ea (Ef rfl) (Ed (Ec ?_)))))))))))
 refine Eb [4] rfl (En (Eq rfl rfl ?_))
 rotate_left
 all_goals
  rfl
theorem c_376 (k : Int) : CV prg 376 [.w (.slice none 0 0), .w (.int .i64 k)] (fun res => res = .w (.int .i64 k)) := by
 refine cv_in g376 (Eb [0, 1] rfl (Ee (Eg (Ea (Ef rfl) (Ed (Ec (Eb [0, 1] rfl (Ee (Ee (Eg (Ea (Ef rfl) ?_)))))))))))
 refine Ed (Ec (Eb [0, 1, 5] rfl (S_block (S_loop0 (ι := Nat) (fun i => i = 0) (fun i => [(5, .w (.int .i64 (i : Int))), (1, .w (.int .i64 k))]) (fun i => i) 0 rfl rfl ⟨rfl, rfl, trivial⟩ (fun _ _ => rfl) rfl ?_))))
 intro i hi
 refine Eb [0, 1, 5] rfl (Ee (Ee (Eg (Ea (Ef rfl) (Ea (Ef rfl) (Ea (o_lenN rfl) (Ea (o_lss rfl rfl) (Ed (Ec (Eb [0, 1, 5, 9] rfl ?_))))))))))
 first | refine Em rfl ?_ ?_ | refine Ej rfl ?_ ?_
 · intro h1
   exfalso
   omega
 intro h1
 try rw [nnp] at h1
 refine s_exit (q_seqX (q_loopX (q_blkH (Ec (Eb [1] rfl (Ee (Eg (Ea (Ef rfl) (Ea (Ef rfl) (Ed (Ec ?_)))))))))))
 refine Eb [4] rfl (En (Eq rfl rfl ?_))
 rotate_left
 all_goals
  rfl
theorem cg_389 (n : Nat) (k : Int) (hl : n ≤ 1048576) (hk : 0 ≤ k ∧ k ≤ 1099511627776) : GV prg 389 [.arr 6 ((List.replicate n mst0).map Mst.n)] [.ls 0 n, .w (.int .i64 k)] (fun u L1 => u = .w (.int .i64 (k + 5 * n)) ∧ L1 = [.arr 6 (((List.range n).map (markM k)).map Mst.n)]) := by
 have hxl : (List.replicate n mst0).length = n := List.length_replicate
 refine gv_in g389 (Eb [0, 1] rfl (Ee (Eg (Ea (Ef rfl) (Ed (Ec (Eb [0, 1] rfl (Ee (Ee (Eg (Ea (Ef rfl) ?_)))))))))))
 refine Ed (Ec (Eb [0, 1, 5] rfl (S_block (S_loop (ι := Nat) (fun i => i ≤ n) (fun i => [(5, .w (.int .i64 (i : Int))), (1, .w (.int .i64 (k + 5 * (i : Int))))]) (fun i => [.arr 6 (mix Mst.n (markM k) (List.replicate n mst0) i)]) (fun i => n - i) 1 0 (by simp) rfl (hasOf ⟨rfl, congrArg (fun b => some (V.w (.int .i64 b))) (by simp), trivial⟩ (by rw [mix_zero]; rfl)) rfl (fun _ _ => rfl) (fun _ _ => ⟨rfl, rfl⟩) ?_))))
 intro i hi
 have hy0 : i < n → (List.replicate n mst0)[i]? = some mst0 := fun h => by simp [h]
 have hml : (mix Mst.n (markM k) (List.replicate n mst0) i).length = n := by rw [Ev _ _ _ _ (by omega), hxl]
 refine Eb [0, 1, 5] rfl (Ee (Ee (Eg (Ea (Ef rfl) (Ea (Ef rfl) (Ea (o_lenL rfl rfl (by (try simp only [Int.toNat_natCast, List.length_set]); first | exact hml | simp)) (Ea (o_lss rfl rfl) (Ed (Ec (Eb [0, 1, 5, 9] rfl ?_))))))))))
 first | refine Em rfl ?_ ?_ | refine Ej rfl ?_ ?_
 intro h1
 try rw [nnp] at h1
 refine Eo (Ec (Eb [0, 1, 5] rfl (Ee (S_block (Ee (Eg (Ea (Ef rfl) (Ea (Ef rfl) (Ea (o_iaL rfl rfl (by (try simp only [Int.toNat_natCast, List.length_set]); first | exact hml | simp) rfl (by omega)) (Ea (o_faA rfl rfl (by (try simp only [Int.toNat_natCast, List.length_set]); first | exact hml | simp)) (Ea (o_ldA rfl rfl (by (try simp only [Int.toNat_natCast, List.length_set]); first | exact hml | simp) (by (try rw [Int.toNat_natCast]); first | exact set_at (by (try simp only [List.length_set]); omega) | exact mix_at _ _ (hy0 (by omega))) rfl) ?_)))))))))))
 refine Ea (Ef rfl) ?_
 first | refine Et rfl rfl (c_375 _) ?_ | refine Er rfl rfl (by simp) (c_375 _) rfl ?_
 refine Ea (Ef rfl) (Ed (Ec (Eb [0, 1, 5] rfl (Ee (Eg (Ea (Ef rfl) (Ea (Ef rfl) (Ea (Ef rfl) (Ea (o_iaL rfl rfl (by (try simp only [Int.toNat_natCast, List.length_set]); first | exact hml | simp) rfl (by omega)) (Ea (o_faA rfl rfl (by (try simp only [Int.toNat_natCast, List.length_set]); first | exact hml | simp)) (s_opN (o_stA rfl rfl rfl rfl (by (try simp only [Int.toNat_natCast, List.length_set]); first | exact hml | simp) (by (try rw [Int.toNat_natCast]); first | exact set_at (by (try simp only [List.length_set]); omega) | exact mix_at _ _ (hy0 (by omega))) rfl rfl) ?_)))))))))))
 refine Ed (Ec (Eb [0, 1, 5] rfl (Ee (Eg (Ea (Ef rfl) ?_)))))
 first | refine Ea (o_addn rfl rfl (by omega)) ?_ | refine Ea (o_add rfl rfl) ?_
 refine Ea (Ef rfl) (Ed (Ec (Eb [0, 1, 5] rfl (Ee (Eg (Ea (Ef rfl) (Ea (Ef rfl) (Ea (Ef rfl) (Ea (o_iaL rfl rfl (by (try simp only [Int.toNat_natCast, List.length_set]); first | exact hml | simp) rfl (by omega)) (Ea (o_faA rfl rfl (by (try simp only [Int.toNat_natCast, List.length_set]); first | exact hml | simp)) (s_opN (o_stA rfl rfl rfl rfl (by (try simp only [Int.toNat_natCast, List.length_set]); first | exact hml | simp) (by (try rw [Int.toNat_natCast]); first | exact set_at (by (try simp only [List.length_set]); omega) | exact mix_at _ _ (hy0 (by omega))) rfl rfl) ?_)))))))))))
 refine Ed (Ec (Eb [0, 1, 5] rfl (Ee (Eg (Ea (Ef rfl) ?_)))))
 first | refine Ea (o_addn rfl rfl (by omega)) ?_ | refine Ea (o_add rfl rfl) ?_
 refine Ea (Ef rfl) (Ed (Ec (Eb [0, 1, 5] rfl (Ee (Eg (Ea (Ef rfl) (Ea (Ef rfl) (Ea (Ef rfl) (Ea (o_iaL rfl rfl (by (try simp only [Int.toNat_natCast, List.length_set]); first | exact hml | simp) rfl (by omega)) (Ea (o_faA rfl rfl (by (try simp only [Int.toNat_natCast, List.length_set]); first | exact hml | simp)) (s_opN (o_stA rfl rfl rfl rfl (by (try simp only [Int.toNat_natCast, List.length_set]); first | exact hml | simp) (by (try rw [Int.toNat_natCast]); first | exact set_at (by (try simp only [List.length_set]); omega) | exact mix_at _ _ (hy0 (by omega))) rfl rfl) ?_)))))))))))
 refine Ed (Ec (Eb [0, 1, 5] rfl (Ee (Eg (Ea (Ef rfl) ?_)))))
 first | refine Ea (o_addn rfl rfl (by omega)) ?_ | refine Ea (o_add rfl rfl) ?_
 refine Ea (Ef rfl) (Ed (Ec (Eb [0, 1, 5] rfl (Ee (Eg (Ea (Ef rfl) (Ea (Ef rfl) (Ea (Ef rfl) ?_))))))))
 first | refine Ea (o_rem rfl rfl (by decide)) ?_ | refine Ea (o_rem rfl rfl (by omega)) ?_
 refine Ea (o_eql rfl rfl) (Ea (o_iaL rfl rfl (by (try simp only [Int.toNat_natCast, List.length_set]); first | exact hml | simp) rfl (by omega)) (Ea (o_faA rfl rfl (by (try simp only [Int.toNat_natCast, List.length_set]); first | exact hml | simp)) (s_opN (o_stA rfl rfl rfl rfl (by (try simp only [Int.toNat_natCast, List.length_set]); first | exact hml | simp) (by (try rw [Int.toNat_natCast]); first | exact set_at (by (try simp only [List.length_set]); omega) | exact mix_at _ _ (hy0 (by omega))) rfl rfl) (Ed (Ec (Eb [0, 1, 5] rfl (Ee (Eg (Ea (Ef rfl) ?_)))))))))
 first | refine Ea (o_addn rfl rfl (by omega)) ?_ | refine Ea (o_add rfl rfl) ?_
 refine Ea (Ef rfl) (Ed (Ec (Eb [0, 1, 5] rfl (Ee (Eg (Ea (Ef rfl) (Ea (Ef rfl) (Ea (Ef rfl) ?_))))))))
 first | refine Ea (o_rem rfl rfl (by decide)) ?_ | refine Ea (o_rem rfl rfl (by omega)) ?_
 refine Ea (o_eql rfl rfl) (Ea (o_iaL rfl rfl (by (try simp only [Int.toNat_natCast, List.length_set]); first | exact hml | simp) rfl (by omega)) (Ea (o_faA rfl rfl (by (try simp only [Int.toNat_natCast, List.length_set]); first | exact hml | simp)) (s_opN (o_stA rfl rfl rfl rfl (by (try simp only [Int.toNat_natCast, List.length_set]); first | exact hml | simp) (by (try rw [Int.toNat_natCast]); first | exact set_at (by (try simp only [List.length_set]); omega) | exact mix_at _ _ (hy0 (by omega))) rfl rfl) (Ed (Ec (Eb [0, 1, 5] rfl (Eg (Ea (Ef rfl) ?_))))))))
 first | refine Ea (o_addn rfl rfl (by omega)) ?_ | refine Ea (o_add rfl rfl) ?_
 refine Ea (Ef rfl) (Ed (q_blkN (Ec (Eb [0, 1, 5] rfl (Eg (Ea (Ef rfl) ?_))))))
 first | refine Ea (o_addn rfl rfl (by omega)) ?_ | refine Ea (o_add rfl rfl) ?_
 refine Ea (Ef rfl) (Ed (q_loopN ?_))
 · refine ⟨i + 1, by omega, by omega, hasOf ⟨rfl, congrArg (fun b => some (V.w (.int .i64 b))) (by omega), trivial⟩ ?_⟩
   simp only [Int.toNat_natCast, sets2]
   rw [← mix_set _ _ (by omega)]; rfl
 intro h1
 try rw [nnp] at h1
 refine s_exit (q_seqX (q_loopX (q_blkH (Ec (Eb [1] rfl (Ee (Eg (Ea (Ef rfl) (Ea (Ef rfl) (Ed (Ec ?_)))))))))))
 refine Eb [4] rfl (En ?_)
 · refine retG_leaf [] (.inr rfl) rfl rfl rfl rfl (show (List.range 1 ++ []).Nodup by decide) ?_
   exact ⟨by rw [show (i : Int) = n by omega], by rw [mix_end _ _ _ (by omega) (by omega), hxl]⟩
theorem c_392 (n : Nat) (k : Int) (hl : n ≤ 1048576) (hk : 0 ≤ k ∧ k ≤ 1099511627776) : CV prg 392 [.sl 6 (((List.range n).map (markM k)).map Mst.n), .w (.int .i64 k)] (fun res => res = .w (.int .i64 (k + 5 * n))) := by
 have hln : ((List.range n).map (markM k)).length = n := by simp
 refine cv_in g392 (Eb [0, 1] rfl (Ee (Eg (Ea (Ef rfl) (Ed (Ec (Eb [0, 1] rfl (Ee (Ee (Eg (Ea (Ef rfl) ?_)))))))))))
 refine Ed (Ec (Eb [0, 1, 5] rfl (S_block (S_loop0 (ι := Nat) (fun i => i ≤ n) (fun i => [(5, .w (.int .i64 (i : Int))), (1, .w (.int .i64 (k + 5 * (i : Int))))]) (fun i => n - i) 0 (by simp) rfl ⟨rfl, congrArg (fun b => some (V.w (.int .i64 b))) (by simp), trivial⟩ (fun _ _ => rfl) rfl ?_))))
 intro i hi
 refine Eb [0, 1, 5] rfl (Ee (Ee (Eg (Ea (Ef rfl) (Ea (Ef rfl) ?_)))))
 first | refine Ea (o_lenM rfl) ?_ | refine Ea (o_len rfl) ?_
 refine Ea (o_lss rfl rfl) (Ed (Ec (Eb [0, 1, 5, 9] rfl ?_)))
 first | refine Em rfl ?_ ?_ | refine Ej rfl ?_ ?_
 intro h1
 try rw [nnp] at h1
 refine Eo (Ec (Eb [0, 1, 5] rfl (Ee (S_block (Ee (Eg (Ea (Ef rfl) (Ea (Ef rfl) (s_iaM rfl rfl (by omega) ?_)))))))))
 intro y2 e2
 simp only [Int.toNat_natCast] at e2; obtain rfl := mks_at e2
 refine Ea (o_fa rfl) (Ea (o_ld rfl rfl) (Ea (Ef rfl) ?_))
 first | refine Et rfl rfl (c_376 _) ?_ | refine Er rfl rfl (by simp) (c_376 _) rfl ?_
 refine Ea (Ef rfl) (Ed (Ec (Eb [0, 1, 5] rfl (Ee (Ee (Eg (Ea (Ef rfl) (Ea (o_lss rfl rfl) (Ed (Ec (Eb [0, 1, 5, 20] rfl ?_)))))))))))
 first | refine Em rfl ?_ ?_ | refine Ej rfl ?_ ?_
 intro h3
 try rw [nnp] at h3
 refine Ee (Eg (Ea (Ef rfl) (Ed (Ec (Eb [4] rfl (En (Ei (q_blkR (Ei (q_loopR (q_blkR ?_)))))))))))
 refine Ei (Eq rfl rfl ?_)
 rotate_left
 intro h3
 try rw [nnp] at h3
 refine Eo (Ec (Eb [0, 1, 5] rfl (Ee (Ee (Eg (Ea (Ef rfl) (Ea (Ef rfl) (s_iaM rfl rfl (by omega) ?_))))))))
 intro y4 e4
 simp only [Int.toNat_natCast] at e4; obtain rfl := mks_at e4
 refine Ea (o_fa rfl) (Ea (o_ld rfl rfl) (Ea (Ef rfl) (Ea (o_neq rfl rfl) (Ed (Ec (Eb [0, 1, 5, 27] rfl ?_))))))
 first | refine Em rfl ?_ ?_ | refine Ej rfl ?_ ?_
 intro h5
 try rw [nnp] at h5
 refine Ee (Eg (Ea (Ef rfl) (Ed (Ec (Eb [4] rfl (En (Ei (q_blkR (Ei (q_loopR (q_blkR ?_)))))))))))
 refine Ei (Eq rfl rfl ?_)
 rotate_left
 intro h5
 try rw [nnp] at h5
 refine Eo (Ec (Eb [0, 1, 5] rfl (Ee (Eg (Ea (Ef rfl) ?_)))))
 first | refine Ea (o_addn rfl rfl (by omega)) ?_ | refine Ea (o_add rfl rfl) ?_
 refine Ea (Ef rfl) (Ed (Ec (Eb [0, 1, 5] rfl (Ee (Ee (Eg (Ea (Ef rfl) (Ea (Ef rfl) (s_iaM rfl rfl (by omega) ?_)))))))))
 intro y6 e6
 simp only [Int.toNat_natCast] at e6; obtain rfl := mks_at e6
 refine Ea (o_fa rfl) (Ea (o_ld rfl rfl) (Ea (Ef rfl) (Ea (o_neq rfl rfl) (Ed (Ec (Eb [0, 1, 5, 36] rfl ?_))))))
 first | refine Em rfl ?_ ?_ | refine Ej rfl ?_ ?_
 intro h7
 try rw [nnp] at h7
 refine Ee (Eg (Ea (Ef rfl) (Ed (Ec (Eb [4] rfl (En (Ei (q_blkR (Ei (q_loopR (q_blkR ?_)))))))))))
 refine Ei (Eq rfl rfl ?_)
 rotate_left
 intro h7
 try rw [nnp] at h7
 refine Eo (Ec (Eb [0, 1, 5] rfl (Ee (Eg (Ea (Ef rfl) ?_)))))
 first | refine Ea (o_addn rfl rfl (by omega)) ?_ | refine Ea (o_add rfl rfl) ?_
 refine Ea (Ef rfl) (Ed (Ec (Eb [0, 1, 5] rfl (Ee (Ee (Eg (Ea (Ef rfl) (Ea (Ef rfl) (s_iaM rfl rfl (by omega) ?_)))))))))
 intro y8 e8
 simp only [Int.toNat_natCast] at e8; obtain rfl := mks_at e8
 refine Ea (o_fa rfl) (Ea (o_ld rfl rfl) (Ea (Ef rfl) (Ea (o_neq rfl rfl) (Ed (Ec (Eb [0, 1, 5, 45] rfl ?_))))))
 first | refine Em rfl ?_ ?_ | refine Ej rfl ?_ ?_
 intro h9
 try rw [nnp] at h9
 refine Ee (Eg (Ea (Ef rfl) (Ed (Ec (Eb [4] rfl (En (Ei (q_blkR (Ei (q_loopR (q_blkR ?_)))))))))))
 refine Ei (Eq rfl rfl ?_)
 rotate_left
 intro h9
 try rw [nnp] at h9
 refine Eo (Ec (Eb [0, 1, 5] rfl (Ee (Eg (Ea (Ef rfl) ?_)))))
 first | refine Ea (o_addn rfl rfl (by omega)) ?_ | refine Ea (o_add rfl rfl) ?_
 refine Ea (Ef rfl) (Ed (Ec (Eb [0, 1, 5] rfl (Ee (Ee (Eg (Ea (Ef rfl) (Ea (Ef rfl) (s_iaM rfl rfl (by omega) ?_)))))))))
 intro y10 e10
 simp only [Int.toNat_natCast] at e10; obtain rfl := mks_at e10
 refine Ea (o_fa rfl) (Ea (o_ld rfl rfl) (Ea (Ef rfl) ?_))
 first | refine Ea (o_rem rfl rfl (by decide)) ?_ | refine Ea (o_rem rfl rfl (by omega)) ?_
 refine Ea (o_eql rfl rfl) (Ea (o_eqb rfl rfl) (Ed (Ec (Eb [0, 1, 5, 56] rfl ?_))))
 first | refine Eu rfl ?_ ?_ | refine Ej rfl ?_ ?_
 intro h11
 try rw [nnp] at h11
 refine Ee (Eg (Ea (Ef rfl) (Ed (Ec (Eb [4] rfl (En (Ei (q_blkR (Ei (q_loopR (q_blkR ?_)))))))))))
 refine Ei (Eq rfl rfl ?_)
 rotate_left
 intro h11
 try rw [nnp] at h11
 refine Eo (Ec (Eb [0, 1, 5] rfl (Ee (Eg (Ea (Ef rfl) ?_)))))
 first | refine Ea (o_addn rfl rfl (by omega)) ?_ | refine Ea (o_add rfl rfl) ?_
 refine Ea (Ef rfl) (Ed (Ec (Eb [0, 1, 5] rfl (Ee (Ee (Eg (Ea (Ef rfl) (Ea (Ef rfl) (s_iaM rfl rfl (by omega) ?_)))))))))
 intro y12 e12
 simp only [Int.toNat_natCast] at e12; obtain rfl := mks_at e12
 refine Ea (o_fa rfl) (Ea (o_ld rfl rfl) (Ea (Ef rfl) ?_))
 first | refine Ea (o_rem rfl rfl (by decide)) ?_ | refine Ea (o_rem rfl rfl (by omega)) ?_
 refine Ea (o_eql rfl rfl) (Ea (o_eqb rfl rfl) (Ed (Ec (Eb [0, 1, 5, 67] rfl ?_))))
 first | refine Eu rfl ?_ ?_ | refine Ej rfl ?_ ?_
 intro h13
 try rw [nnp] at h13
 refine Ee (Eg (Ea (Ef rfl) (Ed (Ec (Eb [4] rfl (En (Ei (q_blkR (Ei (q_loopR (q_blkR ?_)))))))))))
 refine Ei (Eq rfl rfl ?_)
 rotate_left
 intro h13
 try rw [nnp] at h13
 refine Eo (Ec (Eb [0, 1, 5] rfl (Eg (Ea (Ef rfl) ?_))))
 first | refine Ea (o_addn rfl rfl (by omega)) ?_ | refine Ea (o_add rfl rfl) ?_
 refine Ea (Ef rfl) (Ed (q_blkN (Ec (Eb [0, 1, 5] rfl (Eg (Ea (Ef rfl) ?_))))))
 first | refine Ea (o_addn rfl rfl (by omega)) ?_ | refine Ea (o_add rfl rfl) ?_
 refine Ea (Ef rfl) (Ed (q_loopN ?_))
 · exact ⟨i + 1, by omega, by omega, hasOf ⟨rfl, congrArg (fun b => some (V.w (.int .i64 b))) (by omega), trivial⟩ rfl⟩
 intro h1
 try rw [nnp] at h1
 refine s_exit (q_seqX (q_loopX (q_blkH (Ec (Eb [1] rfl (Ee (Eg (Ea (Ef rfl) (Ea (Ef rfl) (Ed (Ec ?_)))))))))))
 refine Eb [4] rfl (En (Eq rfl rfl ?_))
 rotate_left
 all_goals
  first | (rw [show (i : Int) = n by omega]; done) | (exfalso; omega) | (exfalso; first | exact absurd rfl (by assumption) | (simp_all [markM]; done) | (simp_all [markM, markM1]; done))
theorem cg_369 (c : Conf) (k : Int) (hl : c.masters.length ≤ 1048576) (hk : 0 ≤ k ∧ k ≤ 549755813888) : GV prg 369 [.arr 4 (c.masters.map MConf.r)] [.agg [.ls 0 c.masters.length, .w (.int .i64 c.quantum), .w (.int .i64 c.maxWait), .w (.int .i64 c.maxRetry), .w (.int .i64 c.maxSplit), .w (.int .i64 c.lockMost)], .w (.int .i64 k)] (fun u L1 => u = .w (.int .i64 (k + 4 * c.masters.length)) ∧ L1 = [.arr 4 (((List.range c.masters.length).map (markC k)).map MConf.r)]) := by
 refine gv_in g369 (Eb [0, 1] rfl (Ee (Eg (Ea (o_box rfl rfl rfl) (Ea (Ef rfl) (Ed (Ec (Eb [1, 2] rfl (Ee (Eg (Ea (Ek rfl) ?_)))))))))))
 refine Ea (Ep rfl rfl rfl) (Ea (Ef rfl) (s_callG [0] rfl rfl rfl rfl (by simp) (.inl rfl) (cg_388 _ _ hl (by omega)) ?_))
 rintro u L1 ⟨rfl, rfl⟩
 refine ⟨_, _, rfl, rfl, ?_⟩
 refine Ea (Ef rfl) (Ed (Ec (Eb [1] rfl (Ee (Eg (Ea (Ef rfl) (Ea (Ef rfl) (Ed (Ec (Eb [4] rfl (En ?_)))))))))))
 · refine retG_leaf [] (.inr rfl) rfl rfl rfl rfl (show (List.range 1 ++ []).Nodup by decide) ?_
   exact ⟨rfl, rfl⟩
theorem c_391 (n : Nat) (k a b c d e : Int) (hl : n ≤ 1048576) (hk : 0 ≤ k ∧ k ≤ 549755813888) : CV prg 391 [.agg [.sl 4 (((List.range n).map (markC k)).map MConf.r), .w (.int .i64 a), .w (.int .i64 b), .w (.int .i64 c), .w (.int .i64 d), .w (.int .i64 e)], .w (.int .i64 k)] (fun res => res = .w (.int .i64 (k + 4 * n))) := by
 refine cv_in g391 (Eb [0, 1] rfl (Ee (Eg (Ea (o_box rfl rfl rfl) (Ea (Ef rfl) (Ed (Ec (Eb [1, 2] rfl (Ee (Eg (Ea (Ek rfl) ?_)))))))))))
 refine Ea (Ep rfl rfl rfl) (Ea (Ef rfl) ?_)
 first | refine Et rfl rfl (c_404 _ _ hl (by omega)) ?_ | refine Er rfl rfl (by simp) (c_404 _ _ hl (by omega)) rfl ?_
 refine Ea (Ef rfl) (Ed (Ec (Eb [1] rfl (Ee (Ee (Eg (Ea (Ef rfl) (Ea (o_lss rfl rfl) (Ed (Ec (Eb [1, 10] rfl ?_)))))))))))
 first | refine Em rfl ?_ ?_ | refine Ej rfl ?_ ?_
 intro h1
 try rw [nnp] at h1
 refine Ee (Eg (Ea (Ef rfl) (Ed (Ec (Eb [4] rfl (En (Ei (Eq rfl rfl ?_))))))))
 rotate_left
 intro h1
 try rw [nnp] at h1
 refine Eo (Ec (Eb [1] rfl (Ee (Eg (Ea (Ef rfl) (Ea (Ef rfl) (Ed (Ec (Eb [4] rfl (En (Eq rfl rfl ?_)))))))))))
 rotate_left
 all_goals
  first | rfl | (exfalso; omega)
theorem cg_379 (xs ys : List Int) (t k : Int) (hx : xs.length ≤ 1048576) (hy : ys.length ≤ 1048576) (hk : 0 ≤ k ∧ k ≤ 549755813888) : GV prg 379 [.arr 1 (xs.map iR), .arr 1 (ys.map iR)] [.agg [.ls 0 xs.length, .w (.int .i64 t), .ls 1 ys.length], .w (.int .i64 k)] (fun u L1 => u = .w (.int .i64 (k + 1 * xs.length + 1 * ys.length)) ∧ L1 = [.arr 1 (((List.range xs.length).map (markI k)).map iR), .arr 1 (((List.range ys.length).map (markI (k + 1 * xs.length))).map iR)]) := by
 refine gv_in g379 (Eb [0, 1] rfl (Ee (Eg (Ea (o_box rfl rfl rfl) (Ea (Ef rfl) (Ed (Ec (Eb [1, 2] rfl (Ee (Eg (Ea (Ek rfl) ?_)))))))))))
 refine Ea (Ep rfl rfl rfl) (Ea (Ef rfl) (s_callG [0] rfl rfl rfl rfl (by simp) (.inl rfl) (cg_337 _ _ hx (by omega)) ?_))
 rintro u L1 ⟨rfl, rfl⟩
 refine ⟨_, _, rfl, rfl, ?_⟩
 refine Ea (Ef rfl) (Ed (Ec (Eb [1, 2] rfl (Ee (Eg (Ea (Ek rfl) (Ea (Ep rfl rfl rfl) (Ea (Ef rfl) (s_callG [1] rfl rfl rfl rfl (by simp) (.inl rfl) (cg_337 _ _ hy (by omega)) ?_)))))))))
 rintro u L1 ⟨rfl, rfl⟩
 refine ⟨_, _, rfl, rfl, ?_⟩
 refine Ea (Ef rfl) (Ed (Ec (Eb [1] rfl (Ee (Eg (Ea (Ef rfl) (Ea (Ef rfl) (Ed (Ec (Eb [4] rfl (En ?_)))))))))))
 · refine retG_leaf [] (.inr rfl) rfl rfl rfl rfl (show (List.range 2 ++ []).Nodup by decide) ?_
   exact ⟨rfl, rfl⟩
theorem c_381 (n m : Nat) (t k : Int) (hn : n ≤ 1048576) (hm : m ≤ 1048576) (hk : 0 ≤ k ∧ k ≤ 549755813888) : CV prg 381 [.agg [.sl 1 (((List.range n).map (markI k)).map iR), .w (.int .i64 t), .sl 1 (((List.range m).map (markI (k + 1 * n))).map iR)], .w (.int .i64 k)] (fun res => res = .w (.int .i64 (k + 1 * n + 1 * m))) := by
 refine cv_in g381 (Eb [0, 1] rfl (Ee (Eg (Ea (o_box rfl rfl rfl) (Ea (Ef rfl) (Ed (Ec (Eb [1, 2] rfl (Ee (Eg (Ea (Ek rfl) ?_)))))))))))
 refine Ea (Ep rfl rfl rfl) (Ea (Ef rfl) ?_)
 first | refine Et rfl rfl (c_380 _ _ (by omega) (by omega)) ?_ | refine Er rfl rfl (by simp) (c_380 _ _ (by omega) (by omega)) rfl ?_
 refine Ea (Ef rfl) (Ed (Ec (Eb [1, 2] rfl (Ee (Ee (Eg (Ea (Ef rfl) (Ea (o_lss rfl rfl) (Ed (Ec (Eb [1, 2, 10] rfl ?_)))))))))))
 first | refine Em rfl ?_ ?_ | refine Ej rfl ?_ ?_
 intro h1
 try rw [nnp] at h1
 refine Ee (Eg (Ea (Ef rfl) (Ed (Ec (Eb [4] rfl (En (Ei (Eq rfl rfl ?_))))))))
 rotate_left
 intro h1
 try rw [nnp] at h1
 refine Eo (Ec (Eb [1, 2] rfl (Ee (Eg (Ea (Ek rfl) (Ea (Ep rfl rfl rfl) (Ea (Ef rfl) ?_)))))))
 first | refine Et rfl rfl (c_380 _ _ (by omega) (by omega)) ?_ | refine Er rfl rfl (by simp) (c_380 _ _ (by omega) (by omega)) rfl ?_
 refine Ea (Ef rfl) (Ed (Ec (Eb [1] rfl (Ee (Ee (Eg (Ea (Ef rfl) (Ea (o_lss rfl rfl) (Ed (Ec (Eb [1, 16] rfl ?_)))))))))))
 first | refine Em rfl ?_ ?_ | refine Ej rfl ?_ ?_
 intro h2
 try rw [nnp] at h2
 refine Ee (Eg (Ea (Ef rfl) (Ed (Ec (Eb [4] rfl (En (Ei (Eq rfl rfl ?_))))))))
 rotate_left
 intro h2
 try rw [nnp] at h2
 refine Eo (Ec (Eb [1] rfl (Ee (Eg (Ea (Ef rfl) (Ea (Ef rfl) (Ed (Ec (Eb [4] rfl (En (Eq rfl rfl ?_)))))))))))
 rotate_left
 all_goals
  first | rfl | (exfalso; omega)
theorem cg_362 (zs xs ys : List Int) (t k : Int) (hz : zs.length ≤ 1048576) (hx : xs.length ≤ 1048576) (hy : ys.length ≤ 1048576) (hk : 0 ≤ k ∧ k ≤ 274877906944) : GV prg 362 [.arr 1 (zs.map iR), .arr 1 (xs.map iR), .arr 1 (ys.map iR)] [.agg [.ls 0 zs.length, .ls 1 xs.length, .w (.int .i64 t), .ls 2 ys.length], .w (.int .i64 k)] (fun u L1 => u = .w (.int .i64 (k + 1 * zs.length + 1 * xs.length + 1 * ys.length)) ∧ L1 = [.arr 1 (((List.range zs.length).map (markI k)).map iR), .arr 1 (((List.range xs.length).map (markI (k + 1 * zs.length))).map iR), .arr 1 (((List.range ys.length).map (markI (k + 1 * zs.length + 1 * xs.length))).map iR)]) := by
 refine gv_in g362 (Eb [0, 1] rfl (Ee (Eg (Ea (o_box rfl rfl rfl) (Ea (Ef rfl) (Ed (Ec (Eb [1, 2] rfl (Ee (Eg (Ea (Ek rfl) ?_)))))))))))
 refine Ea (Ep rfl rfl rfl) (Ea (Ef rfl) (s_callG [0] rfl rfl rfl rfl (by simp) (.inl rfl) (cg_337 _ _ hz (by omega)) ?_))
 rintro u L1 ⟨rfl, rfl⟩
 refine ⟨_, _, rfl, rfl, ?_⟩
 refine Ea (Ef rfl) (Ed (Ec (Eb [1, 2] rfl (Ee (Eg (Ea (Ek rfl) (Ea (o_ldnC rfl rfl rfl) (Ea (Ef rfl) (s_callG [1, 2] rfl rfl rfl rfl (by simp) (.inl rfl) (cg_379 _ _ _ _ hx hy (by omega)) ?_)))))))))
 rintro u L1 ⟨rfl, rfl⟩
 refine ⟨_, _, rfl, rfl, ?_⟩
 refine Ea (Ef rfl) (Ed (Ec (Eb [1] rfl (Ee (Eg (Ea (Ef rfl) (Ea (Ef rfl) (Ed (Ec (Eb [4] rfl (En ?_)))))))))))
 · refine retG_leaf [] (.inr rfl) rfl rfl rfl rfl (show (List.range 3 ++ []).Nodup by decide) ?_
   exact ⟨rfl, rfl⟩
theorem c_363 (l n m : Nat) (t k : Int) (hl : l ≤ 1048576) (hn : n ≤ 1048576) (hm : m ≤ 1048576) (hk : 0 ≤ k ∧ k ≤ 274877906944) : CV prg 363 [.agg [.sl 1 (((List.range l).map (markI k)).map iR), .sl 1 (((List.range n).map (markI (k + 1 * l))).map iR), .w (.int .i64 t), .sl 1 (((List.range m).map (markI (k + 1 * l + 1 * n))).map iR)], .w (.int .i64 k)] (fun res => res = .w (.int .i64 (k + 1 * l + 1 * n + 1 * m))) := by
 refine cv_in g363 (Eb [0, 1] rfl (Ee (Eg (Ea (o_box rfl rfl rfl) (Ea (Ef rfl) (Ed (Ec (Eb [1, 2] rfl (Ee (Eg (Ea (Ek rfl) ?_)))))))))))
 refine Ea (Ep rfl rfl rfl) (Ea (Ef rfl) ?_)
 first | refine Et rfl rfl (c_380 _ _ hl (by omega)) ?_ | refine Er rfl rfl (by simp) (c_380 _ _ hl (by omega)) rfl ?_
 refine Ea (Ef rfl) (Ed (Ec (Eb [1, 2] rfl (Ee (Ee (Eg (Ea (Ef rfl) (Ea (o_lss rfl rfl) (Ed (Ec (Eb [1, 2, 10] rfl ?_)))))))))))
 first | refine Em rfl ?_ ?_ | refine Ej rfl ?_ ?_
 intro h1
 try rw [nnp] at h1
 refine Ee (Eg (Ea (Ef rfl) (Ed (Ec (Eb [4] rfl (En (Ei (Eq rfl rfl ?_))))))))
 rotate_left
 intro h1
 try rw [nnp] at h1
 refine Eo (Ec (Eb [1, 2] rfl (Ee (Eg (Ea (Ek rfl) (Ea (o_ldnC rfl rfl rfl) (Ea (Ef rfl) ?_)))))))
 first | refine Et rfl rfl (c_381 _ _ _ _ hn hm (by omega)) ?_ | refine Er rfl rfl (by simp) (c_381 _ _ _ _ hn hm (by omega)) rfl ?_
 refine Ea (Ef rfl) (Ed (Ec (Eb [1] rfl (Ee (Ee (Eg (Ea (Ef rfl) (Ea (o_lss rfl rfl) (Ed (Ec (Eb [1, 16] rfl ?_)))))))))))
 first | refine Em rfl ?_ ?_ | refine Ej rfl ?_ ?_
 intro h2
 try rw [nnp] at h2
 refine Ee (Eg (Ea (Ef rfl) (Ed (Ec (Eb [4] rfl (En (Ei (Eq rfl rfl ?_))))))))
 rotate_left
 intro h2
 try rw [nnp] at h2
 refine Eo (Ec (Eb [1] rfl (Ee (Eg (Ea (Ef rfl) (Ea (Ef rfl) (Ed (Ec (Eb [4] rfl (En (Eq rfl rfl ?_)))))))))))
 rotate_left
 all_goals
  first | rfl | (exfalso; omega)
def bus0 : Bus := ⟨⟨[], 0, 0, 0, 0, 0⟩, 0, [], ⟨0, 0⟩, [], [], 0, 0, 0, ⟨false, 0, 0, false, 0, 0, 0, false⟩, ⟨false, 0, 0, false, 0, 0, 0, false⟩, ⟨[], ⟨[], 0, []⟩⟩, 0, []⟩
def model0 : Model := ⟨List.replicate 192 0, ⟨List.replicate 4 0, 0, []⟩⟩
def bus1 (c : Conf) : Bus := ⟨c, 0, List.replicate c.masters.length mst0, ⟨0, 0⟩, c.masters.map MConf.newB, List.replicate c.masters.length 0, -1, 0, -1, ⟨false, 0, 0, false, 0, 0, 0, false⟩, ⟨false, 0, 0, false, 0, 0, 0, false⟩, model0, 0, []⟩
def newBus (c : Conf) : Bus := if c.ok then bus1 c else bus0
def Bus.mid (b : Bus) : List V := [.w (.int .i64 b.holder), .w (.int .i64 b.kept), .w (.int .i64 b.last), .w (.bool b.addr.live), .w (.int .i64 b.addr.who), .w (.int .i64 b.addr.num), .w (.bool b.addr.first), .w (.int .i64 b.addr.via), .w (.int .i64 b.addr.left), .w (.int .i64 b.addr.resp), .w (.bool b.addr.second), .w (.bool b.data.live), .w (.int .i64 b.data.who), .w (.int .i64 b.data.num), .w (.bool b.data.first), .w (.int .i64 b.data.via), .w (.int .i64 b.data.left), .w (.int .i64 b.data.resp), .w (.bool b.data.second)]
def Bus.o (b : Bus) : List V := [.ls 0 b.conf.masters.length, .w (.int .i64 b.conf.quantum), .w (.int .i64 b.conf.maxWait), .w (.int .i64 b.conf.maxRetry), .w (.int .i64 b.conf.maxSplit), .w (.int .i64 b.conf.lockMost), .w (.int .i64 b.now), .ls 1 b.ms.length, .w (.int .i64 b.arb.pos), .w (.int .i64 b.arb.credit), .ls 2 b.buckets.length, .ls 3 b.splits.length] ++ b.mid ++ [.ls 4 b.model.ram.length, .ls 5 b.model.dev.regs.length, .w (.int .i64 b.model.dev.timer), .ls 6 b.model.dev.fifo.length, .w (.int .i64 b.picks), .ls 7 b.log.length]
def Bus.n (b : Bus) : List V := [.sl 4 (b.conf.masters.map MConf.r), .w (.int .i64 b.conf.quantum), .w (.int .i64 b.conf.maxWait), .w (.int .i64 b.conf.maxRetry), .w (.int .i64 b.conf.maxSplit), .w (.int .i64 b.conf.lockMost), .w (.int .i64 b.now), .sl 6 (b.ms.map Mst.n), .w (.int .i64 b.arb.pos), .w (.int .i64 b.arb.credit), .sl 2 (b.buckets.map Bucket.r), .sl 1 (b.splits.map iR)] ++ b.mid ++ [.sl 1 (b.model.ram.map iR), .sl 1 (b.model.dev.regs.map iR), .w (.int .i64 b.model.dev.timer), .sl 1 (b.model.dev.fifo.map iR), .w (.int .i64 b.picks), .sl 7 (b.log.map Done.r)]
theorem rep_snoc {α : Type} (r : α → List V) (x : α) (i : Nat) : (List.replicate (i + 1) x).map r = (List.replicate i x).map r ++ [r x] := by rw [List.replicate_succ', List.map_append]; rfl
theorem take_snoc2 {α β : Type} (f : α → β) (r : β → List V) {xs : List α} {i : Nat} {y : α} (h : xs[i]? = some y) : ((xs.take (i + 1)).map f).map r = ((xs.take i).map f).map r ++ [r (f y)] := by
 rw [take_get h, List.map_append, List.map_append]; rfl
theorem rep192 : List.replicate (192 : Int).toNat [V.w (.int .i64 0)] = (List.replicate 192 (0 : Int)).map iR := by rw [List.map_replicate]; rfl
theorem cg_400  : GV prg 400 [] [] (fun u L1 => u = .agg [.ls 0 4, .w (.int .i64 0), .w (.slice none 0 0)] ∧ L1 = [.arr 1 ((List.replicate 4 (0 : Int)).map iR)]) := by
 refine gv_in g400 (Eb [] rfl (Ee (Eg (Ea (o_new rfl rfl) (Ed (Ec (Eb [0] rfl (Ee (Eg (Ea (o_mk rfl rfl rfl rfl (by decide) rfl) (Ea (o_bd rfl rfl) ?_)))))))))))
 refine s_opN (o_stnC rfl rfl rfl rfl rfl rfl rfl) (Ed (Ec (Eb [0] rfl (En ?_))))
 · refine retG_leaf [1] (.inr rfl) rfl rfl rfl rfl (show (List.range 0 ++ [1]).Nodup by decide) ?_
   exact ⟨rfl, rfl⟩
theorem cg_188  : GV prg 188 [] [] (fun u L1 => u = .agg [.ls 0 4, .w (.int .i64 0), .w (.slice none 0 0)] ∧ L1 = [.arr 1 ((List.replicate 4 (0 : Int)).map iR)]) := by
 refine gv_in g188 (Eb [] rfl (Ee (Eg (Ea (o_new rfl rfl) (Ed (Ec (Eb [0] rfl (Ee (Eg (Ea (o_mk rfl rfl rfl rfl (by decide) rfl) (Ea (o_bd rfl rfl) ?_)))))))))))
 refine s_opN (o_stnC rfl rfl rfl rfl rfl rfl rfl) (Ed (Ec (Eb [0] rfl (En ?_))))
 · refine retG_leaf [1] (.inr rfl) rfl rfl rfl rfl (show (List.range 0 ++ [1]).Nodup by decide) ?_
   exact ⟨rfl, rfl⟩
theorem cg_378  : GV prg 378 [] [] (fun u L1 => u = .agg [.ls 0 192, .ls 1 4, .w (.int .i64 0), .w (.slice none 0 0)] ∧ L1 = [.arr 1 ((List.replicate 192 (0 : Int)).map iR), .arr 1 ((List.replicate 4 (0 : Int)).map iR)]) := by
 refine gv_in g378 (Eb [] rfl (Ee (Eg (Ea (o_new rfl rfl) (Ed (Ec (Eb [0] rfl (Ee (Eg (Ea (o_mk rfl rfl rfl rfl (by decide) rfl) (s_callG [] rfl rfl rfl rfl (by simp) (.inr rfl) (cg_400) ?_)))))))))))
 rintro u L1 ⟨rfl, rfl⟩
 refine ⟨_, _, rfl, rfl, ?_⟩
 refine Ea (o_bd rfl rfl) (s_opN (o_stnC rfl rfl rfl rfl rfl rfl rfl) (Ed (Ec (Eb [0] rfl (En ?_)))))
 · refine retG_leaf [1, 2] (.inr rfl) rfl rfl rfl rfl (show (List.range 0 ++ [1, 2]).Nodup by decide) ?_
   exact ⟨rfl, by rw [rep192]⟩
theorem cg_202  : GV prg 202 [] [] (fun u L1 => u = .agg [.ls 0 192, .ls 1 4, .w (.int .i64 0), .w (.slice none 0 0)] ∧ L1 = [.arr 1 ((List.replicate 192 (0 : Int)).map iR), .arr 1 ((List.replicate 4 (0 : Int)).map iR)]) := by
 refine gv_in g202 (Eb [] rfl (Ee (Eg (Ea (o_new rfl rfl) (Ed (Ec (Eb [0] rfl (Ee (Eg (Ea (o_mk rfl rfl rfl rfl (by decide) rfl) (s_callG [] rfl rfl rfl rfl (by simp) (.inr rfl) (cg_188) ?_)))))))))))
 rintro u L1 ⟨rfl, rfl⟩
 refine ⟨_, _, rfl, rfl, ?_⟩
 refine Ea (o_bd rfl rfl) (s_opN (o_stnC rfl rfl rfl rfl rfl rfl rfl) (Ed (Ec (Eb [0] rfl (En ?_)))))
 · refine retG_leaf [1, 2] (.inr rfl) rfl rfl rfl rfl (show (List.range 0 ++ [1, 2]).Nodup by decide) ?_
   exact ⟨rfl, by rw [rep192]⟩
theorem cg_256 (xs : List MConf) (hl : xs.length ≤ 1048576) : GV prg 256 [] [.sl 4 (xs.map MConf.r)] (fun u L1 => u = .ls 0 xs.length ∧ L1 = [.arr 4 (xs.map MConf.r)]) := by
 refine gv_in g256 (Eb [0] rfl (Ee (Eg (Ea (Ef rfl) (Ed (Ec (Eb [0] rfl (Ee (Ee (Eg (Ea (Ef rfl) ?_)))))))))))
 refine s_eqnilS rfl ?_ ?_
 refine Ed (Ec (Eb [0, 4] rfl (s_condF rfl (Eo (Ec (Eb [0] rfl (Ee (Eg (Ea (o_bs rfl rfl rfl rfl) (Ea (Ef rfl) ?_))))))))))
 first | refine Ea (o_appL rfl rfl rfl rfl rfl rfl rfl (by simp [roomy]; omega)) ?_ | refine Ea (o_app rfl rfl rfl rfl rfl (by simp [roomy]; omega)) ?_
 refine Ea (Ef rfl) (Ed (Ec (Eb [2] rfl ?_)))
 first | refine s_nil 2 4 rfl ⟨rfl, rfl⟩ rfl ?_ | skip
 refine En ?_
 · refine retG_leaf [0] (.inr rfl) rfl rfl rfl rfl (show (List.range 0 ++ [0]).Nodup by decide) ?_
   first | (have : xs = [] := List.map_eq_nil_iff.1 hnil
            subst this; exact ⟨rfl, rfl⟩) | exact ⟨by simp, rfl⟩
 intro hnil
 refine Ed (Ec (Eb [0, 4] rfl (s_condT rfl (Ee (Eg (Ea (Ef rfl) (Ed (Ec (Eb [2] rfl ?_)))))))))
 first | refine s_nil 2 4 rfl ⟨rfl, rfl⟩ rfl ?_ | skip
 refine En (Ei ?_)
 · refine retG_leaf [0] (.inr rfl) rfl rfl rfl rfl (show (List.range 0 ++ [0]).Nodup by decide) ?_
   first | (have : xs = [] := List.map_eq_nil_iff.1 hnil
            subst this; exact ⟨rfl, rfl⟩) | exact ⟨by simp, rfl⟩
theorem cg_96 (c : Conf) (hl : c.masters.length ≤ 1048576) : GV prg 96 [] [.agg c.r] (fun u L1 => u = .agg [.ls 0 c.masters.length, .w (.int .i64 c.quantum), .w (.int .i64 c.maxWait), .w (.int .i64 c.maxRetry), .w (.int .i64 c.maxSplit), .w (.int .i64 c.lockMost)] ∧ L1 = [.arr 4 (c.masters.map MConf.r)]) := by
 refine gv_in g96 (Eb [0] rfl (Ee (Eg (Ea (o_box rfl rfl rfl) (Ea (o_new rfl rfl) (Ed (Ec (Eb [1, 2] rfl (Ee (Eg (Ea (Ek rfl) ?_)))))))))))
 refine Ea (Ep rfl rfl rfl) (s_callG [] rfl rfl rfl rfl (by simp) (.inl rfl) (cg_256 _ hl) ?_)
 rintro u L1 ⟨rfl, rfl⟩
 refine ⟨_, _, rfl, rfl, ?_⟩
 refine Ea (Ek rfl) (s_opN (o_stC rfl rfl rfl rfl rfl rfl) (Ed (Ec (Eb [1, 2] rfl (Ee (Eg (Ea (o_ldnC rfl rfl rfl) (s_opN (o_stnC rfl rfl rfl rfl rfl rfl rfl) (Ed (Ec (Eb [2] rfl ?_)))))))))))
 refine En ?_
 · refine retG_leaf [2] (.inr rfl) rfl rfl rfl rfl (show (List.range 0 ++ [2]).Nodup by decide) ?_
   exact ⟨rfl, rfl⟩
theorem cg_244 (c : Conf) (hl : c.masters.length ≤ 1048576) : GV prg 244 [] [.agg c.r] (fun u L1 => u = .agg [.ls 0 c.masters.length, .w (.int .i64 c.quantum), .w (.int .i64 c.maxWait), .w (.int .i64 c.maxRetry), .w (.int .i64 c.maxSplit), .w (.int .i64 c.lockMost)] ∧ L1 = [.arr 4 (c.masters.map MConf.r)]) := by
 refine gv_in g244 (Eb [0] rfl (Ee (Eg (Ea (o_box rfl rfl rfl) (Ea (o_new rfl rfl) (Ed (Ec (Eb [1, 2] rfl (Ee (Eg (Ea (o_bs rfl rfl rfl rfl) ?_)))))))))))
 refine Ea (Ek rfl) (Ea (Ep rfl rfl rfl) ?_)
 first | refine Ea (o_appL rfl rfl rfl rfl rfl rfl rfl (by simp [roomy]; omega)) ?_ | refine Ea (o_app rfl rfl rfl rfl rfl (by simp [roomy]; omega)) ?_
 refine Ea (Ek rfl) (s_opN (o_stC rfl rfl rfl rfl rfl rfl) (Ed (Ec (Eb [1, 2] rfl (Ee (Eg (Ea (o_ldnC rfl rfl rfl) (s_opN (o_stnC rfl rfl rfl rfl rfl rfl rfl) (Ed (Ec (Eb [2] rfl ?_)))))))))))
 refine En ?_
 · refine retG_leaf [2] (.inr rfl) rfl rfl rfl rfl (show (List.range 0 ++ [2]).Nodup by decide) ?_
   exact ⟨by simp, by simp⟩
def Bus.rows (b : Bus) : List LB := [.arr 4 (b.conf.masters.map MConf.r), .arr 6 (b.ms.map Mst.n), .arr 2 (b.buckets.map Bucket.r), .arr 1 (b.splits.map iR), .arr 1 (b.model.ram.map iR), .arr 1 (b.model.dev.regs.map iR), .arr 1 (b.model.dev.fifo.map iR), .arr 7 (b.log.map Done.r)]
theorem cg_368 (c : Conf) (hl : c.masters.length ≤ 1048576) : GV prg 368 [] [.agg c.r] (fun u L1 => u = .tup [.agg (newBus c).o, .w (.bool c.ok)] ∧ L1 = (newBus c).rows) := by
 have hml := hl
 refine gv_in g368 (Eb [0] rfl (Ee (Eg (Ea (o_box rfl rfl rfl) (Ea (o_new rfl rfl) (Ea (Ef rfl) (Ed (Ec (Eb [1, 2] rfl (Ee (Ee ?_)))))))))))
 refine Eg (Ea (o_ldnC rfl rfl rfl) ?_)
 first | refine Et rfl rfl (c_34 c hl) ?_ | refine Er rfl rfl (by simp) (c_34 c hl) rfl ?_
 refine Ea (o_not rfl) (Ed (Ec (Eb [1, 2, 9] rfl ?_)))
 first | refine Em rfl ?_ ?_ | refine s_condN rfl ?_ ?_ | refine Eu rfl ?_ ?_ | refine Ej rfl ?_ ?_
 intro h1
 try rw [nnp] at h1
 refine Ee (Eg (Ea (o_bd rfl rfl) (s_opN (o_stnC rfl rfl rfl rfl rfl rfl rfl) (Ea (Ef rfl) (Ed (Ec (Eb [2, 3] rfl ?_)))))))
 first | (refine s_nilC 1 0 4 rfl rfl rfl rfl rfl ?_; refine s_nilC 1 7 6 rfl rfl rfl rfl rfl ?_; refine s_nilC 1 10 2 rfl rfl rfl rfl rfl ?_; refine s_nilC 1 11 1 rfl rfl rfl rfl rfl ?_; refine s_nilC 1 31 1 rfl rfl rfl rfl rfl ?_; refine s_nilC 1 32 1 rfl rfl rfl rfl rfl ?_; refine s_nilC 1 34 1 rfl rfl rfl rfl rfl ?_; refine s_nilC 1 36 7 rfl rfl rfl rfl rfl ?_) | skip
 refine En (Ei ?_)
 · first | (refine retG_leaf [2, 6, 7, 8, 3, 4, 9, 10] (.inr rfl) rfl rfl rfl rfl (show (List.range 0 ++ [2, 6, 7, 8, 3, 4, 9, 10]).Nodup by decide) ?_; rw [newBus, if_pos (by assumption), (by assumption : c.ok = true), List.take_of_length_le (show c.masters.length ≤ i by omega), show i = c.masters.length by omega]; exact ⟨by simp [Bus.o, Bus.mid, bus1, model0], rfl⟩) | (refine retG_leaf [2, 3, 4, 5, 6, 7, 8, 9] (.inr rfl) rfl rfl rfl rfl (show (List.range 0 ++ [2, 3, 4, 5, 6, 7, 8, 9]).Nodup by decide) ?_; rw [newBus, if_neg (by simp_all), (by assumption : c.ok = false)]; exact ⟨rfl, rfl⟩)
 intro h1
 try rw [nnp] at h1
 refine Eo (Ec (Eb [1, 2] rfl (Ee (Eg (Ea (o_ldnC rfl rfl rfl) (s_callG [] rfl rfl rfl rfl (by simp) (.inl rfl) (cg_96 _ hl) ?_))))))
 rintro u L1 ⟨rfl, rfl⟩
 refine ⟨_, _, rfl, rfl, ?_⟩
 refine s_callG [] rfl rfl rfl rfl (by simp) (.inl rfl) (cg_378) ?_
 rintro u L1 ⟨rfl, rfl⟩
 refine ⟨_, _, rfl, rfl, ?_⟩
 refine Ea (o_bd rfl rfl) (Ea (o_new rfl rfl) (s_opN (o_stnC rfl rfl rfl rfl rfl rfl rfl) (Ed (Ec (Eb [1, 2, 4] rfl (Ee (Ee (Eg (Ea (Ek rfl) (Ea (Ep rfl rfl rfl) ?_))))))))))
 first | refine Ea (o_lenM rfl) ?_ | refine Ea (o_len rfl) ?_ | refine Ea (o_lenL rfl rfl (by simp)) ?_ | refine Ea (o_lenN rfl) ?_
 refine Ea (Ef rfl) (Ed (Ec (Eb [2, 4, 16, 17, 18] rfl (S_block (s_nilC 5 7 6 rfl rfl rfl rfl rfl (s_nilC 5 10 2 rfl rfl rfl rfl rfl (s_nilC 5 11 1 rfl rfl rfl rfl rfl (s_nilC 5 34 1 rfl rfl rfl rfl rfl (s_nilC 5 36 7 rfl rfl rfl rfl rfl (S_loop (ι := Nat) (fun i => i ≤ c.masters.length) (fun i => [(18, .w (.int .i64 (i : Int)))]) (fun i => [.cell c.r, .cell [.w (.slice none 0 0), .w (.int .i64 0), .w (.int .i64 0), .w (.int .i64 0), .w (.int .i64 0), .w (.int .i64 0), .w (.int .i64 0), .w (.slice none 0 0), .w (.int .i64 0), .w (.int .i64 0), .w (.slice none 0 0), .w (.slice none 0 0), .w (.int .i64 0), .w (.int .i64 0), .w (.int .i64 0), .w (.bool false), .w (.int .i64 0), .w (.int .i64 0), .w (.bool false), .w (.int .i64 0), .w (.int .i64 0), .w (.int .i64 0), .w (.bool false), .w (.bool false), .w (.int .i64 0), .w (.int .i64 0), .w (.bool false), .w (.int .i64 0), .w (.int .i64 0), .w (.int .i64 0), .w (.bool false), .w (.slice none 0 0), .w (.slice none 0 0), .w (.int .i64 0), .w (.slice none 0 0), .w (.int .i64 0), .w (.slice none 0 0)], .arr 4 (c.masters.map MConf.r), .arr 1 ((List.replicate 192 (0 : Int)).map iR), .arr 1 ((List.replicate 4 (0 : Int)).map iR), .cell [.ls 2 c.masters.length, .w (.int .i64 c.quantum), .w (.int .i64 c.maxWait), .w (.int .i64 c.maxRetry), .w (.int .i64 c.maxSplit), .w (.int .i64 c.lockMost), .w (.int .i64 0), .ls 6 ((List.replicate i mst0).map Mst.n).length, .w (.int .i64 0), .w (.int .i64 0), .ls 7 (((c.masters.take i).map MConf.newB).map Bucket.r).length, .ls 8 ((List.replicate i (0 : Int)).map iR).length, .w (.int .i64 (-1)), .w (.int .i64 0), .w (.int .i64 (-1)), .w (.bool false), .w (.int .i64 0), .w (.int .i64 0), .w (.bool false), .w (.int .i64 0), .w (.int .i64 0), .w (.int .i64 0), .w (.bool false), .w (.bool false), .w (.int .i64 0), .w (.int .i64 0), .w (.bool false), .w (.int .i64 0), .w (.int .i64 0), .w (.int .i64 0), .w (.bool false), .ls 3 192, .ls 4 4, .w (.int .i64 0), .ls 9 0, .w (.int .i64 0), .ls 10 0], .arr 6 ((List.replicate i mst0).map Mst.n), .arr 2 (((c.masters.take i).map MConf.newB).map Bucket.r), .arr 1 ((List.replicate i (0 : Int)).map iR), .arr 1 [], .arr 7 []]) (fun i => c.masters.length - i) 11 0 (by simp) rfl (hasOf ⟨rfl, trivial⟩ rfl) rfl (fun _ _ => rfl) (fun _ _ => ⟨rfl, rfl⟩) ?_))))))))))
 intro i hi
 refine Eb [2, 4, 16, 17, 18] rfl (Ee (Eg (Ea (o_lss rfl rfl) (Ed (Ec (Eb [2, 4, 16, 17, 18, 19] rfl (Ee ?_)))))))
 first | refine Em rfl ?_ ?_ | refine Ej rfl ?_ ?_
 intro h2
 try rw [nnp] at h2
 refine Eo (Ec (Eb [2, 4, 16, 17, 18] rfl (Ee (S_block (Ee (Eg (s_iaM rfl rfl (by omega) ?_)))))))
 intro y3 e3
 try simp only [Int.toNat_natCast, Int.toNat_zero] at e3
 refine Ea (o_ldn rfl rfl) (Ea (o_new rfl rfl) (s_opN (o_stnC rfl rfl rfl rfl rfl rfl rfl) (Ed (Ec (Eb [2, 4, 6, 16, 17, 18] rfl (Ee (Eg (Ea (Ek rfl) (Ea (Ep rfl rfl rfl) (Ea (o_bd rfl rfl) (Ea (o_bs rfl rfl rfl rfl) ?_)))))))))))
 first | refine Ea (o_appL rfl rfl (by simp) rfl rfl rfl rfl (by simp [roomy]; omega)) ?_ | refine Ea (o_app rfl rfl (by simp) rfl rfl (by simp [roomy]; omega)) ?_
 refine Ea (Ek rfl) (s_opN (o_stC rfl rfl rfl rfl rfl rfl) (Ed (Ec (Eb [2, 4, 6, 16, 17, 18] rfl (Ee (Eg (Ea (Ek rfl) (Ea (Ep rfl rfl rfl) (Ea (o_ldnC rfl rfl rfl) ?_)))))))))
 first | refine Et rfl rfl (c_25 _) ?_ | refine Er rfl rfl (by simp) (c_25 _) rfl ?_
 refine Ea (o_bs rfl rfl rfl rfl) ?_
 first | refine Ea (o_appL rfl rfl (by simp) rfl rfl rfl rfl (by simp [roomy]; omega)) ?_ | refine Ea (o_app rfl rfl (by simp) rfl rfl (by simp [roomy]; omega)) ?_
 refine Ea (Ek rfl) (s_opN (o_stC rfl rfl rfl rfl rfl rfl) (Ed (Ec (Eb [2, 4, 16, 17, 18] rfl (Eg (Ea (Ek rfl) (Ea (Ep rfl rfl rfl) (Ea (o_bs rfl rfl rfl rfl) ?_))))))))
 first | refine Ea (o_appL rfl rfl (by simp) rfl rfl rfl rfl (by simp [roomy]; omega)) ?_ | refine Ea (o_app rfl rfl (by simp) rfl rfl (by simp [roomy]; omega)) ?_
 refine Ea (Ek rfl) (s_opN (o_stC rfl rfl rfl rfl rfl rfl) (Ed (q_blkN (Ec (Eb [2, 4, 16, 17, 18] rfl (Eg ?_))))))
 first | refine Ea (o_addn rfl rfl (by omega)) ?_ | refine Ea (o_add rfl rfl) ?_
 refine Ea (Ef rfl) (Ed (q_loopN ?_))
 · refine ⟨i + 1, by omega, by omega, hasOf ⟨rfl, trivial⟩ ?_⟩
   simp only [rep_snoc, take_snoc2 _ _ (by assumption)]; rfl
 intro h2
 try rw [nnp] at h2
 refine s_exit (q_seqX (q_loopX (q_blkH (Ec (Eb [2, 4] rfl (Ee (Eg (Ea (o_ldnC rfl rfl rfl) (s_opN (o_stnC rfl rfl rfl rfl rfl rfl rfl) (Ea (Ef rfl) (Ed ?_)))))))))))
 refine Ec (Eb [2, 3] rfl ?_)
 first | (refine s_nilC 1 0 4 rfl rfl rfl rfl rfl ?_; refine s_nilC 1 7 6 rfl rfl rfl rfl rfl ?_; refine s_nilC 1 10 2 rfl rfl rfl rfl rfl ?_; refine s_nilC 1 11 1 rfl rfl rfl rfl rfl ?_; refine s_nilC 1 31 1 rfl rfl rfl rfl rfl ?_; refine s_nilC 1 32 1 rfl rfl rfl rfl rfl ?_; refine s_nilC 1 34 1 rfl rfl rfl rfl rfl ?_; refine s_nilC 1 36 7 rfl rfl rfl rfl rfl ?_) | skip
 refine En ?_
 · first | (refine retG_leaf [2, 6, 7, 8, 3, 4, 9, 10] (.inr rfl) rfl rfl rfl rfl (show (List.range 0 ++ [2, 6, 7, 8, 3, 4, 9, 10]).Nodup by decide) ?_; rw [newBus, if_pos (by assumption), (by assumption : c.ok = true), List.take_of_length_le (show c.masters.length ≤ i by omega), show i = c.masters.length by omega]; exact ⟨by simp [Bus.o, Bus.mid, bus1, model0], rfl⟩) | (refine retG_leaf [2, 3, 4, 5, 6, 7, 8, 9] (.inr rfl) rfl rfl rfl rfl (show (List.range 0 ++ [2, 3, 4, 5, 6, 7, 8, 9]).Nodup by decide) ?_; rw [newBus, if_neg (by simp_all), (by assumption : c.ok = false)]; exact ⟨rfl, rfl⟩)
theorem c_181 (c : Conf) (hl : c.masters.length ≤ 1048576) : CV prg 181 [.agg c.r] (fun res => res = .tup [.agg (newBus c).n, .w (.bool c.ok)]) := by
 have hml := hl
 refine cv_in g181 (Eb [0] rfl (Ee (Eg (Ea (o_box rfl rfl rfl) (Ea (o_new rfl rfl) (Ea (Ef rfl) (Ed (Ec (Eb [1, 2] rfl (Ee (Ee ?_)))))))))))
 refine Eg (Ea (o_ldnC rfl rfl rfl) ?_)
 first | refine Et rfl rfl (c_184 c hl) ?_ | refine Er rfl rfl (by simp) (c_184 c hl) rfl ?_
 refine Ea (o_not rfl) (Ed (Ec (Eb [1, 2, 8] rfl ?_)))
 first | refine Em rfl ?_ ?_ | refine s_condN rfl ?_ ?_ | refine Eu rfl ?_ ?_ | refine Ej rfl ?_ ?_
 intro h1
 try rw [nnp] at h1
 refine Ee (Eg (Ea (o_bd rfl rfl) (s_opN (o_stnC rfl rfl rfl rfl rfl rfl rfl) (Ea (Ef rfl) (Ed (Ec (Eb [2, 3] rfl ?_)))))))
 first | (refine s_nilC 1 0 4 rfl rfl rfl rfl rfl ?_; refine s_nilC 1 7 6 rfl rfl rfl rfl rfl ?_; refine s_nilC 1 10 2 rfl rfl rfl rfl rfl ?_; refine s_nilC 1 11 1 rfl rfl rfl rfl rfl ?_; refine s_nilC 1 31 1 rfl rfl rfl rfl rfl ?_; refine s_nilC 1 32 1 rfl rfl rfl rfl rfl ?_; refine s_nilC 1 34 1 rfl rfl rfl rfl rfl ?_; refine s_nilC 1 36 7 rfl rfl rfl rfl rfl ?_) | skip
 refine En (Ei ?_)
 · refine ret_leafP (.inr rfl) rfl rfl (by simp) ?_
   first | (rw [newBus, if_pos (by assumption), (by assumption : c.ok = true), List.take_of_length_le (show c.masters.length ≤ i by omega), show i = c.masters.length by omega]; rfl) | (rw [newBus, if_neg (by simp_all), (by assumption : c.ok = false)]; rfl)
 intro h1
 try rw [nnp] at h1
 refine Eo (Ec (Eb [1, 2] rfl (Ee (Eg (Ea (o_ldnC rfl rfl rfl) (s_callG [] rfl rfl rfl rfl (by simp) (.inl rfl) (cg_244 _ hl) ?_))))))
 rintro u L1 ⟨rfl, rfl⟩
 refine ⟨_, _, rfl, rfl, ?_⟩
 refine s_callG [] rfl rfl rfl rfl (by simp) (.inl rfl) (cg_202) ?_
 rintro u L1 ⟨rfl, rfl⟩
 refine ⟨_, _, rfl, rfl, ?_⟩
 refine Ea (o_bd rfl rfl) (Ea (o_new rfl rfl) (s_opN (o_stnC rfl rfl rfl rfl rfl rfl rfl) (Ed (Ec (Eb [1, 2, 4] rfl (Ee (Ee (Eg (Ea (Ef rfl) (Ed (Ec ?_)))))))))))
 refine Eb [1, 2, 4, 5] rfl (S_block (s_nilC 5 7 6 rfl rfl rfl rfl rfl (s_nilC 5 10 2 rfl rfl rfl rfl rfl (s_nilC 5 11 1 rfl rfl rfl rfl rfl (s_nilC 5 34 1 rfl rfl rfl rfl rfl (s_nilC 5 36 7 rfl rfl rfl rfl rfl (S_loop (ι := Nat) (fun i => i ≤ c.masters.length) (fun i => [(5, .w (.int .i64 (i : Int)))]) (fun i => [.cell c.r, .cell [.w (.slice none 0 0), .w (.int .i64 0), .w (.int .i64 0), .w (.int .i64 0), .w (.int .i64 0), .w (.int .i64 0), .w (.int .i64 0), .w (.slice none 0 0), .w (.int .i64 0), .w (.int .i64 0), .w (.slice none 0 0), .w (.slice none 0 0), .w (.int .i64 0), .w (.int .i64 0), .w (.int .i64 0), .w (.bool false), .w (.int .i64 0), .w (.int .i64 0), .w (.bool false), .w (.int .i64 0), .w (.int .i64 0), .w (.int .i64 0), .w (.bool false), .w (.bool false), .w (.int .i64 0), .w (.int .i64 0), .w (.bool false), .w (.int .i64 0), .w (.int .i64 0), .w (.int .i64 0), .w (.bool false), .w (.slice none 0 0), .w (.slice none 0 0), .w (.int .i64 0), .w (.slice none 0 0), .w (.int .i64 0), .w (.slice none 0 0)], .arr 4 (c.masters.map MConf.r), .arr 1 ((List.replicate 192 (0 : Int)).map iR), .arr 1 ((List.replicate 4 (0 : Int)).map iR), .cell [.ls 2 c.masters.length, .w (.int .i64 c.quantum), .w (.int .i64 c.maxWait), .w (.int .i64 c.maxRetry), .w (.int .i64 c.maxSplit), .w (.int .i64 c.lockMost), .w (.int .i64 0), .ls 6 ((List.replicate i mst0).map Mst.n).length, .w (.int .i64 0), .w (.int .i64 0), .ls 7 (((c.masters.take i).map MConf.newB).map Bucket.r).length, .ls 8 ((List.replicate i (0 : Int)).map iR).length, .w (.int .i64 (-1)), .w (.int .i64 0), .w (.int .i64 (-1)), .w (.bool false), .w (.int .i64 0), .w (.int .i64 0), .w (.bool false), .w (.int .i64 0), .w (.int .i64 0), .w (.int .i64 0), .w (.bool false), .w (.bool false), .w (.int .i64 0), .w (.int .i64 0), .w (.bool false), .w (.int .i64 0), .w (.int .i64 0), .w (.int .i64 0), .w (.bool false), .ls 3 192, .ls 4 4, .w (.int .i64 0), .ls 9 0, .w (.int .i64 0), .ls 10 0], .arr 6 ((List.replicate i mst0).map Mst.n), .arr 2 (((c.masters.take i).map MConf.newB).map Bucket.r), .arr 1 ((List.replicate i (0 : Int)).map iR), .arr 1 [], .arr 7 []]) (fun i => c.masters.length - i) 11 0 (by simp) rfl (hasOf ⟨rfl, trivial⟩ rfl) rfl (fun _ _ => rfl) (fun _ _ => ⟨rfl, rfl⟩) ?_)))))))
 intro i hi
 refine Eb [1, 2, 4, 5] rfl (Ee (Ee (Eg (Ea (Ef rfl) (Ea (Ek rfl) (Ea (Ep rfl rfl rfl) ?_))))))
 first | refine Ea (o_lenM rfl) ?_ | refine Ea (o_len rfl) ?_ | refine Ea (o_lenL rfl rfl (by simp)) ?_ | refine Ea (o_lenN rfl) ?_
 refine Ea (o_lss rfl rfl) (Ed (Ec (Eb [1, 2, 4, 5, 18] rfl ?_)))
 first | refine Em rfl ?_ ?_ | refine Ej rfl ?_ ?_
 intro h2
 try rw [nnp] at h2
 refine Eo (Ec (Eb [1, 2, 4, 5] rfl (Ee (S_block (Ee (Eg (Ea (Ek rfl) (Ea (Ep rfl rfl rfl) (Ea (o_bd rfl rfl) (Ea (o_bs rfl rfl rfl rfl) ?_))))))))))
 first | refine Ea (o_appL rfl rfl (by simp) rfl rfl rfl rfl (by simp [roomy]; omega)) ?_ | refine Ea (o_app rfl rfl (by simp) rfl rfl (by simp [roomy]; omega)) ?_
 refine Ea (Ek rfl) (s_opN (o_stC rfl rfl rfl rfl rfl rfl) (Ed (Ec (Eb [1, 2, 4, 5] rfl (Ee (Eg (Ea (Ek rfl) (Ea (Ep rfl rfl rfl) (Ea (Ek rfl) (Ea (Ep rfl rfl rfl) (Ea (Ef rfl) ?_)))))))))))
 refine s_iaM rfl rfl (by omega) ?_
 intro y3 e3
 try simp only [Int.toNat_natCast, Int.toNat_zero] at e3
 refine Ea (o_ldn rfl rfl) ?_
 first | refine Et rfl rfl (c_175 _) ?_ | refine Er rfl rfl (by simp) (c_175 _) rfl ?_
 refine Ea (o_bs rfl rfl rfl rfl) ?_
 first | refine Ea (o_appL rfl rfl (by simp) rfl rfl rfl rfl (by simp [roomy]; omega)) ?_ | refine Ea (o_app rfl rfl (by simp) rfl rfl (by simp [roomy]; omega)) ?_
 refine Ea (Ek rfl) (s_opN (o_stC rfl rfl rfl rfl rfl rfl) (Ed (Ec (Eb [1, 2, 4, 5] rfl (Eg (Ea (Ek rfl) (Ea (Ep rfl rfl rfl) (Ea (o_bs rfl rfl rfl rfl) ?_))))))))
 first | refine Ea (o_appL rfl rfl (by simp) rfl rfl rfl rfl (by simp [roomy]; omega)) ?_ | refine Ea (o_app rfl rfl (by simp) rfl rfl (by simp [roomy]; omega)) ?_
 refine Ea (Ek rfl) (s_opN (o_stC rfl rfl rfl rfl rfl rfl) (Ed (q_blkN (Ec (Eb [1, 2, 4, 5] rfl (Eg (Ea (Ef rfl) ?_)))))))
 first | refine Ea (o_addn rfl rfl (by omega)) ?_ | refine Ea (o_add rfl rfl) ?_
 refine Ea (Ef rfl) (Ed (q_loopN ?_))
 · refine ⟨i + 1, by omega, by omega, hasOf ⟨rfl, trivial⟩ ?_⟩
   simp only [rep_snoc, take_snoc2 _ _ (by assumption)]; rfl
 intro h2
 try rw [nnp] at h2
 refine s_exit (q_seqX (q_loopX (q_blkH (Ec (Eb [2, 4] rfl (Ee (Eg (Ea (o_ldnC rfl rfl rfl) (s_opN (o_stnC rfl rfl rfl rfl rfl rfl rfl) (Ea (Ef rfl) (Ed ?_)))))))))))
 refine Ec (Eb [2, 3] rfl ?_)
 first | (refine s_nilC 1 0 4 rfl rfl rfl rfl rfl ?_; refine s_nilC 1 7 6 rfl rfl rfl rfl rfl ?_; refine s_nilC 1 10 2 rfl rfl rfl rfl rfl ?_; refine s_nilC 1 11 1 rfl rfl rfl rfl rfl ?_; refine s_nilC 1 31 1 rfl rfl rfl rfl rfl ?_; refine s_nilC 1 32 1 rfl rfl rfl rfl rfl ?_; refine s_nilC 1 34 1 rfl rfl rfl rfl rfl ?_; refine s_nilC 1 36 7 rfl rfl rfl rfl rfl ?_) | skip
 refine En ?_
 · refine ret_leafP (.inr rfl) rfl rfl (by simp) ?_
   first | (rw [newBus, if_pos (by assumption), (by assumption : c.ok = true), List.take_of_length_le (show c.masters.length ≤ i by omega), show i = c.masters.length by omega]; rfl) | (rw [newBus, if_neg (by simp_all), (by assumption : c.ok = false)]; rfl)
def markedBus (b : Bus) (k : Int) : Bus := ⟨⟨(List.range b.conf.masters.length).map (markC k), b.conf.quantum, b.conf.maxWait, b.conf.maxRetry, b.conf.maxSplit, b.conf.lockMost⟩, b.now, (List.range b.ms.length).map (markM (k + 4 * b.conf.masters.length)), b.arb,
 (List.range b.buckets.length).map (markB (k + 4 * b.conf.masters.length + 5 * b.ms.length)), (List.range b.splits.length).map (markI (k + 4 * b.conf.masters.length + 5 * b.ms.length + 2 * b.buckets.length)), b.holder, b.kept, b.last, b.addr, b.data,
 ⟨(List.range b.model.ram.length).map (markI (k + 4 * b.conf.masters.length + 5 * b.ms.length + 2 * b.buckets.length + 1 * b.splits.length)),
  ⟨(List.range b.model.dev.regs.length).map (markI (k + 4 * b.conf.masters.length + 5 * b.ms.length + 2 * b.buckets.length + 1 * b.splits.length + 1 * b.model.ram.length)), b.model.dev.timer,
   (List.range b.model.dev.fifo.length).map (markI (k + 4 * b.conf.masters.length + 5 * b.ms.length + 2 * b.buckets.length + 1 * b.splits.length + 1 * b.model.ram.length + 1 * b.model.dev.regs.length))⟩⟩, b.picks,
 (List.range b.log.length).map (markD (k + 4 * b.conf.masters.length + 5 * b.ms.length + 2 * b.buckets.length + 1 * b.splits.length + 1 * b.model.ram.length + 1 * b.model.dev.regs.length + 1 * b.model.dev.fifo.length))⟩
def busK (b : Bus) (k : Int) : Int := k + 4 * b.conf.masters.length + 5 * b.ms.length + 2 * b.buckets.length + 1 * b.splits.length + 1 * b.model.ram.length + 1 * b.model.dev.regs.length + 1 * b.model.dev.fifo.length + 7 * b.log.length
structure Bus.lim (b : Bus) : Prop where
 cs : b.conf.masters.length ≤ 1048576
 ms : b.ms.length ≤ 1048576
 bk : b.buckets.length ≤ 1048576
 sp : b.splits.length ≤ 1048576
 ram : b.model.ram.length ≤ 1048576
 regs : b.model.dev.regs.length ≤ 1048576
 fifo : b.model.dev.fifo.length ≤ 1048576
 log : b.log.length ≤ 1048576
theorem newBus_lim (c : Conf) (h : c.masters.length ≤ 1048576) : (newBus c).lim := by
 unfold newBus
 split
 · refine ⟨h, ?_, ?_, ?_, ?_, ?_, ?_, ?_⟩ <;> simp [bus1, model0] <;> exact h
 · refine ⟨?_, ?_, ?_, ?_, ?_, ?_, ?_, ?_⟩ <;> simp [bus0]
theorem newBus_ms (c : Conf) : (newBus c).ms = List.replicate (newBus c).ms.length mst0 := by
 unfold newBus
 split
 · simp [bus1]
 · rfl
theorem cg_165 (xs : List MConf) (hl : xs.length ≤ 1048576) : GV prg 165 [] [.sl 4 (xs.map MConf.r)] (fun u L1 => u = .ls 0 xs.length ∧ L1 = [.arr 4 (xs.map MConf.r)]) := by
 refine gv_in g165 (Eb [0] rfl (Ee (Eg (Ea (Ef rfl) (Ed (Ec (Eb [0] rfl (Ee (Eg (Ea (Ef rfl) ?_))))))))))
 first | refine Ea (o_lenM rfl) ?_ | refine Ea (o_len rfl) ?_
 refine Ea (o_mk rfl rfl rfl rfl ⟨by omega, by unfold roomy; omega, by unfold roomy; omega⟩ rfl) (Ea (Ef rfl) (Ed (Ec (Eb [0, 3] rfl (Ee (Ee (Eg (Ea (Ef rfl) (Ed (Ec (Eb [0, 3, 4] rfl ?_)))))))))))
 refine S_block (S_loop (ι := Nat) (fun i => i ≤ xs.length) (fun i => [(4, .w (.int .i64 (i : Int)))]) (fun i => [.arr 4 (tabV MConf.r [.w (.int .i64 0), .w (.bool false), .w (.int .i64 0), .w (.int .i64 0)] xs i)]) (fun i => xs.length - i) 1 0 (by simp) rfl (hasOf ⟨rfl, trivial⟩ (by rw [tabV_zero]; rfl)) rfl (fun _ _ => rfl) (fun _ _ => ⟨rfl, rfl⟩) ?_)
 intro i hi
 refine Eb [0, 3, 4] rfl (Ee (Ee (Eg (Ea (Ef rfl) (Ea (Ef rfl) ?_)))))
 first | refine Ea (o_lenM rfl) ?_ | refine Ea (o_len rfl) ?_
 refine Ea (o_lss rfl rfl) (Ed (Ec (Eb [0, 3, 4, 11] rfl ?_)))
 first | refine Em rfl ?_ ?_ | refine Ej rfl ?_ ?_
 intro h1
 try rw [nnp] at h1
 refine Eo (Ec (Eb [0, 3, 4] rfl (Ee (S_block (Eg (Ea (Ef rfl) (Ea (Ef rfl) (Ea (Ef rfl) (Ea (Ef rfl) (s_iaM rfl rfl (by first | omega | (rw [List.length_replicate]; omega)) ?_))))))))))
 intro y2 e2
 try simp only [Int.toNat_natCast, Int.toNat_zero] at e2
 refine Ea (o_ldn rfl rfl) ?_
 first | refine Et rfl rfl (c_164 _) ?_ | refine Er rfl rfl (by simp) (c_164 _) rfl ?_
 refine Ea (o_iaL rfl rfl (by rw [tabV_len _ _ _ _ (by omega), List.length_replicate]; rfl) rfl (by first | omega | (rw [List.length_replicate]; omega))) (s_opN (o_stnA rfl rfl rfl rfl rfl (by rw [tabV_len _ _ _ _ (by omega), List.length_replicate]; rfl) (by rw [Int.toNat_natCast]; exact tabV_at _ _ (by omega)) rfl rfl) (Ed (q_blkN (Ec (Eb [0, 3, 4] rfl (Eg (Ea (Ef rfl) ?_)))))))
 first | refine Ea (o_addn rfl rfl (by omega)) ?_ | refine Ea (o_add rfl rfl) ?_
 refine Ea (Ef rfl) (Ed (q_loopN ?_))
 · refine ⟨i + 1, by omega, by omega, hasOf ⟨rfl, trivial⟩ ?_⟩
   rw [← tabV_set MConf.r [.w (.int .i64 0), .w (.bool false), .w (.int .i64 0), .w (.int .i64 0)] (by assumption)]; rfl
 intro h1
 try rw [nnp] at h1
 refine s_exit (q_seqX (q_loopX (q_blkH (Ec (Eb [3] rfl (Ee (Eg (Ea (Ef rfl) (Ea (Ef rfl) (Ed (Ec ?_)))))))))))
 refine Eb [2] rfl (En ?_)
 · refine retG_leaf [0] (.inr rfl) rfl rfl rfl rfl (show (List.range 0 ++ [0]).Nodup by decide) ?_
   exact ⟨by rw [List.length_replicate]; rfl, by rw [tabV_end _ _ _ (by omega)]⟩
theorem cg_159 (c : Conf) (hl : c.masters.length ≤ 1048576) : GV prg 159 [] [.agg c.r] (fun u L1 => u = .agg [.ls 0 c.masters.length, .w (.int .i64 c.quantum), .w (.int .i64 c.maxWait), .w (.int .i64 c.maxRetry), .w (.int .i64 c.maxSplit), .w (.int .i64 c.lockMost)] ∧ L1 = [.arr 4 (c.masters.map MConf.r)]) := by
 refine gv_in g159 (Eb [0] rfl (Ee (Eg (Ea (o_box rfl rfl rfl) (Ea (o_new rfl rfl) (Ed (Ec (Eb [1, 2] rfl (Ee (Eg (Ea (o_new rfl rfl) ?_)))))))))))
 refine Ed (Ec (Eb [1, 2, 3] rfl (Ee (Eg (Ea (Ek rfl) (Ea (Ep rfl rfl rfl) (s_callG [] rfl rfl rfl rfl (by simp) (.inl rfl) (cg_165 _ hl) ?_)))))))
 rintro u L1 ⟨rfl, rfl⟩
 refine ⟨_, _, rfl, rfl, ?_⟩
 refine Ea (Ek rfl) (s_opN (o_stC rfl rfl rfl rfl rfl rfl) (Ed (Ec (Eb [1, 2, 3] rfl (Ee (Eg (Ea (Ek rfl) (Ea (Ep rfl rfl rfl) (Ea (Ek rfl) (s_opN (o_stC rfl rfl rfl rfl rfl rfl) (Ed ?_)))))))))))
 refine Ec (Eb [1, 2, 3] rfl (Ee (Eg (Ea (Ek rfl) (Ea (Ep rfl rfl rfl) (Ea (Ek rfl) (s_opN (o_stC rfl rfl rfl rfl rfl rfl) (Ed (Ec (Eb [1, 2, 3] rfl (Ee ?_)))))))))))
 refine Eg (Ea (Ek rfl) (Ea (Ep rfl rfl rfl) (Ea (Ek rfl) (s_opN (o_stC rfl rfl rfl rfl rfl rfl) (Ed (Ec (Eb [1, 2, 3] rfl (Ee (Eg (Ea (Ek rfl) (Ea (Ep rfl rfl rfl) ?_)))))))))))
 refine Ea (Ek rfl) (s_opN (o_stC rfl rfl rfl rfl rfl rfl) (Ed (Ec (Eb [1, 2, 3] rfl (Ee (Eg (Ea (Ek rfl) (Ea (Ep rfl rfl rfl) (Ea (Ek rfl) (s_opN (o_stC rfl rfl rfl rfl rfl rfl) (Ed ?_)))))))))))
 refine Ec (Eb [2, 3] rfl (Ee (Eg (Ea (o_ldnC rfl rfl rfl) (s_opN (o_stnC rfl rfl rfl rfl rfl rfl rfl) (Ed (Ec (Eb [2] rfl (En ?_)))))))))
 · refine retG_leaf [3] (.inr rfl) rfl rfl rfl rfl (show (List.range 0 ++ [3]).Nodup by decide) ?_
   exact ⟨rfl, rfl⟩
theorem cg_370 (b : Bus) (k : Int) (hk : 0 ≤ k ∧ k ≤ 17179869184) (hb : b.lim) (hms : b.ms = List.replicate b.ms.length mst0) : GV prg 370 [.arr 4 (b.conf.masters.map MConf.r), .arr 6 (b.ms.map Mst.n), .arr 2 (b.buckets.map Bucket.r), .arr 1 (b.splits.map iR), .arr 1 (b.model.ram.map iR), .arr 1 (b.model.dev.regs.map iR), .arr 1 (b.model.dev.fifo.map iR), .arr 7 (b.log.map Done.r)] [.agg b.o, .w (.int .i64 k)] (fun u L1 => u = .w (.int .i64 (busK b k)) ∧ L1 = (markedBus b k).rows) := by
 obtain ⟨h1, h2, h3, h4, h5, h6, h7, h8⟩ := hb
 obtain ⟨cf, now, ms, arb, bks, sps, ho, ke, la, ad, da, mo, pi, lg⟩ := b
 simp only at *
 generalize ms.length = n at *
 subst hms
 unfold busK markedBus Bus.rows Bus.o Bus.mid
 simp only [List.length_replicate, List.cons_append, List.nil_append]
 refine gv_in g370 (Eb [0, 1] rfl (Ee (Eg (Ea (o_box rfl rfl rfl) (Ea (Ef rfl) (Ed (Ec (Eb [1, 2] rfl (Ee (Eg (Ea (Ek rfl) ?_)))))))))))
 refine Ea (o_ldnC rfl rfl rfl) (Ea (Ef rfl) (s_callG [0] rfl rfl rfl rfl (by simp) (.inl rfl) (cg_369 cf k h1 (by omega)) ?_))
 rintro u L1 ⟨rfl, rfl⟩
 refine ⟨_, _, rfl, rfl, ?_⟩
 refine Ea (Ef rfl) (Ed (Ec (Eb [1, 2] rfl (Ee (Eg (Ea (Ek rfl) (Ea (Ep rfl rfl rfl) (Ea (Ef rfl) (s_callG [1] rfl rfl rfl rfl (by simp) (.inl rfl) (cg_389 n _ h2 (by omega)) ?_)))))))))
 rintro u L1 ⟨rfl, rfl⟩
 refine ⟨_, _, rfl, rfl, ?_⟩
 refine Ea (Ef rfl) (Ed (Ec (Eb [1, 2] rfl (Ee (Eg (Ea (Ek rfl) (Ea (Ep rfl rfl rfl) (Ea (Ef rfl) (s_callG [2] rfl rfl rfl rfl (by simp) (.inl rfl) (cg_390 bks _ h3 (by omega)) ?_)))))))))
 rintro u L1 ⟨rfl, rfl⟩
 refine ⟨_, _, rfl, rfl, ?_⟩
 refine Ea (Ef rfl) (Ed (Ec (Eb [1, 2] rfl (Ee (Eg (Ea (Ek rfl) (Ea (Ep rfl rfl rfl) (Ea (Ef rfl) (s_callG [3] rfl rfl rfl rfl (by simp) (.inl rfl) (cg_337 sps _ h4 (by omega)) ?_)))))))))
 rintro u L1 ⟨rfl, rfl⟩
 refine ⟨_, _, rfl, rfl, ?_⟩
 refine Ea (Ef rfl) (Ed (Ec (Eb [1, 2] rfl (Ee (Eg (Ea (Ek rfl) (Ea (o_ldnC rfl rfl rfl) (Ea (Ef rfl) (s_callG [4, 5, 6] rfl rfl rfl rfl (by simp) (.inl rfl) (cg_362 mo.ram mo.dev.regs mo.dev.fifo mo.dev.timer _ h5 h6 h7 (by omega)) ?_)))))))))
 rintro u L1 ⟨rfl, rfl⟩
 refine ⟨_, _, rfl, rfl, ?_⟩
 refine Ea (Ef rfl) (Ed (Ec (Eb [1, 2] rfl (Ee (Eg (Ea (Ek rfl) (Ea (Ep rfl rfl rfl) (Ea (Ef rfl) (s_callG [7] rfl rfl rfl rfl (by simp) (.inl rfl) (cg_142 lg _ h8 (by omega)) ?_)))))))))
 rintro u L1 ⟨rfl, rfl⟩
 refine ⟨_, _, rfl, rfl, ?_⟩
 refine Ea (Ef rfl) (Ed (Ec (Eb [1] rfl (Ee (Eg (Ea (Ef rfl) (Ea (Ef rfl) (Ed (Ec (Eb [4] rfl (En ?_)))))))))))
 · refine retG_leaf [] (.inr rfl) rfl rfl rfl rfl (show (List.range 8 ++ []).Nodup by decide) ?_
   exact ⟨rfl, rfl⟩
theorem c_371 (b : Bus) (k : Int) (hk : 0 ≤ k ∧ k ≤ 17179869184) (hb : b.lim) : CV prg 371 [.agg (markedBus b k).n, .w (.int .i64 k)] (fun res => res = .w (.int .i64 (busK b k))) := by
 obtain ⟨h1, h2, h3, h4, h5, h6, h7, h8⟩ := hb
 unfold busK markedBus Bus.n Bus.mid
 refine cv_in g371 (Eb [0, 1] rfl (Ee (Eg (Ea (o_box rfl rfl rfl) (Ea (Ef rfl) (Ed (Ec (Eb [1, 2] rfl (Ee (Eg (Ea (Ek rfl) ?_)))))))))))
 refine Ea (o_ldnC rfl rfl rfl) (Ea (Ef rfl) ?_)
 first | refine Et rfl rfl (c_391 _ _ _ _ _ _ _ h1 (by omega)) ?_ | refine Er rfl rfl (by simp) (c_391 _ _ _ _ _ _ _ h1 (by omega)) rfl ?_
 refine Ea (Ef rfl) (Ed (Ec (Eb [1, 2] rfl (Ee (Ee (Eg (Ea (Ef rfl) (Ea (o_lss rfl rfl) (Ed (Ec (Eb [1, 2, 10] rfl ?_)))))))))))
 first | refine Em rfl ?_ ?_ | refine Ej rfl ?_ ?_
 intro h1
 try rw [nnp] at h1
 refine Ee (Eg (Ea (Ef rfl) (Ed (Ec (Eb [4] rfl (En (Ei (Eq rfl rfl ?_))))))))
 rotate_left
 intro h1
 try rw [nnp] at h1
 refine Eo (Ec (Eb [1, 2] rfl (Ee (Eg (Ea (Ek rfl) (Ea (Ep rfl rfl rfl) (Ea (Ef rfl) ?_)))))))
 first | refine Et rfl rfl (c_392 _ _ h2 (by omega)) ?_ | refine Er rfl rfl (by simp) (c_392 _ _ h2 (by omega)) rfl ?_
 refine Ea (Ef rfl) (Ed (Ec (Eb [1, 2] rfl (Ee (Ee (Eg (Ea (Ef rfl) (Ea (o_lss rfl rfl) (Ed (Ec (Eb [1, 2, 16] rfl ?_)))))))))))
 first | refine Em rfl ?_ ?_ | refine Ej rfl ?_ ?_
 intro h2
 try rw [nnp] at h2
 refine Ee (Eg (Ea (Ef rfl) (Ed (Ec (Eb [4] rfl (En (Ei (Eq rfl rfl ?_))))))))
 rotate_left
 intro h2
 try rw [nnp] at h2
 refine Eo (Ec (Eb [1, 2] rfl (Ee (Eg (Ea (Ek rfl) (Ea (Ep rfl rfl rfl) (Ea (Ef rfl) ?_)))))))
 first | refine Et rfl rfl (c_393 _ _ h3 (by omega)) ?_ | refine Er rfl rfl (by simp) (c_393 _ _ h3 (by omega)) rfl ?_
 refine Ea (Ef rfl) (Ed (Ec (Eb [1, 2] rfl (Ee (Ee (Eg (Ea (Ef rfl) (Ea (o_lss rfl rfl) (Ed (Ec (Eb [1, 2, 22] rfl ?_)))))))))))
 first | refine Em rfl ?_ ?_ | refine Ej rfl ?_ ?_
 intro h3
 try rw [nnp] at h3
 refine Ee (Eg (Ea (Ef rfl) (Ed (Ec (Eb [4] rfl (En (Ei (Eq rfl rfl ?_))))))))
 rotate_left
 intro h3
 try rw [nnp] at h3
 refine Eo (Ec (Eb [1, 2] rfl (Ee (Eg (Ea (Ek rfl) (Ea (Ep rfl rfl rfl) (Ea (Ef rfl) ?_)))))))
 first | refine Et rfl rfl (c_380 _ _ h4 (by omega)) ?_ | refine Er rfl rfl (by simp) (c_380 _ _ h4 (by omega)) rfl ?_
 refine Ea (Ef rfl) (Ed (Ec (Eb [1, 2] rfl (Ee (Ee (Eg (Ea (Ef rfl) (Ea (o_lss rfl rfl) (Ed (Ec (Eb [1, 2, 28] rfl ?_)))))))))))
 first | refine Em rfl ?_ ?_ | refine Ej rfl ?_ ?_
 intro h4
 try rw [nnp] at h4
 refine Ee (Eg (Ea (Ef rfl) (Ed (Ec (Eb [4] rfl (En (Ei (Eq rfl rfl ?_))))))))
 rotate_left
 intro h4
 try rw [nnp] at h4
 refine Eo (Ec (Eb [1, 2] rfl (Ee (Eg (Ea (Ek rfl) (Ea (o_ldnC rfl rfl rfl) (Ea (Ef rfl) ?_)))))))
 first | refine Et rfl rfl (c_363 _ _ _ _ _ h5 h6 h7 (by omega)) ?_ | refine Er rfl rfl (by simp) (c_363 _ _ _ _ _ h5 h6 h7 (by omega)) rfl ?_
 refine Ea (Ef rfl) (Ed (Ec (Eb [1, 2] rfl (Ee (Ee (Eg (Ea (Ef rfl) (Ea (o_lss rfl rfl) (Ed (Ec (Eb [1, 2, 34] rfl ?_)))))))))))
 first | refine Em rfl ?_ ?_ | refine Ej rfl ?_ ?_
 intro h5
 try rw [nnp] at h5
 refine Ee (Eg (Ea (Ef rfl) (Ed (Ec (Eb [4] rfl (En (Ei (Eq rfl rfl ?_))))))))
 rotate_left
 intro h5
 try rw [nnp] at h5
 refine Eo (Ec (Eb [1, 2] rfl (Ee (Eg (Ea (Ek rfl) (Ea (Ep rfl rfl rfl) (Ea (Ef rfl) ?_)))))))
 first | refine Et rfl rfl (c_141 _ _ h8 (by omega)) ?_ | refine Er rfl rfl (by simp) (c_141 _ _ h8 (by omega)) rfl ?_
 refine Ea (Ef rfl) (Ed (Ec (Eb [1] rfl (Ee (Ee (Eg (Ea (Ef rfl) (Ea (o_lss rfl rfl) (Ed (Ec (Eb [1, 40] rfl ?_)))))))))))
 first | refine Em rfl ?_ ?_ | refine Ej rfl ?_ ?_
 intro h6
 try rw [nnp] at h6
 refine Ee (Eg (Ea (Ef rfl) (Ed (Ec (Eb [4] rfl (En (Ei (Eq rfl rfl ?_))))))))
 rotate_left
 intro h6
 try rw [nnp] at h6
 refine Eo (Ec (Eb [1] rfl (Ee (Eg (Ea (Ef rfl) (Ea (Ef rfl) (Ed (Ec (Eb [4] rfl (En (Eq rfl rfl ?_)))))))))))
 rotate_left
 all_goals
  first | rfl | (exfalso; omega)
theorem pt_one {M : Mem} {us us' : List V} {args : List Value} {us2 us2' : List V} (h : Pt (RF M) [.agg us, .agg us2] args) (h1 : ∀ x, RF M (.agg us) x → RF M (.agg us') x) (h2 : ∀ x, RF M (.agg us2) x → RF M (.agg us2') x) : Pt (RF M) [.agg us', .agg us2'] args := by
 obtain ⟨x, r, rfl, g1, g2⟩ := h.uncons
 obtain ⟨y, r, rfl, g3, g4⟩ := g2.uncons
 rw [g4.unnil]
 exact Pt.cons (h1 _ g1) (Pt.cons (h2 _ g3) Pt.nil)
theorem bus_nr {M : Mem} {b : Bus} (hq : ∀ m, m ∈ b.ms → m.queue = []) {x : Value} (h : RF M (.agg b.n) x) : RF M (.agg b.r) x := by
 cases h with
 | agg hl hh =>
   refine .agg hl fun i u y hu hy => ?_
   by_cases hi : i = 7
   · subst hi
     cases hu
     refine RF.slW (l := b.ms.map Mst.n) (by simp) (fun j p q hp hq' => ?_) (hh 7 _ y rfl hy)
     rw [List.getElem?_map] at hp hq'
     cases e : b.ms[j]? with
     | none => rw [e] at hp; cases hp
     | some m =>
       rw [e] at hp hq'
       cases hp; cases hq'
       unfold Mst.n Mst.r
       rw [hq m (List.mem_of_getElem? e)]
       exact ⟨.nil 6 0, .refl _, .refl _, .refl _, .refl _, .refl _, trivial⟩
   · refine hh i u y ?_ hy
     have : (b.r)[i]? = (b.n)[i]? := by
      unfold Bus.r Bus.n Bus.mid
      simp only [List.cons_append, List.nil_append]
      match i with
      | 0 | 1 | 2 | 3 | 4 | 5 | 6 => rfl
      | 7 => exact absurd rfl hi
      | _ + 8 => rfl
     rw [← this]; exact hu
theorem newBus_small (c : Conf) (h : c.masters.length ≤ 1048576) : (newBus c).small := by
 have hl := newBus_lim c h
 refine ⟨hl.cs, hl.ms, ?_, hl.bk, hl.sp, ⟨hl.ram, hl.regs, hl.fifo⟩, hl.log⟩
 intro y hy
 rw [newBus_ms c] at hy
 rw [List.eq_of_mem_replicate hy]
 exact ⟨by simp [mst0], fun x hx => nomatch hx⟩
theorem newBus_q (c : Conf) : ∀ m, m ∈ (newBus c).ms → m.queue = [] := by
 intro m hm
 rw [newBus_ms c] at hm
 rw [List.eq_of_mem_replicate hm]; rfl
theorem c_127n (c : Conf) (h : c.masters.length ≤ 1048576) : CV prg 127 [.agg (newBus c).n, .agg (newBus c).n] (fun res => res = .w (.bool true)) :=
 (cv_pre (c_127 (newBus c) (newBus c) (newBus_small c h)) fun M args hp => pt_one hp (fun _ => bus_nr (newBus_q c)) (fun _ => bus_nr (newBus_q c))).mono fun u hu => by rw [hu, decide_eq_true rfl]
theorem bus_words (b : Bus) : ∀ lb, lb ∈ b.rows → lb.words := by
 intro lb h
 unfold Bus.rows at h
 simp only [List.mem_cons, List.not_mem_nil, or_false] at h
 rcases h with rfl | rfl | rfl | rfl | rfl | rfl | rfl | rfl
 · exact words_map _ _ (fun y v hv => by simp [MConf.r] at hv; rcases hv with rfl | rfl | rfl | rfl <;> exact ⟨_, rfl⟩)
 · exact words_map _ _ (fun y v hv => by simp [Mst.n] at hv; rcases hv with rfl | rfl | rfl | rfl | rfl | rfl <;> exact ⟨_, rfl⟩)
 · exact words_map _ _ (fun y v hv => by simp [Bucket.r] at hv; rcases hv with rfl | rfl <;> exact ⟨_, rfl⟩)
 · exact words_map _ _ (fun y v hv => by simp [iR] at hv; exact ⟨_, hv⟩)
 · exact words_map _ _ (fun y v hv => by simp [iR] at hv; exact ⟨_, hv⟩)
 · exact words_map _ _ (fun y v hv => by simp [iR] at hv; exact ⟨_, hv⟩)
 · exact words_map _ _ (fun y v hv => by simp [iR] at hv; exact ⟨_, hv⟩)
 · exact words_map _ _ (fun y v hv => by simp [Done.r] at hv; rcases hv with rfl | rfl | rfl | rfl | rfl | rfl | rfl <;> exact ⟨_, rfl⟩)
theorem busK_pos (b : Bus) {k : Int} (h : 0 ≤ k) : ¬ busK b k < 0 := by unfold busK; omega
set_option maxHeartbeats 1000000 in
theorem c_351 (x : Conf) (hwx : x.wf) : CV prg 351 [.agg x.r] (fun res => res = .w (.bool true)) := by
 have hms := newBus_ms x
 refine cv_in g351 (Eb [0] rfl (Ee (Eg (Ea (o_box rfl rfl rfl) (Ea (Ef rfl) (Ed (Ec (Eb [1] rfl (Ee (Eg (Ea (Ef rfl) ?_)))))))))))
 refine Ed (Ec (Eb [1, 3] rfl (Ee (Eg (Ea (o_ldnC rfl rfl rfl) (Ea (Ef rfl) ?_))))))
 first | refine Et rfl rfl (c_145 _ _ (by (try unfold room at *); omega) (by assumption)) ?_ | refine Er rfl rfl (by simp) (c_145 _ _ (by (try unfold room at *); omega) (by assumption)) rfl ?_
 refine Ea (Ef rfl) (Ed (Ec (Eb [1, 3] rfl (Ee (Ee (Eg (Ea (Ef rfl) (Ea (o_lss rfl rfl) (Ed (Ec (Eb [1, 18] rfl ?_)))))))))))
 first | refine Em rfl ?_ ?_ | refine Ej rfl ?_ ?_
 intro h1
 try rw [nnp] at h1
 try have hsx : x.small := Conf.small_of (by (try unfold room at *); omega)
 try have hlx : x.masters.length ≤ 1048576 := hsx
 try rw [decide_eq_true (rfl : x = x)] at h1
 refine Ee (Eg (Ea (Ef rfl) (Ed (Ec (Eb [2] rfl (En (Ei (Eh rfl rfl ?_))))))))
 rotate_left
 intro h1
 try rw [nnp] at h1
 try have hsx : x.small := Conf.small_of (by (try unfold room at *); omega)
 try have hlx : x.masters.length ≤ 1048576 := hsx
 try rw [decide_eq_true (rfl : x = x)] at h1
 refine Eo (Ec (Eb [1] rfl (Ee (Eg (Ea (o_ldnC rfl rfl rfl) ?_)))))
 first | refine Et rfl rfl (c_159 x hsx) ?_ | refine Er rfl rfl (by simp) (c_159 x hsx) rfl ?_
 first | refine Et rfl rfl (c_181 x hlx) ?_ | refine Er rfl rfl (by simp) (c_181 x hlx) rfl ?_
 refine Ea (Ef rfl) (Ea (o_ext rfl rfl) (Ea (o_ext rfl rfl) (Ea (o_new rfl rfl) (s_opN (o_stnC rfl rfl rfl rfl rfl rfl rfl) (Ea (Ef rfl) (Ed (Ec (Eb [1, 4, 5] rfl (Ee (Eg (Ea (o_ldnC rfl rfl rfl) ?_)))))))))))
 refine s_callG [] rfl rfl rfl rfl (by simp) (.inl rfl) (cg_159 x hlx) ?_
 rintro u L1 ⟨rfl, rfl⟩
 refine ⟨_, _, rfl, rfl, ?_⟩
 refine Ea (o_new rfl rfl) (s_opN (o_stnC rfl rfl rfl rfl rfl rfl rfl) (Ed (Ec (Eb [1, 4, 5, 6] rfl (Ee (Eg (Ea (o_ldnC rfl rfl rfl) (s_callGL rfl rfl (by simp) (cg_368 x hlx) ?_))))))))
 rintro u L1 ⟨rfl, rfl⟩
 refine ⟨rfl, bus_words _, _, _, rfl, rfl, ?_⟩
 refine Ea (Ef rfl) (Ea (o_ext rfl rfl) (Ea (o_ext rfl rfl) (Ea (o_new rfl rfl) (s_opN (o_stnC rfl rfl rfl rfl rfl rfl rfl) (Ea (Ef rfl) (Ed (Ec (Eb [1, 4, 5, 6, 7, 8] rfl (Ee (Ee (Eg ?_)))))))))))
 refine Ea (o_ldnC rfl rfl rfl) (Ea (o_ldnC rfl rfl rfl) ?_)
 first | refine Et rfl rfl (c_127n x hlx) ?_ | refine Er rfl rfl (by simp) (c_127n x hlx) rfl ?_
 refine Ea (o_not rfl) (Ea (Ef rfl) ?_)
 first | refine s_gDF rfl ?_ ?_ | refine s_gNDF rfl ?_ ?_ | refine s_gNF rfl ?_ ?_ | refine s_gB rfl ?_ ?_
 intro h2
 try rw [nnp] at h2
 try have hsx : x.small := Conf.small_of (by (try unfold room at *); omega)
 try have hlx : x.masters.length ≤ 1048576 := hsx
 try rw [decide_eq_true (rfl : x = x)] at h2
 refine Ea (Ef rfl) (s_gT rfl (Ea (Ef rfl) (s_gT rfl (Ea (o_eqb rfl rfl) (Ea (o_pickF rfl rfl) (Ed (Ec (Eb [1, 4, 5, 6, 7, 8, 40] rfl ?_))))))))
 first | refine Eu rfl ?_ ?_ | refine Ej rfl ?_ ?_
 intro h3
 try rw [nnp] at h3
 try have hsx : x.small := Conf.small_of (by (try unfold room at *); omega)
 try have hlx : x.masters.length ≤ 1048576 := hsx
 try rw [decide_eq_true (rfl : x = x)] at h3
 refine Ee (Eg (Ea (Ef rfl) (Ed (Ec (Eb [2] rfl (En (Ei (Eh rfl rfl ?_))))))))
 rotate_left
 intro h3
 try rw [nnp] at h3
 try have hsx : x.small := Conf.small_of (by (try unfold room at *); omega)
 try have hlx : x.masters.length ≤ 1048576 := hsx
 try rw [decide_eq_true (rfl : x = x)] at h3
 refine Eo (Ec (Eb [1, 4, 5, 6, 7, 8] rfl (Ee (Ee (Eg (Ea (o_ldnC rfl rfl rfl) (Ea (o_ldnC rfl rfl rfl) ?_)))))))
 first | refine Et rfl rfl (c_159 x hsx) ?_ | refine Er rfl rfl (by simp) (c_159 x hsx) rfl ?_
 first | refine Et rfl rfl (c_128 x x hsx) ?_ | refine Er rfl rfl (by simp) (c_128 x x hsx) rfl ?_
 refine Ea (o_not rfl) (Ed (Ec (Eb [1, 4, 5, 6, 7, 8, 45] rfl ?_)))
 first | refine Em rfl ?_ ?_ | refine s_condN rfl ?_ ?_ | refine Eu rfl ?_ ?_ | refine Ej rfl ?_ ?_
 intro h4
 try rw [nnp] at h4
 try have hsx : x.small := Conf.small_of (by (try unfold room at *); omega)
 try have hlx : x.masters.length ≤ 1048576 := hsx
 try rw [decide_eq_true (rfl : x = x)] at h4
 refine Ee (Eg (Ea (Ef rfl) (Ed (Ec (Eb [2] rfl (En (Ei (Eh rfl rfl ?_))))))))
 rotate_left
 intro h4
 try rw [nnp] at h4
 try have hsx : x.small := Conf.small_of (by (try unfold room at *); omega)
 try have hlx : x.masters.length ≤ 1048576 := hsx
 try rw [decide_eq_true (rfl : x = x)] at h4
 refine Eo (Ec (Eb [1, 4, 5, 6, 7, 8] rfl (Ee (Eg (Ea (Ef rfl) (Ed (Ec (Eb [1, 4, 5, 6, 7, 8, 9] rfl (Ee (Eg (Ea (o_ldnC rfl rfl rfl) ?_)))))))))))
 refine Ea (Ef rfl) (s_callG [2] rfl rfl rfl rfl (by simp) (.inl rfl) (cg_369 x 1 hlx (by omega)) ?_)
 rintro u L1 ⟨rfl, rfl⟩
 refine ⟨_, _, rfl, rfl, ?_⟩
 refine Ea (Ef rfl) (Ed (Ec (Eb [1, 4, 5, 7, 8, 9] rfl (Ee (Ee (Eg (Ea (Ef rfl) (Ea (o_lss rfl rfl) (Ea (Ef rfl) ?_)))))))))
 first | refine s_gDF rfl ?_ ?_ | refine s_gB rfl ?_ ?_
 intro h5
 try rw [nnp] at h5
 try have hsx : x.small := Conf.small_of (by (try unfold room at *); omega)
 try have hlx : x.masters.length ≤ 1048576 := hsx
 try rw [decide_eq_true (rfl : x = x)] at h5
 refine Ea (o_ldnC rfl rfl rfl) (s_gT rfl (Ea (o_ldnC rfl rfl rfl) (s_gT rfl ?_)))
 first | refine Et rfl rfl (c_127n x hlx) ?_ | refine Er rfl rfl (by simp) (c_127n x hlx) rfl ?_
 refine s_gT rfl (Ea (o_not rfl) (Ea (o_pickF rfl rfl) (Ea (Ef rfl) ?_)))
 first | refine s_gDF rfl ?_ ?_ | refine s_gNDF rfl ?_ ?_ | refine s_gNF rfl ?_ ?_ | refine s_gB rfl ?_ ?_
 intro h6
 try rw [nnp] at h6
 try have hsx : x.small := Conf.small_of (by (try unfold room at *); omega)
 try have hlx : x.masters.length ≤ 1048576 := hsx
 try rw [decide_eq_true (rfl : x = x)] at h6
 refine Ea (Ef rfl) (s_gT rfl (Ea (Ef rfl) (s_gT rfl (Ea (o_eqb rfl rfl) (Ea (o_pickF rfl rfl) (Ed (Ec (Eb [1, 4, 5, 7, 61] rfl ?_))))))))
 first | refine Eu rfl ?_ ?_ | refine Ej rfl ?_ ?_
 intro h7
 try rw [nnp] at h7
 try have hsx : x.small := Conf.small_of (by (try unfold room at *); omega)
 try have hlx : x.masters.length ≤ 1048576 := hsx
 try rw [decide_eq_true (rfl : x = x)] at h7
 refine Ee (Eg (Ea (Ef rfl) (Ed (Ec (Eb [2] rfl (En (Ei (Eh rfl rfl ?_))))))))
 rotate_left
 intro h7
 try rw [nnp] at h7
 try have hsx : x.small := Conf.small_of (by (try unfold room at *); omega)
 try have hlx : x.masters.length ≤ 1048576 := hsx
 try rw [decide_eq_true (rfl : x = x)] at h7
 refine Eo (Ec (Eb [1, 4, 5, 7] rfl (Ee (Eg (Ea (Ef rfl) (Ed (Ec (Eb [1, 4, 5, 7, 10] rfl (Ee (Eg (Ea (o_ldnC rfl rfl rfl) ?_)))))))))))
 refine Ea (Ef rfl) (s_callG [4, 5, 6, 7, 8, 9, 10, 11] rfl rfl rfl rfl (by simp) (.inl rfl) (cg_370 (newBus x) 1 (by omega) (newBus_lim x hlx) hms) ?_)
 rintro u L1 ⟨rfl, rfl⟩
 refine ⟨_, _, rfl, rfl, ?_⟩
 refine Ea (Ef rfl) (Ed (Ec (Eb [1, 4, 5, 7, 10] rfl (Ee (Eg (Ea (Ef rfl) (Ed (Ec (Eb [1, 4, 5, 7, 10, 11] rfl (Ee (Eg ?_)))))))))))
 refine Ea (o_ldnC rfl rfl rfl) (Ea (Ef rfl) (Er rfl rfl (by simp [markedBus]) (c_371 (newBus x) 1 (by omega) (newBus_lim x hlx)) rfl (Ea (Ef rfl) (Ed (Ec (Eb [1, 4, 5, 7, 10, 11] rfl (Ee (Ee (Eg (Ea (Ef rfl) (Ea (o_lss rfl rfl) ?_)))))))))))
 refine Ed (Ec (Eb [1, 4, 5, 7, 10, 11, 69] rfl ?_))
 first | refine Em rfl ?_ ?_ | refine Ej rfl ?_ ?_
 intro h8
 try rw [nnp] at h8
 try have hsx : x.small := Conf.small_of (by (try unfold room at *); omega)
 try have hlx : x.masters.length ≤ 1048576 := hsx
 try rw [decide_eq_true (rfl : x = x)] at h8
 refine Ee (Eg (Ea (Ef rfl) (Ed (Ec (Eb [2] rfl (En (Ei (Eh rfl rfl ?_))))))))
 rotate_left
 intro h8
 try rw [nnp] at h8
 try have hsx : x.small := Conf.small_of (by (try unfold room at *); omega)
 try have hlx : x.masters.length ≤ 1048576 := hsx
 try rw [decide_eq_true (rfl : x = x)] at h8
 refine Eo (Ec (Eb [1, 4, 5, 7, 10, 11] rfl (Ee (Ee (Eg (Ea (Ef rfl) (Ea (Ef rfl) (Ea (o_neq rfl rfl) (Ed (Ec (Eb [1, 4, 5, 7, 10, 72] rfl ?_)))))))))))
 first | refine Em rfl ?_ ?_ | refine Ej rfl ?_ ?_
 intro h9
 try rw [nnp] at h9
 try have hsx : x.small := Conf.small_of (by (try unfold room at *); omega)
 try have hlx : x.masters.length ≤ 1048576 := hsx
 try rw [decide_eq_true (rfl : x = x)] at h9
 refine Ee (Eg (Ea (Ef rfl) (Ed (Ec (Eb [2] rfl (En (Ei (Eh rfl rfl ?_))))))))
 rotate_left
 intro h9
 try rw [nnp] at h9
 try have hsx : x.small := Conf.small_of (by (try unfold room at *); omega)
 try have hlx : x.masters.length ≤ 1048576 := hsx
 try rw [decide_eq_true (rfl : x = x)] at h9
 refine Eo (Ec (Eb [1, 4, 5, 7, 10] rfl (Ee (Eg (Ea (o_ldnC rfl rfl rfl) ?_)))))
 first | refine Et rfl rfl (c_159 x hsx) ?_ | refine Er rfl rfl (by simp) (c_159 x hsx) rfl ?_
 refine s_callG [] rfl rfl rfl rfl (by simp) (.inl rfl) (cg_368 x hlx) ?_
 rintro u L1 ⟨rfl, rfl⟩
 refine ⟨_, _, rfl, rfl, ?_⟩
 refine Ea (Ef rfl) (Ea (o_ext rfl rfl) (Ea (o_ext rfl rfl) (Ea (o_new rfl rfl) (s_opN (o_stnC rfl rfl rfl rfl rfl rfl rfl) (Ea (Ef rfl) (Ed (Ec (Eb [4, 5, 7, 10, 12, 13] rfl (Ee (Ee (Eg ?_)))))))))))
 refine Ea (o_ldnC rfl rfl rfl) (Ea (o_ldnC rfl rfl rfl) ?_)
 first | refine Et rfl rfl (c_127n x hlx) ?_ | refine Er rfl rfl (by simp) (c_127n x hlx) rfl ?_
 refine Ea (o_not rfl) (Ea (Ef rfl) ?_)
 first | refine s_gDF rfl ?_ ?_ | refine s_gNDF rfl ?_ ?_ | refine s_gNF rfl ?_ ?_ | refine s_gB rfl ?_ ?_
 intro h10
 try rw [nnp] at h10
 try have hsx : x.small := Conf.small_of (by (try unfold room at *); omega)
 try have hlx : x.masters.length ≤ 1048576 := hsx
 try rw [decide_eq_true (rfl : x = x)] at h10
 refine Ea (Ef rfl) (s_gT rfl (Ea (Ef rfl) (s_gT rfl (Ea (o_eqb rfl rfl) (Ea (o_pickF rfl rfl) (Ed (Ec (Eb [7, 10, 87] rfl ?_))))))))
 first | refine Eu rfl ?_ ?_ | refine Ej rfl ?_ ?_
 intro h11
 try rw [nnp] at h11
 try have hsx : x.small := Conf.small_of (by (try unfold room at *); omega)
 try have hlx : x.masters.length ≤ 1048576 := hsx
 try rw [decide_eq_true (rfl : x = x)] at h11
 refine Ee (Eg (Ea (Ef rfl) (Ed (Ec (Eb [2] rfl (En (Ei (Eh rfl rfl ?_))))))))
 rotate_left
 intro h11
 try rw [nnp] at h11
 try have hsx : x.small := Conf.small_of (by (try unfold room at *); omega)
 try have hlx : x.masters.length ≤ 1048576 := hsx
 try rw [decide_eq_true (rfl : x = x)] at h11
 refine Eo (Ec (Eb [7, 10] rfl (Ee (Eg (Ea (Ef rfl) (Ed (Ec (Eb [7, 10, 11] rfl (Ee (Eg (Ea (o_ldnC rfl rfl rfl) ?_)))))))))))
 refine Ea (Ef rfl) (Er rfl rfl (by simp [markedBus]) (c_371 (newBus x) 1 (by omega) (newBus_lim x hlx)) rfl (Ea (Ef rfl) (Ed (Ec (Eb [10, 11] rfl (Ee (Ee (Eg (Ea (Ef rfl) (Ea (o_lss rfl rfl) (Ed ?_)))))))))))
 refine Ec (Eb [10, 11, 92] rfl ?_)
 first | refine Em rfl ?_ ?_ | refine Ej rfl ?_ ?_
 intro h12
 try rw [nnp] at h12
 try have hsx : x.small := Conf.small_of (by (try unfold room at *); omega)
 try have hlx : x.masters.length ≤ 1048576 := hsx
 try rw [decide_eq_true (rfl : x = x)] at h12
 refine Ee (Eg (Ea (Ef rfl) (Ed (Ec (Eb [2] rfl (En (Ei (Eh rfl rfl ?_))))))))
 rotate_left
 intro h12
 try rw [nnp] at h12
 try have hsx : x.small := Conf.small_of (by (try unfold room at *); omega)
 try have hlx : x.masters.length ≤ 1048576 := hsx
 try rw [decide_eq_true (rfl : x = x)] at h12
 refine Eo (Ec (Eb [10, 11] rfl (Ee (Ee (Eg (Ea (Ef rfl) (Ea (Ef rfl) (Ea (o_neq rfl rfl) (Ed (Ec (Eb [95] rfl ?_)))))))))))
 first | refine Em rfl ?_ ?_ | refine Ej rfl ?_ ?_
 intro h13
 try rw [nnp] at h13
 try have hsx : x.small := Conf.small_of (by (try unfold room at *); omega)
 try have hlx : x.masters.length ≤ 1048576 := hsx
 try rw [decide_eq_true (rfl : x = x)] at h13
 refine Ee (Eg (Ea (Ef rfl) (Ed (Ec (Eb [2] rfl (En (Ei (Eh rfl rfl ?_))))))))
 rotate_left
 intro h13
 try rw [nnp] at h13
 try have hsx : x.small := Conf.small_of (by (try unfold room at *); omega)
 try have hlx : x.masters.length ≤ 1048576 := hsx
 try rw [decide_eq_true (rfl : x = x)] at h13
 refine Eo (Ec (Eb [] rfl (Ee (Eg (Ea (Ef rfl) (Ed (Ec (Eb [2] rfl (En (Eh rfl rfl ?_))))))))))
 rotate_left
 intro h10
 try rw [nnp] at h10
 try have hsx : x.small := Conf.small_of (by (try unfold room at *); omega)
 try have hlx : x.masters.length ≤ 1048576 := hsx
 try rw [decide_eq_true (rfl : x = x)] at h10
 refine s_gF rfl (s_gF rfl (s_gF rfl (Ea (o_pickT rfl rfl) (Ed (Ec (Eb [7, 10, 87] rfl (s_condT rfl (Ee (Eg (Ea (Ef rfl) (Ed ?_)))))))))))
 refine Ec (Eb [2] rfl (En (Ei (Eh rfl rfl ?_))))
 rotate_left
 intro h6
 try rw [nnp] at h6
 try have hsx : x.small := Conf.small_of (by (try unfold room at *); omega)
 try have hlx : x.masters.length ≤ 1048576 := hsx
 try rw [decide_eq_true (rfl : x = x)] at h6
 refine s_gF rfl (s_gF rfl (s_gF rfl (Ea (o_pickT rfl rfl) (Ed (Ec (Eb [1, 4, 5, 7, 61] rfl (s_condT rfl (Ee (Eg (Ea (Ef rfl) (Ed ?_)))))))))))
 refine Ec (Eb [2] rfl (En (Ei (Eh rfl rfl ?_))))
 rotate_left
 intro h5
 try rw [nnp] at h5
 try have hsx : x.small := Conf.small_of (by (try unfold room at *); omega)
 try have hlx : x.masters.length ≤ 1048576 := hsx
 try rw [decide_eq_true (rfl : x = x)] at h5
 refine s_gF rfl (s_gF rfl (s_gF rfl (s_gF rfl (Ea (o_pickT rfl rfl) (Ea (Ef rfl) (s_gF rfl (s_gF rfl (s_gF rfl (Ea (o_pickT rfl rfl) (Ed (Ec ?_)))))))))))
 refine Eb [1, 4, 5, 7, 61] rfl (s_condT rfl (Ee (Eg (Ea (Ef rfl) (Ed (Ec (Eb [2] rfl (En (Ei (Eh rfl rfl ?_))))))))))
 rotate_left
 intro h2
 try rw [nnp] at h2
 try have hsx : x.small := Conf.small_of (by (try unfold room at *); omega)
 try have hlx : x.masters.length ≤ 1048576 := hsx
 try rw [decide_eq_true (rfl : x = x)] at h2
 refine s_gF rfl (s_gF rfl (s_gF rfl (Ea (o_pickT rfl rfl) (Ed (Ec (Eb [1, 4, 5, 6, 7, 8, 40] rfl (s_condT rfl (Ee (Eg (Ea (Ef rfl) (Ed ?_)))))))))))
 refine Ec (Eb [2] rfl (En (Ei (Eh rfl rfl ?_))))
 rotate_left
 all_goals
  first | rfl | (exfalso; omega) | (exfalso; exact busK_pos (newBus x) (k := 1) (by omega) (by assumption)) | (exfalso; simp_all; done)
end Go.Proofs.Ytdialnejieoelaa.AL
