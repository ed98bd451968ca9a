/- What functions do with plain data, each by the form of its code. Printed by program. -/
import Derived.Test.YtoppcdecolponaaDoorIrConfText
namespace Go.Proofs.YtoppcdecolponaaDoor.AL
open Go
set_option linter.unusedVariables false
set_option linter.unusedSimpArgs false
set_option maxRecDepth 4096
theorem c_230 (a b c : Int) : CV prg 230 [.w (.int .i64 a), .w (.int .i64 b), .w (.int .i64 c)] (fun res => res = .w (.bool (inB a b c))) := by
 refine cv_in g230 (Eb [0, 1, 2] rfl (Ee (Eg (Ea (Ef rfl) (Ed (Ec (Eb [0, 1, 2] rfl (Ee (Eg (Ea (Ef rfl) (Ea (Ef rfl) ?_)))))))))))
 refine Ea (o_geq rfl rfl) (Ea (Ef rfl) ?_)
 first | refine s_gDT rfl ?_ ?_ | refine s_gB rfl ?_ ?_
 intro h1
 try rw [nnp] at h1
 refine Ea (Ef rfl) (s_gT rfl (Ea (Ef rfl) (s_gT rfl (Ea (o_leq rfl rfl) (Ea (o_pickT rfl rfl) (Ea (Ef rfl) (Ed (Ec (Eb [6] rfl (s_ret (Eh rfl rfl ?_)))))))))))
 rotate_left
 intro h1
 try rw [nnp] at h1
 refine s_gF rfl (s_gF rfl (s_gF rfl (Ea (o_pickF rfl rfl) (Ea (Ef rfl) (Ed (Ec (Eb [6] rfl (s_ret (Eh rfl rfl ?_)))))))))
 rotate_left
 all_goals
  simp_all [inB] <;> omega
theorem c_103 (a b c : Int) : CV prg 103 [.w (.int .i64 a), .w (.int .i64 b), .w (.int .i64 c)] (fun res => res = .w (.bool (inB a b c))) := by
 refine cv_in g103 (Eb [0, 1, 2] rfl (Ee (Eg (Ea (Ef rfl) (Ed (Ec (Eb [0, 1, 2] rfl (Ee (Eg (Ea (Ef rfl) (Ea (Ef rfl) ?_)))))))))))
 refine Ea (o_leq rfl rfl) (Ea (Ef rfl) ?_)
 first | refine s_gDT rfl ?_ ?_ | refine s_gB rfl ?_ ?_
 intro h1
 try rw [nnp] at h1
 refine Ea (Ef rfl) (s_gT rfl (Ea (Ef rfl) (s_gT rfl (Ea (o_leq rfl rfl) (Ea (o_pickT rfl rfl) (Ea (Ef rfl) (Ed (Ec (Eb [6] rfl (s_ret (Eh rfl rfl ?_)))))))))))
 rotate_left
 intro h1
 try rw [nnp] at h1
 refine s_gF rfl (s_gF rfl (s_gF rfl (Ea (o_pickF rfl rfl) (Ea (Ef rfl) (Ed (Ec (Eb [6] rfl (s_ret (Eh rfl rfl ?_)))))))))
 rotate_left
 all_goals
  simp_all [inB] <;> omega
theorem cost_leaf {x : Conf} (h1 : inB x.maxRetry 0 3 = true) (h2 : inB x.maxWait 0 3 = true) : IntKind.wrap .i64 (IntKind.wrap .i64 (x.maxRetry + 2) * IntKind.wrap .i64 (x.maxWait + 6)) = x.cost := by
 unfold Conf.cost
 rw [h1, h2]
 simp only [inB, Bool.and_eq_true, decide_eq_true_eq] at h1 h2
 have hr : x.maxRetry = 0 ∨ x.maxRetry = 1 ∨ x.maxRetry = 2 ∨ x.maxRetry = 3 := by omega
 rw [wrap_in (x.maxRetry + 2) (by omega), wrap_in (x.maxWait + 6) (by omega), wrap_in]
 · rfl
 · rcases hr with h | h | h | h <;> rw [h] <;> omega
theorem c_186 (x : Conf) : CV prg 186 [.agg x.r] (fun res => res = .w (.int .i64 x.cost)) := by
 refine cv_in g186 (Eb [0] rfl (Ee (Eg (Ea (o_box rfl rfl rfl) (Ea (Ef rfl) (Ed (Ec (Eb [1] rfl (Ee (Ee (Eg ?_)))))))))))
 refine Ea (Ei rfl) (Ea (o_ldC rfl rfl rfl) ?_)
 first | refine s_call rfl rfl (c_230 ..) ?_ | refine s_callL rfl rfl (by simp) (c_230 ..) rfl ?_
 refine Ea (o_not rfl) (Ea (Ef rfl) ?_)
 first | refine s_gDF rfl ?_ ?_ | refine s_gNDF rfl ?_ ?_ | refine s_gNF rfl ?_ ?_ | refine s_gB rfl ?_ ?_
 intro h1
 try rw [nnp] at h1
 refine Ea (Ei rfl) (s_gT rfl (Ea (o_ldC rfl rfl rfl) (s_gT rfl ?_)))
 first | refine s_call rfl rfl (c_230 ..) ?_ | refine s_callL rfl rfl (by simp) (c_230 ..) rfl ?_
 refine s_gT rfl (Ea (o_not rfl) (Ea (o_pickF rfl rfl) (Ed (Ec (Eb [1, 12] rfl ?_)))))
 first | refine s_condD rfl ?_ ?_ | refine s_condN rfl ?_ ?_ | refine s_condNB rfl ?_ ?_ | refine s_condB rfl ?_ ?_
 intro h2
 try rw [nnp] at h2
 refine Ee (Eg (Ea (Ef rfl) (Ed (Ec (Eb [2] rfl (s_ret (q_seqR (ret_leafIR rfl rfl ?_))))))))
 rotate_left
 intro h2
 try rw [nnp] at h2
 refine s_skip (Ec (Eb [1] rfl (Ee (Eg (Ea (Ei rfl) (Ea (o_ldC rfl rfl rfl) (Ea (o_add rfl rfl) (Ea (Ei rfl) (Ea (o_ldC rfl rfl rfl) (Ea (o_add rfl rfl) (Ea (o_mul rfl rfl) ?_)))))))))))
 refine Ea (Ef rfl) (Ed (Ec (Eb [2] rfl (s_ret (ret_leafIR rfl rfl ?_)))))
 rotate_left
 intro h1
 try rw [nnp] at h1
 refine s_gF rfl (s_gF rfl (s_gF rfl (s_gF rfl (Ea (o_pickT rfl rfl) (Ed (Ec (Eb [1, 12] rfl (s_condT rfl (Ee (Eg (Ea (Ef rfl) ?_)))))))))))
 refine Ed (Ec (Eb [2] rfl (s_ret (q_seqR (ret_leafIR rfl rfl ?_)))))
 rotate_left
 all_goals
  first | exact cost_leaf (by assumption) (by assumption) | simp_all [Conf.cost]
theorem c_37 (x : Conf) : CV prg 37 [.agg x.r] (fun res => res = .w (.int .i64 x.cost)) := by
 refine cv_in g37 (Eb [0] rfl (Ee (Eg (Ea (o_box rfl rfl rfl) (Ea (Ef rfl) (Ed (Ec (Eb [1] rfl (Ee (Ee (Eg ?_)))))))))))
 refine Ea (Ei rfl) (Ea (o_ldC rfl rfl rfl) ?_)
 first | refine s_call rfl rfl (c_103 ..) ?_ | refine s_callL rfl rfl (by simp) (c_103 ..) rfl ?_
 refine Ea (o_not rfl) (Ea (Ef rfl) ?_)
 first | refine s_gDF rfl ?_ ?_ | refine s_gNDF rfl ?_ ?_ | refine s_gNF rfl ?_ ?_ | refine s_gB rfl ?_ ?_
 intro h1
 try rw [nnp] at h1
 refine Ea (Ei rfl) (s_gT rfl (Ea (o_ldC rfl rfl rfl) (s_gT rfl ?_)))
 first | refine s_call rfl rfl (c_103 ..) ?_ | refine s_callL rfl rfl (by simp) (c_103 ..) rfl ?_
 refine s_gT rfl (Ea (o_not rfl) (Ea (o_pickF rfl rfl) (Ed (Ec (Eb [1, 12] rfl ?_)))))
 first | refine s_condD rfl ?_ ?_ | refine s_condN rfl ?_ ?_ | refine s_condNB rfl ?_ ?_ | refine s_condB rfl ?_ ?_
 intro h2
 try rw [nnp] at h2
 refine Ee (Eg (Ea (Ef rfl) (Ed (Ec (Eb [2] rfl (s_ret (q_seqR (ret_leafIR rfl rfl ?_))))))))
 rotate_left
 intro h2
 try rw [nnp] at h2
 refine s_skip (Ec (Eb [1] rfl (Ee (Eg (Ea (Ei rfl) (Ea (o_ldC rfl rfl rfl) (Ea (o_add rfl rfl) (Ea (Ei rfl) (Ea (o_ldC rfl rfl rfl) (Ea (o_add rfl rfl) (Ea (o_mul rfl rfl) ?_)))))))))))
 refine Ea (Ef rfl) (Ed (Ec (Eb [2] rfl (s_ret (ret_leafIR rfl rfl ?_)))))
 rotate_left
 intro h1
 try rw [nnp] at h1
 refine s_gF rfl (s_gF rfl (s_gF rfl (s_gF rfl (Ea (o_pickT rfl rfl) (Ed (Ec (Eb [1, 12] rfl (s_condT rfl (Ee (Eg (Ea (Ef rfl) ?_)))))))))))
 refine Ed (Ec (Eb [2] rfl (s_ret (q_seqR (ret_leafIR rfl rfl ?_)))))
 rotate_left
 all_goals
  first | exact cost_leaf (by assumption) (by assumption) | simp_all [Conf.cost]
theorem c_214 (x : Conf) : CV prg 214 [.agg x.r] (fun res => res = .w (.int .i64 x.slot)) := by
 have hc := x.cost_bd
 refine cv_in g214 (Eb [0] rfl (Ee (Eg (Ea (o_box rfl rfl rfl) (Ea (Ef rfl) (Ed (Ec (Eb [1] rfl (Ee (Ee (Eg ?_)))))))))))
 refine Ea (o_ldnC rfl rfl rfl) ?_
 first | refine s_call rfl rfl (c_186 ..) ?_ | refine s_callL rfl rfl (by simp) (c_186 ..) rfl ?_
 refine Ea (o_eql rfl rfl) (Ea (Ef rfl) ?_)
 first | refine s_gDF rfl ?_ ?_ | refine s_gB rfl ?_ ?_
 intro h1
 try rw [nnp] at h1
 try have h1' := inB_t h1
 refine Ea (Ei rfl) (s_gT rfl (Ea (o_ldC rfl rfl rfl) (s_gT rfl ?_)))
 first | refine s_call rfl rfl (c_230 ..) ?_ | refine s_callL rfl rfl (by simp) (c_230 ..) rfl ?_
 refine s_gT rfl (Ea (o_not rfl) (Ea (o_pickF rfl rfl) (Ed (Ec (Eb [1, 11] rfl ?_)))))
 first | refine s_condD rfl ?_ ?_ | refine s_condN rfl ?_ ?_ | refine s_condNB rfl ?_ ?_ | refine s_condB rfl ?_ ?_
 intro h2
 try rw [nnp] at h2
 try have h2' := inB_t h2
 refine Ee (Eg (Ea (Ef rfl) (Ed (Ec (Eb [2] rfl (s_ret (q_seqR (ret_leafIR rfl rfl ?_))))))))
 rotate_left
 intro h2
 try rw [nnp] at h2
 try have h2' := inB_t h2
 refine s_skip (Ec (Eb [1] rfl (Ee (Eg (Ea (o_ldnC rfl rfl rfl) ?_)))))
 first | refine s_call rfl rfl (c_186 ..) ?_ | refine s_callL rfl rfl (by simp) (c_186 ..) rfl ?_
 first | refine Ea (o_muln rfl rfl (by omega)) ?_ | refine Ea (o_mul rfl rfl) ?_
 refine Ea (Ei rfl) (Ea (o_ldC rfl rfl rfl) ?_)
 first | refine Ea (o_addn rfl rfl (by omega)) ?_ | refine Ea (o_add rfl rfl) ?_
 refine Ea (Ef rfl) (Ed (Ec (Eb [2] rfl (s_ret (ret_leafIR rfl rfl ?_)))))
 rotate_left
 intro h1
 try rw [nnp] at h1
 try have h1' := inB_t h1
 refine s_gF rfl (s_gF rfl (s_gF rfl (s_gF rfl (Ea (o_pickT rfl rfl) (Ed (Ec (Eb [1, 11] rfl (s_condT rfl (Ee (Eg (Ea (Ef rfl) ?_)))))))))))
 refine Ed (Ec (Eb [2] rfl (s_ret (q_seqR (ret_leafIR rfl rfl ?_)))))
 rotate_left
 all_goals
  first | (simp_all [Conf.slot]; done) | (simp_all [Conf.slot, inB]; omega)
theorem c_74 (x : Conf) : CV prg 74 [.agg x.r] (fun res => res = .w (.int .i64 x.slot)) := by
 have hc := x.cost_bd
 refine cv_in g74 (Eb [0] rfl (Ee (Eg (Ea (o_box rfl rfl rfl) (Ea (Ef rfl) (Ed (Ec (Eb [1] rfl (Ee (Ee (Eg ?_)))))))))))
 refine Ea (o_ldnC rfl rfl rfl) ?_
 first | refine s_call rfl rfl (c_37 ..) ?_ | refine s_callL rfl rfl (by simp) (c_37 ..) rfl ?_
 refine Ea (o_eql rfl rfl) (Ea (Ef rfl) ?_)
 first | refine s_gDF rfl ?_ ?_ | refine s_gB rfl ?_ ?_
 intro h1
 try rw [nnp] at h1
 try have h1' := inB_t h1
 refine Ea (Ei rfl) (s_gT rfl (Ea (o_ldC rfl rfl rfl) (s_gT rfl ?_)))
 first | refine s_call rfl rfl (c_103 ..) ?_ | refine s_callL rfl rfl (by simp) (c_103 ..) rfl ?_
 refine s_gT rfl (Ea (o_not rfl) (Ea (o_pickF rfl rfl) (Ed (Ec (Eb [1, 11] rfl ?_)))))
 first | refine s_condD rfl ?_ ?_ | refine s_condN rfl ?_ ?_ | refine s_condNB rfl ?_ ?_ | refine s_condB rfl ?_ ?_
 intro h2
 try rw [nnp] at h2
 try have h2' := inB_t h2
 refine Ee (Eg (Ea (Ef rfl) (Ed (Ec (Eb [2] rfl (s_ret (q_seqR (ret_leafIR rfl rfl ?_))))))))
 rotate_left
 intro h2
 try rw [nnp] at h2
 try have h2' := inB_t h2
 refine s_skip (Ec (Eb [1] rfl (Ee (Eg (Ea (o_ldnC rfl rfl rfl) ?_)))))
 first | refine s_call rfl rfl (c_37 ..) ?_ | refine s_callL rfl rfl (by simp) (c_37 ..) rfl ?_
 first | refine Ea (o_muln rfl rfl (by omega)) ?_ | refine Ea (o_mul rfl rfl) ?_
 refine Ea (Ei rfl) (Ea (o_ldC rfl rfl rfl) ?_)
 first | refine Ea (o_addn rfl rfl (by omega)) ?_ | refine Ea (o_add rfl rfl) ?_
 refine Ea (Ef rfl) (Ed (Ec (Eb [2] rfl (s_ret (ret_leafIR rfl rfl ?_)))))
 rotate_left
 intro h1
 try rw [nnp] at h1
 try have h1' := inB_t h1
 refine s_gF rfl (s_gF rfl (s_gF rfl (s_gF rfl (Ea (o_pickT rfl rfl) (Ed (Ec (Eb [1, 11] rfl (s_condT rfl (Ee (Eg (Ea (Ef rfl) ?_)))))))))))
 refine Ed (Ec (Eb [2] rfl (s_ret (q_seqR (ret_leafIR rfl rfl ?_)))))
 rotate_left
 all_goals
  first | (simp_all [Conf.slot]; done) | (simp_all [Conf.slot, inB]; omega)
theorem c_245 (x : Conf) : CV prg 245 [.agg x.r] (fun res => res = .w (.bool (inB x.quantum 1 4 && decide (0 < x.cost) && inB x.maxSplit 1 12 && inB x.lockMost 1 40))) := by
 refine cv_in g245 (Eb [0] rfl (Ee (Eg (Ea (o_box rfl rfl rfl) (Ea (Ef rfl) (Ed (Ec (Eb [1] rfl (Ee (Eg (Ea (Ei rfl) ?_)))))))))))
 refine Ea (o_ldC rfl rfl rfl) ?_
 first | refine s_call rfl rfl (c_230 ..) ?_ | refine s_callL rfl rfl (by simp) (c_230 ..) rfl ?_
 refine Ea (Ef rfl) ?_
 first | refine s_gDT rfl ?_ ?_ | refine s_gNDT rfl ?_ ?_ | refine s_gNT rfl ?_ ?_ | refine s_gB rfl ?_ ?_
 intro h1
 try rw [nnp] at h1
 refine Ea (o_ldnC rfl rfl rfl) (s_gT rfl ?_)
 first | refine s_call rfl rfl (c_186 ..) ?_ | refine s_callL rfl rfl (by simp) (c_186 ..) rfl ?_
 refine s_gT rfl (Ea (o_gtr rfl rfl) (Ea (o_pickT rfl rfl) (Ea (Ef rfl) ?_)))
 first | refine s_gDT rfl ?_ ?_ | refine s_gB rfl ?_ ?_
 intro h2
 try rw [nnp] at h2
 refine Ea (Ei rfl) (s_gT rfl (Ea (o_ldC rfl rfl rfl) (s_gT rfl ?_)))
 first | refine s_call rfl rfl (c_230 ..) ?_ | refine s_callL rfl rfl (by simp) (c_230 ..) rfl ?_
 refine Ea (o_pickT rfl rfl) (Ea (Ef rfl) (s_keepO (is := [1, 16]) rfl ?_))
 first | refine s_gDT rfl ?_ ?_ | refine s_gNDT rfl ?_ ?_ | refine s_gNT rfl ?_ ?_ | refine s_gB rfl ?_ ?_
 intro h3
 try rw [nnp] at h3
 refine Ea (Ei rfl) (s_gT rfl (Ea (o_ldC rfl rfl rfl) (s_gT rfl ?_)))
 first | refine s_call rfl rfl (c_230 ..) ?_ | refine s_callL rfl rfl (by simp) (c_230 ..) rfl ?_
 refine Ea (o_pickT rfl rfl) (Ea (Ef rfl) (Ed (Ec (Eb [2] rfl (s_ret (Eh rfl rfl ?_))))))
 rotate_left
 intro h3
 try rw [nnp] at h3
 refine s_gF rfl (s_gF rfl (s_gF rfl (Ea (o_pickF rfl rfl) (Ea (Ef rfl) (Ed (Ec (Eb [2] rfl (s_ret (Eh rfl rfl ?_)))))))))
 rotate_left
 intro h2
 try rw [nnp] at h2
 refine s_gF rfl (s_gF rfl (s_gF rfl (Ea (o_pickF rfl rfl) (Ea (Ef rfl) (s_keepO (is := [1, 16]) rfl (s_gF rfl (s_gF rfl (s_gF rfl (Ea (o_pickF rfl rfl) (Ea (Ef rfl) (Ed ?_)))))))))))
 refine Ec (Eb [2] rfl (s_ret (Eh rfl rfl ?_)))
 rotate_left
 intro h1
 try rw [nnp] at h1
 refine s_gF rfl (s_gF rfl (s_gF rfl (Ea (o_pickF rfl rfl) (Ea (Ef rfl) (s_gF rfl (s_gF rfl (s_gF rfl (Ea (o_pickF rfl rfl) (Ea (Ef rfl) (s_keepO (is := [1, 16]) rfl (s_gF rfl ?_)))))))))))
 refine s_gF rfl (s_gF rfl (Ea (o_pickF rfl rfl) (Ea (Ef rfl) (Ed (Ec (Eb [2] rfl (s_ret (Eh rfl rfl ?_))))))))
 rotate_left
 all_goals
  simp_all <;> omega
theorem prios_step {xs : List MConf} {i : Nat} {y : MConf} (h : xs[i]? = some y) : priosOf (xs.take (i + 1)) = priosOf (xs.take i) + if y.prio then 1 else 0 := by
 rw [take_get h, priosOf, List.countP_append]; simp [priosOf, List.countP_cons]
theorem prios_i (xs : List MConf) (i : Nat) : priosOf (xs.take i) ≤ i := by
 have := priosOf_le (xs.take i); rw [List.length_take] at this; omega
theorem prios_end {xs : List MConf} {i : Nat} (h : ¬ (i : Int) < xs.length) : priosOf (xs.take i) = priosOf xs := by rw [take_end (by omega)]
theorem c_101 (x : Conf) (hl : x.masters.length ≤ 1048576) : CV prg 101 [.agg x.r] (fun res => res = .w (.int .i64 (priosOf x.masters : Int))) := by
 refine cv_in g101 (Eb [0] rfl (Ee (Eg (Ea (o_box rfl rfl rfl) (Ea (Ef rfl) (Ed (Ec (Eb [1] rfl (Ee (Eg (Ea (Ef rfl) ?_)))))))))))
 refine Ed (Ec (Eb [1, 3] rfl (Ee (Ee (Eg (Ea (Ei rfl) (Ea (o_ldC rfl rfl rfl) ?_)))))))
 first | refine Ea (o_lenM rfl) ?_ | refine Ea (o_len rfl) ?_ | refine Ea (o_lenL rfl rfl rfl) ?_ | refine Ea (o_lenN rfl) ?_
 refine Ea (Ef rfl) (Ed (Ec (Eb [3, 7, 8, 9] rfl (S_block (S_loop0 (ι := Nat) (fun i => i ≤ x.masters.length) (fun i => [(9, .w (.int .i64 (i : Int))), (3, .w (.int .i64 (priosOf (x.masters.take i) : Int)))]) (fun i => x.masters.length - i) 0 (by simp) rfl ⟨rfl, rfl, trivial⟩ (fun _ _ => rfl) rfl ?_)))))
 intro i hi
 have hp := prios_i x.masters i
 refine Eb [3, 7, 8, 9] rfl (Ee (Eg (Ea (o_lss rfl rfl) (Ed (Ec (Eb [3, 7, 8, 9, 10] rfl (Ee ?_)))))))
 first | refine s_condD rfl ?_ ?_ | refine s_condB rfl ?_ ?_
 intro h1
 try rw [nnp] at h1
 refine s_skip (Ec (Eb [3, 7, 8, 9] rfl (Ee (S_block (Ee (Eg (s_iaM rfl rfl (by simp at *; omega) ?_)))))))
 intro y2 e2
 try simp only [Int.toNat_natCast, Int.toNat_zero] at e2
 refine Ea (o_ldn rfl rfl) (Ea (o_new rfl rfl) (s_opN (o_stnC rfl rfl rfl rfl rfl rfl rfl) (Ed (Ec (Eb [3, 5, 7, 8, 9] rfl (Ee (Eg (Ea (Ei rfl) (Ea (o_ldC rfl rfl rfl) (Ed (Ec ?_)))))))))))
 refine Eb [3, 7, 8, 9, 14] rfl ?_
 first | refine s_condD rfl ?_ ?_ | refine s_condN rfl ?_ ?_ | refine s_condNB rfl ?_ ?_ | refine s_condB rfl ?_ ?_
 intro h3
 try rw [nnp] at h3
 refine Eg (Ea (Ef rfl) ?_)
 first | refine Ea (o_addn rfl rfl (by omega)) ?_ | refine Ea (o_add rfl rfl) ?_
 refine Ea (Ef rfl) (Ed (q_blkN (Ec (Eb [3, 7, 8, 9] rfl (Eg ?_)))))
 first | refine Ea (o_addn rfl rfl (by omega)) ?_ | refine Ea (o_add rfl rfl) ?_
 refine Ea (Ef rfl) (Ed (q_loopN ?_))
 · refine ⟨i + 1, by omega, by omega, hasOf ⟨rfl, ?_, trivial⟩ rfl⟩
   rw [prios_step (by assumption)]; simp_all; rfl
 intro h3
 try rw [nnp] at h3
 refine s_skip (q_blkN (Ec (Eb [3, 7, 8, 9] rfl (Eg ?_))))
 first | refine Ea (o_addn rfl rfl (by omega)) ?_ | refine Ea (o_add rfl rfl) ?_
 refine Ea (Ef rfl) (Ed (q_loopN ?_))
 · refine ⟨i + 1, by omega, by omega, hasOf ⟨rfl, ?_, trivial⟩ rfl⟩
   rw [prios_step (by assumption)]; simp_all; rfl
 intro h1
 try rw [nnp] at h1
 refine s_exit (q_seqX (q_loopX (q_blkH (Ec (Eb [3] rfl (Ee (Eg (Ea (Ef rfl) (Ea (Ef rfl) (Ed (Ec ?_)))))))))))
 refine Eb [2] rfl (s_ret (ret_leafIR rfl rfl ?_))
 rotate_left
 all_goals
  rw [prios_end (by assumption)]
theorem least_a {x : Conf} (hl : x.masters.length ≤ 1048576) : IntKind.wrap .i64 (IntKind.wrap .i64 (2 * x.slot) * (priosOf x.masters : Int)) = x.least := by
 have h1 := x.slot_bd
 have h2 := priosOf_le x.masters
 rw [wrap_in (2 * x.slot) (by omega)]
 have h3 : 0 ≤ 2 * x.slot * (priosOf x.masters : Int) := Int.mul_nonneg (by omega) (by omega)
 have h4 : 2 * x.slot * (priosOf x.masters : Int) ≤ 260 * 1048576 := Int.mul_le_mul (by omega) (by omega) (by omega) (by omega)
 rw [wrap_in _ (by omega)]; rfl
theorem least_b {x : Conf} (hl : x.masters.length ≤ 1048576) : IntKind.wrap .i64 (IntKind.wrap .i64 (2 * (priosOf x.masters : Int)) * x.slot) = x.least := by
 rw [← least_a hl]
 have h1 := x.slot_bd
 have h2 := priosOf_le x.masters
 rw [wrap_in (2 * x.slot) (by omega), wrap_in (2 * (priosOf x.masters : Int)) (by omega), Int.mul_right_comm]
theorem c_50 (x : Conf) (hl : x.masters.length ≤ 1048576) : CV prg 50 [.agg x.r] (fun res => res = .w (.int .i64 x.least)) := by
 refine cv_in g50 (Eb [0] rfl (Ee (Eg (Ea (o_box rfl rfl rfl) (Ea (Ef rfl) (Ed (Ec (Eb [1] rfl (Ee (Eg (Ea (o_ldnC rfl rfl rfl) ?_)))))))))))
 first | refine s_call rfl rfl (c_74 ..) ?_ | refine s_callL rfl rfl (by simp) (c_74 ..) rfl ?_
 refine Ea (o_mul rfl rfl) (Ea (o_ldnC rfl rfl rfl) ?_)
 first | refine s_call rfl rfl (c_101 _ (by assumption)) ?_ | refine s_callL rfl rfl (by simp) (c_101 _ (by assumption)) rfl ?_
 refine Ea (o_mul rfl rfl) (Ea (Ef rfl) (Ed (Ec (Eb [2] rfl (s_ret (ret_leafIR rfl rfl ?_))))))
 rotate_left
 all_goals
  exact least_a hl
theorem c_35 (m : MConf) (x : Conf) (hl : x.masters.length ≤ 1048576) : CV prg 35 [.agg m.r, .rp x.r 0] (fun res => res = .w (.bool (!MConf.ok x.least m))) := by
 refine cv_in g35 (Eb [0, 1] rfl (Ee (Eg (Ea (o_box rfl rfl rfl) (Ea (Ef rfl) (Ed (Ec (Eb [1, 2] rfl (Ee (S_block (Ee ?_)))))))))))
 refine Eg (Ea (Ei rfl) (Ea (o_ldC rfl rfl rfl) ?_))
 first | refine s_call rfl rfl (c_103 ..) ?_ | refine s_callL rfl rfl (by simp) (c_103 ..) rfl ?_
 refine Ea (o_not rfl) (Ea (Ef rfl) (Ed (Ec (Eb [1, 2, 4] rfl ?_))))
 first | refine s_condD rfl ?_ ?_ | refine s_condN rfl ?_ ?_ | refine s_condNB rfl ?_ ?_ | refine s_condB rfl ?_ ?_
 intro h1
 try rw [nnp] at h1
 refine Ee (Eg (Ea (Ef rfl) (Ed (Ec (Eb [3] rfl (s_ret (q_blkR (q_seqR (Eh rfl rfl ?_)))))))))
 rotate_left
 intro h1
 try rw [nnp] at h1
 refine Ee (Eg (Ea (Ei rfl) (Ea (o_ldC rfl rfl rfl) (Ea (Ef rfl) (Ed (Ec (Eb [1, 2, 9] rfl ?_)))))))
 first | refine s_condD rfl ?_ ?_ | refine s_condN rfl ?_ ?_ | refine s_condNB rfl ?_ ?_ | refine s_condB rfl ?_ ?_
 intro h2
 try rw [nnp] at h2
 refine Ee (Eg (Ea (Ei rfl) (Ea (o_ldC rfl rfl rfl) (Ea (o_ldn rfl rfl) ?_))))
 first | refine s_call rfl rfl (c_50 _ (by assumption)) ?_ | refine s_callL rfl rfl (by simp) (c_50 _ (by assumption)) rfl ?_
 first | refine s_call rfl rfl (c_103 ..) ?_ | refine s_callL rfl rfl (by simp) (c_103 ..) rfl ?_
 refine Ea (o_not rfl) (Ea (Ef rfl) ?_)
 first | refine s_gDF rfl ?_ ?_ | refine s_gNDF rfl ?_ ?_ | refine s_gNF rfl ?_ ?_ | refine s_gB rfl ?_ ?_
 intro h3
 try rw [nnp] at h3
 refine Ea (Ei rfl) (s_gT rfl (Ea (o_ldC rfl rfl rfl) (s_gT rfl ?_)))
 first | refine s_call rfl rfl (c_103 ..) ?_ | refine s_callL rfl rfl (by simp) (c_103 ..) rfl ?_
 refine s_gT rfl (Ea (o_not rfl) (Ea (o_pickF rfl rfl) (Ea (Ef rfl) (Ed (Ec (Eb [3] rfl (s_ret (q_blkR (q_seqR (Eh rfl rfl ?_))))))))))
 rotate_left
 intro h3
 try rw [nnp] at h3
 refine s_gF rfl (s_gF rfl (s_gF rfl (s_gF rfl (Ea (o_pickT rfl rfl) (Ea (Ef rfl) (Ed (Ec (Eb [3] rfl (s_ret (q_blkR (q_seqR ?_)))))))))))
 refine Eh rfl rfl ?_
 rotate_left
 intro h2
 try rw [nnp] at h2
 refine s_skip (q_blkN (Ec (Eb [2] rfl (Ee (Eg (Ea (Ei rfl) (Ea (o_ldC rfl rfl rfl) (Ea (o_neq rfl rfl) (Ea (Ef rfl) ?_)))))))))
 first | refine s_gDF rfl ?_ ?_ | refine s_gB rfl ?_ ?_
 intro h4
 try rw [nnp] at h4
 refine Ea (Ei rfl) (s_gT rfl (Ea (o_ldC rfl rfl rfl) (s_gT rfl (Ea (o_neq rfl rfl) (Ea (o_pickF rfl rfl) (Ea (Ef rfl) (Ed (Ec (Eb [3] rfl (s_ret (Eh rfl rfl ?_)))))))))))
 rotate_left
 intro h4
 try rw [nnp] at h4
 refine s_gF rfl (s_gF rfl (s_gF rfl (Ea (o_pickT rfl rfl) (Ea (Ef rfl) (Ed (Ec (Eb [3] rfl (s_ret (Eh rfl rfl ?_)))))))))
 rotate_left
 all_goals
  simp_all [MConf.ok]
theorem c_269 (xs : List MConf) (hl : xs.length ≤ 140737488355328) (f : Nat) (caps : List V) (hc : caps.all (V.fzV 5) = true) (p : MConf → Bool) (h : ∀ y, y ∈ xs → CV prg f (.agg (MConf.r y) :: caps) (fun v => v = .w (.bool (p y)))) : CV prg 269 [.sl 4 (xs.map MConf.r), .fn f caps] (fun res => res = .w (.int .i64 (idxOf p xs))) := by
 refine cv_in g269 (Eb [0, 1] rfl (Ee (Eg (Ea (Ef rfl) (Ed (Ec (Eb [0, 1] rfl (Ee (Ee (Eg (Ea (Ef rfl) ?_)))))))))))
 first | refine Ea (o_lenM rfl) ?_ | refine Ea (o_len rfl) ?_
 refine Ea (Ef rfl) (Ed (Ec (Eb [0, 1, 7, 8] rfl (S_block (S_loop0 (ι := Nat) (fun i => i ≤ xs.length ∧ (xs.take i).any p = false) (fun i => [(8, .w (.int .i64 (i : Int)))]) (fun i => xs.length - i) 0 (by simp) rfl ⟨rfl, trivial⟩ (fun _ _ => rfl) rfl ?_)))))
 intro i hi
 refine Eb [0, 1, 7, 8] rfl (Ee (Eg (Ea (o_lss rfl rfl) (Ed (Ec (Eb [0, 1, 7, 8, 9] rfl (Ee ?_)))))))
 first | refine s_condD rfl ?_ ?_ | refine s_condB rfl ?_ ?_
 intro h1
 try rw [nnp] at h1
 refine s_skip (Ec (Eb [0, 1, 7, 8] rfl (Ee (S_block (Ee (Eg (Ea (Ef rfl) (Ea (Ef rfl) (Ed (Ec (Eb [0, 1, 5, 7, 8] rfl ?_)))))))))))
 refine Ee (Eg (Ea (Ef rfl) (Ea (Ef rfl) (Ea (Ef rfl) (s_iaM rfl rfl (by simp at *; omega) ?_)))))
 intro y2 e2
 try simp only [Int.toNat_natCast, Int.toNat_zero] at e2
 refine Ea (o_ldn rfl rfl) (s_calli rfl rfl (fz1 rfl hc) (h _ (List.mem_of_getElem? (by assumption))) (Ed (Ec (Eb [0, 1, 5, 7, 8, 16] rfl ?_))))
 first | refine s_condD rfl ?_ ?_ | refine s_condN rfl ?_ ?_ | refine s_condNB rfl ?_ ?_ | refine s_condB rfl ?_ ?_
 intro h3
 try rw [nnp] at h3
 refine Ee (Eg (Ea (Ef rfl) (Ea (Ef rfl) (Ed (Ec (Eb [4] rfl (s_ret (q_blkR (q_seqR (q_loopR (q_blkR ?_)))))))))))
 refine q_seqR (ret_leafIR rfl rfl ?_)
 rotate_left
 intro h3
 try rw [nnp] at h3
 refine s_skip (q_blkN (Ec (Eb [0, 1, 7, 8] rfl (Eg ?_))))
 first | refine Ea (o_addn rfl rfl (by omega)) ?_ | refine Ea (o_add rfl rfl) ?_
 refine Ea (Ef rfl) (Ed (q_loopN ?_))
 · exact ⟨i + 1, ⟨by omega, any_take (by assumption) hi.2 (by assumption)⟩, by omega, hasOf ⟨rfl, trivial⟩ rfl⟩
 intro h1
 try rw [nnp] at h1
 refine s_exit (q_seqX (q_loopX (q_blkH (Ec (Eb [] rfl (Ee (Eg (Ea (Ef rfl) (Ed (Ec (Eb [4] rfl ?_)))))))))))
 refine s_ret (ret_leafIR rfl rfl ?_)
 rotate_left
 all_goals
  first | exact (idxOf_at (by assumption) hi.2 (by assumption)).symm | exact (idxOf_no (any_end hi.2 (by omega))).symm
theorem c_258 (xs : List MConf) (hl : xs.length ≤ 140737488355328) (f : Nat) (caps : List V) (hc : caps.all (V.fzV 5) = true) (p : MConf → Bool) (h : ∀ y, y ∈ xs → CV prg f (.agg (MConf.r y) :: caps) (fun v => v = .w (.bool (p y)))) : CV prg 258 [.sl 4 (xs.map MConf.r), .fn f caps] (fun res => res = .w (.bool (xs.any p))) := by
 refine cv_in g258 (Eb [0, 1] rfl (Ee (Eg (Ea (Ef rfl) (Ed (Ec (Eb [0, 1] rfl (Ee (Eg (Ea (Ef rfl) (Ea (Ef rfl) ?_)))))))))))
 refine s_call rfl (fz2 rfl hc) (c_269 _ (by assumption) _ _ hc _ h) (Ea (o_geq rfl rfl) (Ea (Ef rfl) (Ed (Ec (Eb [4] rfl (s_ret (Eh rfl rfl ?_)))))))
 rotate_left
 all_goals
  exact idxOf_any p xs
theorem ok_not (l : Int) (xs : List MConf) : (!xs.any (fun m => !MConf.ok l m)) = xs.all (MConf.ok l) := by
 induction xs with
 | nil => rfl
 | cons m xs ih => simp only [List.any_cons, List.all_cons, Bool.not_or, Bool.not_not, ih]
theorem c_34 (x : Conf) (hl : x.masters.length ≤ 1048576) : CV prg 34 [.agg x.r] (fun res => res = .w (.bool x.ok)) := by
 refine cv_in g34 (Eb [0] rfl (Ee (Eg (Ea (o_box rfl rfl rfl) (Ea (Ef rfl) (Ed (Ec (Eb [1] rfl (Ee (Ee (Eg ?_)))))))))))
 refine Ea (Ei rfl) (Ea (o_ldC rfl rfl rfl) ?_)
 first | refine Ea (o_lenM rfl) ?_ | refine Ea (o_len rfl) ?_ | refine Ea (o_lenL rfl rfl rfl) ?_ | refine Ea (o_lenN rfl) ?_
 refine s_call rfl rfl (c_103 ..) (Ea (o_not rfl) (Ea (Ef rfl) ?_))
 first | refine s_gDF rfl ?_ ?_ | refine s_gNDF rfl ?_ ?_ | refine s_gNF rfl ?_ ?_ | refine s_gB rfl ?_ ?_
 intro h1
 try rw [nnp] at h1
 refine Ea (Ei rfl) (s_gT rfl (Ea (o_ldC rfl rfl rfl) (s_gT rfl ?_)))
 first | refine s_call rfl rfl (c_103 ..) ?_ | refine s_callL rfl rfl (by simp) (c_103 ..) rfl ?_
 refine s_gT rfl (Ea (o_not rfl) (Ea (o_pickF rfl rfl) (Ea (Ef rfl) ?_)))
 first | refine s_gDF rfl ?_ ?_ | refine s_gNDF rfl ?_ ?_ | refine s_gNF rfl ?_ ?_ | refine s_gB rfl ?_ ?_
 intro h2
 try rw [nnp] at h2
 refine Ea (Ei rfl) (s_gT rfl (Ea (o_ldC rfl rfl rfl) (s_keepO (is := [1, 14, 16]) rfl (s_gT rfl ?_))))
 first | refine s_call rfl rfl (c_103 ..) ?_ | refine s_callL rfl rfl (by simp) (c_103 ..) rfl ?_
 refine s_gT rfl (Ea (o_not rfl) (Ea (o_pickF rfl rfl) (Ea (Ef rfl) ?_)))
 first | refine s_gDF rfl ?_ ?_ | refine s_gNDF rfl ?_ ?_ | refine s_gNF rfl ?_ ?_ | refine s_gB rfl ?_ ?_
 intro h3
 try rw [nnp] at h3
 refine Ea (o_ldnC rfl rfl rfl) (s_gT rfl ?_)
 first | refine s_call rfl rfl (c_74 ..) ?_ | refine s_callL rfl rfl (by simp) (c_74 ..) rfl ?_
 refine s_gT rfl (Ea (o_eql rfl rfl) (Ea (o_pickF rfl rfl) (Ed (Ec (Eb [1, 24] rfl ?_)))))
 first | refine s_condD rfl ?_ ?_ | refine s_condB rfl ?_ ?_
 intro h4
 try rw [nnp] at h4
 refine Ee (Eg (Ea (Ef rfl) (Ed (Ec (Eb [2] rfl (s_ret (q_seqR (Eh rfl rfl ?_))))))))
 rotate_left
 intro h4
 try rw [nnp] at h4
 refine s_skip (Ec (Eb [1] rfl (Ee (Eg (Ea (Ei rfl) (Ea (o_ldC rfl rfl rfl) (Ea (o_fn rfl) (s_callL rfl rfl (by simp) (c_258 _ (by omega) _ _ rfl (fun m => !MConf.ok x.least m) (fun y _ => c_35 y x hl)) rfl (Ea (o_not rfl) (Ea (Ef rfl) (Ed ?_)))))))))))
 refine Ec (Eb [2] rfl (s_ret (Eh rfl rfl ?_)))
 rotate_left
 intro h3
 try rw [nnp] at h3
 refine s_gF rfl (s_gF rfl (s_gF rfl (Ea (o_pickT rfl rfl) (Ed (Ec (Eb [1, 24] rfl (s_condT rfl (Ee (Eg (Ea (Ef rfl) (Ed ?_)))))))))))
 refine Ec (Eb [2] rfl (s_ret (q_seqR (Eh rfl rfl ?_))))
 rotate_left
 intro h2
 try rw [nnp] at h2
 refine s_gF rfl (s_gF rfl (s_keepO (is := [1, 14, 16]) rfl (s_gF rfl (s_gF rfl (Ea (o_pickT rfl rfl) (Ea (Ef rfl) (s_gF rfl (s_gF rfl (s_gF rfl (Ea (o_pickT rfl rfl) (Ed ?_)))))))))))
 refine Ec (Eb [1, 24] rfl (s_condT rfl (Ee (Eg (Ea (Ef rfl) (Ed (Ec (Eb [2] rfl (s_ret (q_seqR (Eh rfl rfl ?_)))))))))))
 rotate_left
 intro h1
 try rw [nnp] at h1
 refine s_gF rfl (s_gF rfl (s_gF rfl (s_gF rfl (Ea (o_pickT rfl rfl) (Ea (Ef rfl) (s_gF rfl (s_gF rfl (s_keepO (is := [1, 14, 16]) rfl (s_gF rfl (s_gF rfl (Ea (o_pickT rfl rfl) ?_)))))))))))
 refine Ea (Ef rfl) (s_gF rfl (s_gF rfl (s_gF rfl (Ea (o_pickT rfl rfl) (Ed (Ec (Eb [1, 24] rfl (s_condT rfl (Ee (Eg (Ea (Ef rfl) ?_)))))))))))
 refine Ed (Ec (Eb [2] rfl (s_ret (q_seqR (Eh rfl rfl ?_)))))
 rotate_left
 all_goals
  first | (rw [ok_not]; simp_all [Conf.ok]; done) | (simp_all [Conf.ok]; done)
theorem c_184 (x : Conf) (hl : x.masters.length ≤ 1048576) : CV prg 184 [.agg x.r] (fun res => res = .w (.bool x.ok)) := by
 have hL := least_b hl
 refine cv_in g184 (Eb [0] rfl (Ee (Eg (Ea (o_box rfl rfl rfl) (Ea (Ef rfl) (Ed (Ec (Eb [1] rfl (Ee (Eg (Ea (Ef rfl) ?_)))))))))))
 refine Ed (Ec (Eb [1, 3] rfl (Ee (Ee (Eg (Ea (Ef rfl) (Ed (Ec (Eb [1, 3, 4] rfl (S_block (S_loop0 (ι := Nat) (fun i => i ≤ x.masters.length) (fun i => [(4, .w (.int .i64 (i : Int))), (3, .w (.int .i64 (priosOf (x.masters.take i) : Int)))]) (fun i => x.masters.length - i) 0 (by simp) rfl ⟨rfl, rfl, trivial⟩ (fun _ _ => rfl) rfl ?_)))))))))))
 intro i hi
 have hp := prios_i x.masters i
 refine Eb [1, 3, 4] rfl (Ee (Ee (Eg (Ea (Ef rfl) (Ea (Ei rfl) (Ea (o_ldC rfl rfl rfl) ?_))))))
 first | refine Ea (o_lenM rfl) ?_ | refine Ea (o_len rfl) ?_ | refine Ea (o_lenL rfl rfl rfl) ?_ | refine Ea (o_lenN rfl) ?_
 refine Ea (o_lss rfl rfl) (Ed (Ec (Eb [1, 3, 4, 11] rfl ?_)))
 first | refine s_condD rfl ?_ ?_ | refine s_condB rfl ?_ ?_
 intro h1
 try rw [nnp] at h1
 try rw [hL] at h1
 refine s_skip (Ec (Eb [1, 3, 4] rfl (Ee (S_block (Ee (Eg (Ea (Ei rfl) (Ea (o_ldC rfl rfl rfl) (Ea (Ef rfl) (s_iaM rfl rfl (by simp at *; omega) ?_))))))))))
 intro y2 e2
 try simp only [Int.toNat_natCast, Int.toNat_zero] at e2
 refine Ea (o_fa rfl) (Ea (o_ld rfl rfl) (Ed (Ec (Eb [1, 3, 4, 19] rfl ?_))))
 first | refine s_condD rfl ?_ ?_ | refine s_condN rfl ?_ ?_ | refine s_condNB rfl ?_ ?_ | refine s_condB rfl ?_ ?_
 intro h3
 try rw [nnp] at h3
 try rw [hL] at h3
 refine Eg (Ea (Ef rfl) ?_)
 first | refine Ea (o_addn rfl rfl (by omega)) ?_ | refine Ea (o_add rfl rfl) ?_
 refine Ea (Ef rfl) (Ed (q_blkN (Ec (Eb [1, 3, 4] rfl (Eg (Ea (Ef rfl) ?_))))))
 first | refine Ea (o_addn rfl rfl (by omega)) ?_ | refine Ea (o_add rfl rfl) ?_
 refine Ea (Ef rfl) (Ed (q_loopN ?_))
 · refine ⟨i + 1, by omega, by omega, hasOf ⟨rfl, ?_, trivial⟩ rfl⟩
   rw [prios_step (by assumption)]; simp_all; rfl
 intro h3
 try rw [nnp] at h3
 try rw [hL] at h3
 refine s_skip (q_blkN (Ec (Eb [1, 3, 4] rfl (Eg (Ea (Ef rfl) ?_)))))
 first | refine Ea (o_addn rfl rfl (by omega)) ?_ | refine Ea (o_add rfl rfl) ?_
 refine Ea (Ef rfl) (Ed (q_loopN ?_))
 · refine ⟨i + 1, by omega, by omega, hasOf ⟨rfl, ?_, trivial⟩ rfl⟩
   rw [prios_step (by assumption)]; simp_all; rfl
 intro h1
 try rw [nnp] at h1
 try rw [hL] at h1
 refine s_exit (q_seqX (q_loopX (q_blkH (Ec (Eb [1, 3] rfl (Ee (Ee (Eg (Ea (Ef rfl) (Ed (Ec ?_)))))))))))
 refine Eb [1, 3, 5] rfl (S_block (s_eqv 3 rfl (congrArg (fun n : Nat => V.w (.int .i64 (n : Int))) (by rw [take_end (by omega)])) (S_loop0 (ι := Nat) (fun i => i ≤ x.masters.length ∧ (x.masters.take i).all (MConf.ok x.least) = true) (fun i => [(5, .w (.int .i64 (i : Int)))]) (fun i => x.masters.length - i) 0 (by simp) rfl ⟨rfl, trivial⟩ (fun _ _ => rfl) rfl ?_)))
 intro i hi
 refine Eb [1, 3, 5] rfl (Ee (Ee (Eg (Ea (Ef rfl) (Ea (Ei rfl) (Ea (o_ldC rfl rfl rfl) ?_))))))
 first | refine Ea (o_lenM rfl) ?_ | refine Ea (o_len rfl) ?_ | refine Ea (o_lenL rfl rfl rfl) ?_ | refine Ea (o_lenN rfl) ?_
 refine Ea (o_lss rfl rfl) (Ed (Ec (Eb [1, 3, 5, 26] rfl ?_)))
 first | refine s_condD rfl ?_ ?_ | refine s_condB rfl ?_ ?_
 intro h4
 try rw [nnp] at h4
 try rw [hL] at h4
 refine s_skip (Ec (Eb [1, 3, 5] rfl (Ee (S_block (Ee (Eg (Ea (Ei rfl) (Ea (o_ldC rfl rfl rfl) (Ea (Ef rfl) (s_iaM rfl rfl (by simp at *; omega) ?_))))))))))
 intro y5 e5
 try simp only [Int.toNat_natCast, Int.toNat_zero] at e5
 refine Ea (o_ldn rfl rfl) (Ea (o_new rfl rfl) (s_opN (o_stnC rfl rfl rfl rfl rfl rfl rfl) (Ed (Ec (Eb [1, 3, 5, 6] rfl (Ee (Eg (Ea (Ei rfl) (Ea (o_ldC rfl rfl rfl) ?_)))))))))
 first | refine s_call rfl rfl (c_230 ..) ?_ | refine s_callL rfl rfl (by simp) (c_230 ..) rfl ?_
 refine Ea (o_not rfl) (Ea (Ef rfl) ?_)
 first | refine s_gDF rfl ?_ ?_ | refine s_gNDF rfl ?_ ?_ | refine s_gNF rfl ?_ ?_ | refine s_gB rfl ?_ ?_
 intro h6
 try rw [nnp] at h6
 try rw [hL] at h6
 refine Ea (Ei rfl) (s_gT rfl (Ea (o_ldC rfl rfl rfl) (s_gT rfl (Ea (o_not rfl) (s_gT rfl (Ea (Ef rfl) ?_))))))
 first | refine s_gDT rfl ?_ ?_ | refine s_gNDT rfl ?_ ?_ | refine s_gNT rfl ?_ ?_ | refine s_gB rfl ?_ ?_
 intro h7
 try rw [nnp] at h7
 try rw [hL] at h7
 refine Ea (Ei rfl) (s_gT rfl (Ea (o_ldC rfl rfl rfl) (s_gT rfl (Ea (o_neq rfl rfl) (s_gT rfl (Ea (Ef rfl) ?_))))))
 first | refine s_gDF rfl ?_ ?_ | refine s_gB rfl ?_ ?_
 intro h8
 try rw [nnp] at h8
 try rw [hL] at h8
 refine Ea (Ei rfl) (s_keepO (is := [1, 3, 5, 6, 38, 39, 40, 41, 42, 43, 44, 45, 46, 47]) rfl (s_gT rfl (Ea (o_ldC rfl rfl rfl) (s_gT rfl (Ea (o_neq rfl rfl) (s_gT rfl (Ea (o_pickF rfl rfl) (s_gT rfl (Ea (o_pickT rfl rfl) (Ea (o_pickF rfl rfl) (Ea (Ef rfl) ?_)))))))))))
 first | refine s_gDF rfl ?_ ?_ | refine s_gB rfl ?_ ?_
 intro h9
 try rw [nnp] at h9
 try rw [hL] at h9
 refine Ea (Ei rfl) (s_gT rfl (Ea (o_ldC rfl rfl rfl) (s_gT rfl (Ea (Ef rfl) ?_))))
 first | refine s_gDT rfl ?_ ?_ | refine s_gNDT rfl ?_ ?_ | refine s_gNT rfl ?_ ?_ | refine s_gB rfl ?_ ?_
 intro h10
 try rw [nnp] at h10
 try rw [hL] at h10
 refine Ea (Ei rfl) (s_gT rfl (Ea (o_ldC rfl rfl rfl) (s_gT rfl (Ea (Ef rfl) (s_gT rfl (Ea (o_mul rfl rfl) (s_gT rfl (Ea (o_ldnC rfl rfl rfl) (s_keepO (is := [1, 3, 5, 6, 39, 40, 41, 42, 43, 44, 45, 46, 47, 48, 49, 50, 51, 53, 54, 55, 56, 57, 58, 59, 60, 61]) rfl (s_gT rfl ?_))))))))))
 first | refine s_call rfl rfl (c_214 ..) ?_ | refine s_callL rfl rfl (by simp) (c_214 ..) rfl ?_
 refine s_gT rfl (Ea (o_mul rfl rfl) (s_gT rfl ?_))
 first | refine s_call rfl rfl (c_230 ..) ?_ | refine s_callL rfl rfl (by simp) (c_230 ..) rfl ?_
 refine s_gT rfl (Ea (o_not rfl) (s_gT rfl (Ea (Ef rfl) ?_)))
 first | refine s_gDF rfl ?_ ?_ | refine s_gNDF rfl ?_ ?_ | refine s_gNF rfl ?_ ?_ | refine s_gB rfl ?_ ?_
 intro h11
 try rw [nnp] at h11
 try rw [hL] at h11
 refine Ea (Ei rfl) (s_gT rfl (Ea (o_ldC rfl rfl rfl) (s_gT rfl ?_)))
 first | refine s_call rfl rfl (c_230 ..) ?_ | refine s_callL rfl rfl (by simp) (c_230 ..) rfl ?_
 refine s_gT rfl (Ea (o_not rfl) (s_gT rfl (Ea (o_pickF rfl rfl) (s_gT rfl (Ea (o_pickT rfl rfl) (Ea (o_pickF rfl rfl) (Ed (Ec (Eb [1, 3, 5, 39, 40, 41, 42, 43, 44, 45, 46, 47, 48, 49, 50, 51, 54, 55, 56, 57, 58, 59, 60, 61, 62, 63, 64, 65, 66, 67, 68, 69, 70, 71, 72, 73] rfl ?_)))))))))
 first | refine s_condD rfl ?_ ?_ | refine s_condN rfl ?_ ?_ | refine s_condNB rfl ?_ ?_ | refine s_condB rfl ?_ ?_
 intro h12
 try rw [nnp] at h12
 try rw [hL] at h12
 refine Ee (Eg (Ea (Ef rfl) (Ed (Ec (Eb [2] rfl (s_ret (q_blkR (q_seqR (q_loopR (q_blkR (q_seqR ?_)))))))))))
 refine Eh rfl rfl ?_
 rotate_left
 intro h12
 try rw [nnp] at h12
 try rw [hL] at h12
 refine s_skip (q_blkN (Ec (Eb [1, 3, 5, 39, 40, 41, 42, 43, 44, 45, 46, 47, 48, 49, 50, 51, 54, 55, 56, 57, 58, 59, 60, 61, 62, 63, 64, 65, 66, 67, 68, 69, 70, 71, 72] rfl (Eg (Ea (Ef rfl) ?_)))))
 first | refine Ea (o_addn rfl rfl (by omega)) ?_ | refine Ea (o_add rfl rfl) ?_
 refine Ea (Ef rfl) (Ed (q_loopN ?_))
 · refine ⟨i + 1, ⟨by omega, all_take (by assumption) hi.2 ?_⟩, by omega, hasOf ⟨rfl, trivial⟩ rfl⟩
   clear hi
   simp_all [MConf.ok]
 intro h11
 try rw [nnp] at h11
 try rw [hL] at h11
 refine s_gF rfl (s_gF rfl (s_gF rfl (s_gF rfl (s_gT rfl (Ea (o_pickT rfl rfl) (s_gT rfl (Ea (o_pickT rfl rfl) (Ea (o_pickF rfl rfl) (Ed (Ec (Eb [1, 3, 5, 39, 40, 41, 42, 43, 44, 45, 46, 47, 48, 49, 50, 51, 54, 55, 56, 57, 58, 59, 60, 61, 62, 63, 64, 65, 66, 67, 68, 69, 70, 71, 72, 73] rfl ?_)))))))))))
 refine s_condT rfl (Ee (Eg (Ea (Ef rfl) (Ed (Ec (Eb [2] rfl (s_ret (q_blkR (q_seqR (q_loopR (q_blkR ?_)))))))))))
 refine q_seqR (Eh rfl rfl ?_)
 rotate_left
 intro h10
 try rw [nnp] at h10
 try rw [hL] at h10
 refine s_gF rfl (s_gF rfl (s_gF rfl (s_gF rfl (s_gF rfl (s_keepO (is := [1, 3, 5, 6, 39, 40, 41, 42, 43, 44, 45, 46, 47, 48, 49, 50, 51, 53, 54, 55, 56, 57, 58, 59, 60, 61]) rfl (s_gF rfl (s_gF rfl (s_gF rfl (s_gF rfl (s_gF rfl (s_gN rfl ?_)))))))))))
 refine s_gN rfl (s_gN rfl (s_gN rfl (s_gF rfl (s_gT rfl (Ea (o_pickF rfl rfl) (Ea (o_pickF rfl rfl) (Ed (Ec (Eb [1, 3, 5, 39, 40, 41, 42, 43, 44, 45, 46, 47, 48, 49, 50, 51, 54, 55, 56, 57, 58, 59, 60, 61, 62, 63, 64, 65, 66, 67, 68, 69, 70, 71, 72, 73] rfl (s_condF rfl (s_skip ?_)))))))))))
 refine q_blkN (Ec (Eb [1, 3, 5, 39, 40, 41, 42, 43, 44, 45, 46, 47, 48, 49, 50, 51, 54, 55, 56, 57, 58, 59, 60, 61, 62, 63, 64, 65, 66, 67, 68, 69, 70, 71, 72] rfl (Eg (Ea (Ef rfl) ?_))))
 first | refine Ea (o_addn rfl rfl (by omega)) ?_ | refine Ea (o_add rfl rfl) ?_
 refine Ea (Ef rfl) (Ed (q_loopN ?_))
 · refine ⟨i + 1, ⟨by omega, all_take (by assumption) hi.2 ?_⟩, by omega, hasOf ⟨rfl, trivial⟩ rfl⟩
   clear hi
   simp_all [MConf.ok]
 intro h9
 try rw [nnp] at h9
 try rw [hL] at h9
 refine s_gF rfl (s_gF rfl (s_gF rfl (s_gN rfl (s_gN rfl (s_gN rfl (s_gN rfl (s_gN rfl (s_keepO (is := [1, 3, 5, 6, 39, 40, 41, 42, 43, 44, 45, 46, 47, 48, 49, 50, 51, 53, 54, 55, 56, 57, 58, 59, 60, 61]) rfl ?_))))))))
 iterate 10 refine s_gN rfl ?_
 refine s_gF rfl (Ea (o_pickT rfl rfl) (Ed (Ec (Eb [1, 3, 5, 39, 40, 41, 42, 43, 44, 45, 46, 47, 48, 49, 50, 51, 54, 55, 56, 57, 58, 59, 60, 61, 62, 63, 64, 65, 66, 67, 68, 69, 70, 71, 72, 73] rfl (s_condT rfl (Ee (Eg (Ea (Ef rfl) (Ed (Ec (Eb [2] rfl ?_)))))))))))
 refine s_ret (q_blkR (q_seqR (q_loopR (q_blkR (q_seqR (Eh rfl rfl ?_))))))
 rotate_left
 intro h8
 try rw [nnp] at h8
 try rw [hL] at h8
 refine s_gF rfl (s_keepO (is := [1, 3, 5, 6, 38, 39, 40, 41, 42, 43, 44, 45, 46, 47]) rfl (s_gF rfl (s_gF rfl (s_gT rfl (Ea (o_pickT rfl rfl) (s_gT rfl (Ea (o_pickT rfl rfl) (Ea (o_pickF rfl rfl) (Ea (Ef rfl) (s_gF rfl (s_gF rfl ?_)))))))))))
 refine s_gF rfl (s_gN rfl (s_gN rfl (s_gN rfl (s_gN rfl (s_gN rfl (s_keepO (is := [1, 3, 5, 6, 39, 40, 41, 42, 43, 44, 45, 46, 47, 48, 49, 50, 51, 53, 54, 55, 56, 57, 58, 59, 60, 61]) rfl ?_))))))
 iterate 10 refine s_gN rfl ?_
 refine s_gF rfl (Ea (o_pickT rfl rfl) (Ed (Ec (Eb [1, 3, 5, 39, 40, 41, 42, 43, 44, 45, 46, 47, 48, 49, 50, 51, 54, 55, 56, 57, 58, 59, 60, 61, 62, 63, 64, 65, 66, 67, 68, 69, 70, 71, 72, 73] rfl (s_condT rfl (Ee (Eg (Ea (Ef rfl) (Ed (Ec (Eb [2] rfl ?_)))))))))))
 refine s_ret (q_blkR (q_seqR (q_loopR (q_blkR (q_seqR (Eh rfl rfl ?_))))))
 rotate_left
 intro h7
 try rw [nnp] at h7
 try rw [hL] at h7
 refine s_gF rfl (s_gF rfl (s_gF rfl (s_gF rfl (s_gN rfl (s_keepO (is := [1, 3, 5, 6, 38, 39, 40, 41, 42, 43, 44, 45, 46, 47]) rfl (s_gN rfl (s_gN rfl (s_gF rfl (s_gT rfl (Ea (o_pickF rfl rfl) (Ea (o_pickF rfl rfl) ?_)))))))))))
 refine Ea (Ef rfl) (s_gT rfl (Ea (Ei rfl) (s_gT rfl (Ea (o_ldC rfl rfl rfl) (s_gT rfl (Ea (Ef rfl) ?_))))))
 first | refine s_gDT rfl ?_ ?_ | refine s_gNDT rfl ?_ ?_ | refine s_gNT rfl ?_ ?_ | refine s_gB rfl ?_ ?_
 intro h13
 try rw [nnp] at h13
 try rw [hL] at h13
 refine Ea (Ei rfl) (s_gT rfl (Ea (o_ldC rfl rfl rfl) (s_gT rfl (Ea (Ef rfl) (s_gT rfl (Ea (o_mul rfl rfl) (s_gT rfl (Ea (o_ldnC rfl rfl rfl) (s_keepO (is := [1, 3, 5, 6, 39, 40, 41, 42, 43, 44, 45, 46, 47, 48, 49, 50, 51, 53, 54, 55, 56, 57, 58, 59, 60, 61]) rfl (s_gT rfl ?_))))))))))
 first | refine s_call rfl rfl (c_214 ..) ?_ | refine s_callL rfl rfl (by simp) (c_214 ..) rfl ?_
 refine s_gT rfl (Ea (o_mul rfl rfl) (s_gT rfl ?_))
 first | refine s_call rfl rfl (c_230 ..) ?_ | refine s_callL rfl rfl (by simp) (c_230 ..) rfl ?_
 refine s_gT rfl (Ea (o_not rfl) (s_gT rfl (Ea (Ef rfl) ?_)))
 first | refine s_gDF rfl ?_ ?_ | refine s_gNDF rfl ?_ ?_ | refine s_gNF rfl ?_ ?_ | refine s_gB rfl ?_ ?_
 intro h14
 try rw [nnp] at h14
 try rw [hL] at h14
 refine Ea (Ei rfl) (s_gT rfl (Ea (o_ldC rfl rfl rfl) (s_gT rfl ?_)))
 first | refine s_call rfl rfl (c_230 ..) ?_ | refine s_callL rfl rfl (by simp) (c_230 ..) rfl ?_
 refine s_gT rfl (Ea (o_not rfl) (s_gT rfl (Ea (o_pickF rfl rfl) (s_gT rfl (Ea (o_pickT rfl rfl) (Ea (o_pickF rfl rfl) (Ed (Ec (Eb [1, 3, 5, 39, 40, 41, 42, 43, 44, 45, 46, 47, 48, 49, 50, 51, 54, 55, 56, 57, 58, 59, 60, 61, 62, 63, 64, 65, 66, 67, 68, 69, 70, 71, 72, 73] rfl ?_)))))))))
 first | refine s_condD rfl ?_ ?_ | refine s_condN rfl ?_ ?_ | refine s_condNB rfl ?_ ?_ | refine s_condB rfl ?_ ?_
 intro h15
 try rw [nnp] at h15
 try rw [hL] at h15
 refine Ee (Eg (Ea (Ef rfl) (Ed (Ec (Eb [2] rfl (s_ret (q_blkR (q_seqR (q_loopR (q_blkR (q_seqR ?_)))))))))))
 refine Eh rfl rfl ?_
 rotate_left
 intro h15
 try rw [nnp] at h15
 try rw [hL] at h15
 refine s_skip (q_blkN (Ec (Eb [1, 3, 5, 39, 40, 41, 42, 43, 44, 45, 46, 47, 48, 49, 50, 51, 54, 55, 56, 57, 58, 59, 60, 61, 62, 63, 64, 65, 66, 67, 68, 69, 70, 71, 72] rfl (Eg (Ea (Ef rfl) ?_)))))
 first | refine Ea (o_addn rfl rfl (by omega)) ?_ | refine Ea (o_add rfl rfl) ?_
 refine Ea (Ef rfl) (Ed (q_loopN ?_))
 · refine ⟨i + 1, ⟨by omega, all_take (by assumption) hi.2 ?_⟩, by omega, hasOf ⟨rfl, trivial⟩ rfl⟩
   clear hi
   simp_all [MConf.ok]
 intro h14
 try rw [nnp] at h14
 try rw [hL] at h14
 refine s_gF rfl (s_gF rfl (s_gF rfl (s_gF rfl (s_gT rfl (Ea (o_pickT rfl rfl) (s_gT rfl (Ea (o_pickT rfl rfl) (Ea (o_pickF rfl rfl) (Ed (Ec (Eb [1, 3, 5, 39, 40, 41, 42, 43, 44, 45, 46, 47, 48, 49, 50, 51, 54, 55, 56, 57, 58, 59, 60, 61, 62, 63, 64, 65, 66, 67, 68, 69, 70, 71, 72, 73] rfl ?_)))))))))))
 refine s_condT rfl (Ee (Eg (Ea (Ef rfl) (Ed (Ec (Eb [2] rfl (s_ret (q_blkR (q_seqR (q_loopR (q_blkR ?_)))))))))))
 refine q_seqR (Eh rfl rfl ?_)
 rotate_left
 intro h13
 try rw [nnp] at h13
 try rw [hL] at h13
 refine s_gF rfl (s_gF rfl (s_gF rfl (s_gF rfl (s_gF rfl (s_keepO (is := [1, 3, 5, 6, 39, 40, 41, 42, 43, 44, 45, 46, 47, 48, 49, 50, 51, 53, 54, 55, 56, 57, 58, 59, 60, 61]) rfl (s_gF rfl (s_gF rfl (s_gF rfl (s_gF rfl (s_gF rfl (s_gN rfl ?_)))))))))))
 refine s_gN rfl (s_gN rfl (s_gN rfl (s_gF rfl (s_gT rfl (Ea (o_pickF rfl rfl) (Ea (o_pickF rfl rfl) (Ed (Ec (Eb [1, 3, 5, 39, 40, 41, 42, 43, 44, 45, 46, 47, 48, 49, 50, 51, 54, 55, 56, 57, 58, 59, 60, 61, 62, 63, 64, 65, 66, 67, 68, 69, 70, 71, 72, 73] rfl (s_condF rfl (s_skip ?_)))))))))))
 refine q_blkN (Ec (Eb [1, 3, 5, 39, 40, 41, 42, 43, 44, 45, 46, 47, 48, 49, 50, 51, 54, 55, 56, 57, 58, 59, 60, 61, 62, 63, 64, 65, 66, 67, 68, 69, 70, 71, 72] rfl (Eg (Ea (Ef rfl) ?_))))
 first | refine Ea (o_addn rfl rfl (by omega)) ?_ | refine Ea (o_add rfl rfl) ?_
 refine Ea (Ef rfl) (Ed (q_loopN ?_))
 · refine ⟨i + 1, ⟨by omega, all_take (by assumption) hi.2 ?_⟩, by omega, hasOf ⟨rfl, trivial⟩ rfl⟩
   clear hi
   simp_all [MConf.ok]
 intro h6
 try rw [nnp] at h6
 try rw [hL] at h6
 refine s_gF rfl (s_gF rfl (s_gF rfl (s_gF rfl (s_gN rfl (s_gN rfl (s_gN rfl (s_gN rfl (s_gN rfl (s_keepO (is := [1, 3, 5, 6, 38, 39, 40, 41, 42, 43, 44, 45, 46, 47]) rfl (s_gN rfl (s_gN rfl ?_)))))))))))
 refine s_gN rfl (s_gF rfl (Ea (o_pickT rfl rfl) (Ea (Ef rfl) (s_gF rfl (s_gF rfl (s_gF rfl (s_gN rfl (s_gN rfl (s_gN rfl (s_gN rfl (s_gN rfl ?_)))))))))))
 refine s_keepO (is := [1, 3, 5, 6, 39, 40, 41, 42, 43, 44, 45, 46, 47, 48, 49, 50, 51, 53, 54, 55, 56, 57, 58, 59, 60, 61]) rfl ?_
 iterate 10 refine s_gN rfl ?_
 refine s_gF rfl (Ea (o_pickT rfl rfl) (Ed (Ec (Eb [1, 3, 5, 39, 40, 41, 42, 43, 44, 45, 46, 47, 48, 49, 50, 51, 54, 55, 56, 57, 58, 59, 60, 61, 62, 63, 64, 65, 66, 67, 68, 69, 70, 71, 72, 73] rfl (s_condT rfl (Ee (Eg (Ea (Ef rfl) (Ed (Ec (Eb [2] rfl ?_)))))))))))
 refine s_ret (q_blkR (q_seqR (q_loopR (q_blkR (q_seqR (Eh rfl rfl ?_))))))
 rotate_left
 intro h4
 try rw [nnp] at h4
 try rw [hL] at h4
 refine s_exit (q_seqX (q_loopX (q_blkH (Ec (Eb [1] rfl (Ee (Eg (Ea (Ei rfl) (Ea (o_ldC rfl rfl rfl) ?_)))))))))
 first | refine Ea (o_lenM rfl) ?_ | refine Ea (o_len rfl) ?_ | refine Ea (o_lenL rfl rfl rfl) ?_ | refine Ea (o_lenN rfl) ?_
 refine s_call rfl rfl (c_230 ..) (Ea (Ef rfl) ?_)
 first | refine s_gDT rfl ?_ ?_ | refine s_gNDT rfl ?_ ?_ | refine s_gNT rfl ?_ ?_ | refine s_gB rfl ?_ ?_
 intro h16
 try rw [nnp] at h16
 try rw [hL] at h16
 refine Ea (o_ldnC rfl rfl rfl) (s_gT rfl ?_)
 first | refine s_call rfl rfl (c_245 ..) ?_ | refine s_callL rfl rfl (by simp) (c_245 ..) rfl ?_
 refine Ea (o_pickT rfl rfl) (Ea (Ef rfl) (Ed (Ec (Eb [2] rfl (s_ret (Eh rfl rfl ?_))))))
 rotate_left
 intro h16
 try rw [nnp] at h16
 try rw [hL] at h16
 refine s_gF rfl (s_gF rfl (Ea (o_pickF rfl rfl) (Ea (Ef rfl) (Ed (Ec (Eb [2] rfl (s_ret (Eh rfl rfl ?_))))))))
 rotate_left
 all_goals
  first | (refine ok_no (by assumption) ?_; clear hi; simp_all [MConf.ok]; done) | (rw [ok_is (all_end hi.2 (by omega))]; clear hi; simp_all; done)
def Conf.small (x : Conf) : Prop := x.masters.length ≤ 1048576
def Conf.sz (x : Conf) : Nat := x.masters.length
theorem Conf.small_of {x : Conf} (h : x.sz ≤ 1048576) : x.small := by unfold Conf.small; unfold Conf.sz at h; omega
theorem c_133 (x y : MConf) : CV prg 133 [.agg x.r, .agg y.r] (fun res => res = .w (.bool (decide (x = y)))) := by
 refine cv_in g133 (Eb [0, 1] rfl (Ee (Eg (Ea (o_box rfl rfl rfl) (Ea (o_box rfl rfl rfl) (Ea (Ef rfl) (Ed (Ec (Eb [2, 3] rfl (Ee (Ee ?_)))))))))))
 refine Eg (Ea (Ei rfl) (Ea (o_ldC rfl rfl rfl) (Ea (Ei rfl) (Ea (o_ldC rfl rfl rfl) (Ea (o_neq rfl rfl) (Ed (Ec (Eb [2, 3, 9] rfl ?_))))))))
 first | refine s_condD rfl ?_ ?_ | refine s_condB rfl ?_ ?_
 intro h1
 try rw [nnp] at h1
 refine Ee (Eg (Ea (Ef rfl) (Ed (Ec (Eb [4] rfl (s_ret (q_seqR (Eh rfl rfl ?_))))))))
 rotate_left
 intro h1
 try rw [nnp] at h1
 refine s_skip (Ec (Eb [2, 3] rfl (Ee (Ee (Eg (Ea (Ei rfl) (Ea (o_ldC rfl rfl rfl) (Ea (Ei rfl) (Ea (o_ldC rfl rfl rfl) (Ea (o_eqb rfl rfl) (Ed ?_)))))))))))
 refine Ec (Eb [2, 3, 14] rfl ?_)
 first | refine s_condNB rfl ?_ ?_ | refine s_condB rfl ?_ ?_
 intro h2
 try rw [nnp] at h2
 refine Ee (Eg (Ea (Ef rfl) (Ed (Ec (Eb [4] rfl (s_ret (q_seqR (Eh rfl rfl ?_))))))))
 rotate_left
 intro h2
 try rw [nnp] at h2
 refine s_skip (Ec (Eb [2, 3] rfl (Ee (Ee (Eg (Ea (Ei rfl) (Ea (o_ldC rfl rfl rfl) (Ea (Ei rfl) (Ea (o_ldC rfl rfl rfl) (Ea (o_neq rfl rfl) (Ed ?_)))))))))))
 refine Ec (Eb [2, 3, 19] rfl ?_)
 first | refine s_condD rfl ?_ ?_ | refine s_condB rfl ?_ ?_
 intro h3
 try rw [nnp] at h3
 refine Ee (Eg (Ea (Ef rfl) (Ed (Ec (Eb [4] rfl (s_ret (q_seqR (Eh rfl rfl ?_))))))))
 rotate_left
 intro h3
 try rw [nnp] at h3
 refine s_skip (Ec (Eb [2, 3] rfl (Ee (Ee (Eg (Ea (Ei rfl) (Ea (o_ldC rfl rfl rfl) (Ea (Ei rfl) (Ea (o_ldC rfl rfl rfl) (Ea (o_neq rfl rfl) (Ed ?_)))))))))))
 refine Ec (Eb [24] rfl ?_)
 first | refine s_condD rfl ?_ ?_ | refine s_condB rfl ?_ ?_
 intro h4
 try rw [nnp] at h4
 refine Ee (Eg (Ea (Ef rfl) (Ed (Ec (Eb [4] rfl (s_ret (q_seqR (Eh rfl rfl ?_))))))))
 rotate_left
 intro h4
 try rw [nnp] at h4
 refine s_skip (Ec (Eb [] rfl (Ee (Eg (Ea (Ef rfl) (Ed (Ec (Eb [4] rfl (s_ret (Eh rfl rfl ?_))))))))))
 rotate_left
 all_goals
  cases x; cases y; simp_all
theorem c_134 (xs ys : List MConf) (hl : xs.length ≤ 1048576) : CV prg 134 [.sl 4 (xs.map MConf.r), .sl 4 (ys.map MConf.r)] (fun res => res = .w (.bool (decide (xs = ys)))) := by
 refine cv_in g134 (Eb [0, 1] rfl (Ee (Eg (Ea (Ef rfl) (Ed (Ec (Eb [0, 1] rfl (Ee (Ee (Eg (Ea (Ef rfl) ?_)))))))))))
 first | refine Ea (o_lenM rfl) ?_ | refine Ea (o_len rfl) ?_
 refine Ea (Ef rfl) ?_
 first | refine Ea (o_lenM rfl) ?_ | refine Ea (o_len rfl) ?_
 refine Ea (o_neq rfl rfl) (Ed (Ec (Eb [0, 1, 10] rfl ?_)))
 first | refine s_condD rfl ?_ ?_ | refine s_condB rfl ?_ ?_
 intro h1
 try rw [nnp] at h1
 refine Ee (Eg (Ea (Ef rfl) (Ed (Ec (Eb [4] rfl (s_ret (q_seqR (Eh rfl rfl ?_))))))))
 rotate_left
 intro h1
 try rw [nnp] at h1
 refine s_skip (Ec (Eb [0, 1] rfl (Ee (Ee (Eg (Ea (Ef rfl) (Ed (Ec (Eb [0, 1, 5] rfl (S_block (S_loop0 (ι := Nat) (fun i => i ≤ xs.length ∧ xs.take i = ys.take i ∧ xs.length = ys.length) (fun i => [(5, .w (.int .i64 (i : Int)))]) (fun i => xs.length - i) 0 ⟨by simp, by simp, by omega⟩ rfl ⟨rfl, trivial⟩ (fun _ _ => rfl) rfl ?_)))))))))))
 intro i hi
 refine Eb [0, 1, 5] rfl (Ee (Ee (Eg (Ea (Ef rfl) (Ea (Ef rfl) ?_)))))
 first | refine Ea (o_lenM rfl) ?_ | refine Ea (o_len rfl) ?_
 refine Ea (o_lss rfl rfl) (Ed (Ec (Eb [0, 1, 5, 14] rfl ?_)))
 first | refine s_condD rfl ?_ ?_ | refine s_condB rfl ?_ ?_
 intro h2
 try rw [nnp] at h2
 refine s_skip (Ec (Eb [0, 1, 5] rfl (Ee (S_block (Ee (Eg (Ea (Ef rfl) (Ea (Ef rfl) (s_iaM rfl rfl (by omega) ?_)))))))))
 intro y3 e3
 try simp only [Int.toNat_natCast, Int.toNat_zero] at e3
 refine Ea (o_ldn rfl rfl) (Ea (Ef rfl) (Ea (Ef rfl) (s_iaM rfl rfl (by omega) ?_)))
 intro y4 e4
 try simp only [Int.toNat_natCast, Int.toNat_zero] at e4
 refine Ea (o_ldn rfl rfl) ?_
 first | refine s_call rfl rfl (c_133 _ _) ?_ | refine s_callL rfl rfl (by simp) (c_133 _ _) rfl ?_
 refine Ea (o_not rfl) (Ed (Ec (Eb [0, 1, 5, 26] rfl ?_)))
 first | refine s_condD rfl ?_ ?_ | refine s_condN rfl ?_ ?_ | refine s_condNB rfl ?_ ?_ | refine s_condB rfl ?_ ?_
 intro h5
 try rw [nnp] at h5
 refine Ee (Eg (Ea (Ef rfl) (Ed (Ec (Eb [4] rfl (s_ret (q_blkR (q_seqR (q_loopR (q_blkR (q_seqR ?_)))))))))))
 refine Eh rfl rfl ?_
 rotate_left
 intro h5
 try rw [nnp] at h5
 refine s_skip (q_blkN (Ec (Eb [0, 1, 5] rfl (Eg (Ea (Ef rfl) ?_)))))
 first | refine Ea (o_addn rfl rfl (by omega)) ?_ | refine Ea (o_add rfl rfl) ?_
 refine Ea (Ef rfl) (Ed (q_loopN ?_))
 · refine ⟨i + 1, ⟨by omega, eq_take (by assumption) (by assumption) hi.2.1 ?_, hi.2.2⟩, by omega, hasOf ⟨rfl, trivial⟩ rfl⟩
   assumption
 intro h2
 try rw [nnp] at h2
 refine s_exit (q_seqX (q_loopX (q_blkH (Ec (Eb [] rfl (Ee (Eg (Ea (Ef rfl) (Ed (Ec (Eb [4] rfl ?_)))))))))))
 refine s_ret (Eh rfl rfl ?_)
 rotate_left
 all_goals
  first | exact (decide_eq_false (ne_at (by assumption) (by assumption) (by assumption))).symm | exact (decide_eq_true (eq_end hi.2.1 (by omega) hi.2.2)).symm | exact (decide_eq_false (fun e => by subst e; simp_all)).symm
theorem c_128 (x y : Conf) (hs : x.small) : CV prg 128 [.agg x.r, .agg y.r] (fun res => res = .w (.bool (decide (x = y)))) := by
 refine cv_in g128 (Eb [0, 1] rfl (Ee (Eg (Ea (o_box rfl rfl rfl) (Ea (o_box rfl rfl rfl) (Ea (Ef rfl) (Ed (Ec (Eb [2, 3] rfl (Ee (Ee ?_)))))))))))
 refine Eg (Ea (Ei rfl) (Ea (o_ldC rfl rfl rfl) (Ea (Ei rfl) (Ea (o_ldC rfl rfl rfl) ?_))))
 first | refine s_call rfl rfl (c_134 _ _ hs) ?_ | refine s_callL rfl rfl (by simp) (c_134 _ _ hs) rfl ?_
 refine Ea (o_not rfl) (Ed (Ec (Eb [2, 3, 10] rfl ?_)))
 first | refine s_condD rfl ?_ ?_ | refine s_condN rfl ?_ ?_ | refine s_condNB rfl ?_ ?_ | refine s_condB rfl ?_ ?_
 intro h1
 try rw [nnp] at h1
 refine Ee (Eg (Ea (Ef rfl) (Ed (Ec (Eb [4] rfl (s_ret (q_seqR (Eh rfl rfl ?_))))))))
 rotate_left
 intro h1
 try rw [nnp] at h1
 refine s_skip (Ec (Eb [2, 3] rfl (Ee (Ee (Eg (Ea (Ei rfl) (Ea (o_ldC rfl rfl rfl) (Ea (Ei rfl) (Ea (o_ldC rfl rfl rfl) (Ea (o_neq rfl rfl) (Ed ?_)))))))))))
 refine Ec (Eb [2, 3, 15] rfl ?_)
 first | refine s_condD rfl ?_ ?_ | refine s_condB rfl ?_ ?_
 intro h2
 try rw [nnp] at h2
 refine Ee (Eg (Ea (Ef rfl) (Ed (Ec (Eb [4] rfl (s_ret (q_seqR (Eh rfl rfl ?_))))))))
 rotate_left
 intro h2
 try rw [nnp] at h2
 refine s_skip (Ec (Eb [2, 3] rfl (Ee (Ee (Eg (Ea (Ei rfl) (Ea (o_ldC rfl rfl rfl) (Ea (Ei rfl) (Ea (o_ldC rfl rfl rfl) (Ea (o_neq rfl rfl) (Ed ?_)))))))))))
 refine Ec (Eb [2, 3, 20] rfl ?_)
 first | refine s_condD rfl ?_ ?_ | refine s_condB rfl ?_ ?_
 intro h3
 try rw [nnp] at h3
 refine Ee (Eg (Ea (Ef rfl) (Ed (Ec (Eb [4] rfl (s_ret (q_seqR (Eh rfl rfl ?_))))))))
 rotate_left
 intro h3
 try rw [nnp] at h3
 refine s_skip (Ec (Eb [2, 3] rfl (Ee (Ee (Eg (Ea (Ei rfl) (Ea (o_ldC rfl rfl rfl) (Ea (Ei rfl) (Ea (o_ldC rfl rfl rfl) (Ea (o_neq rfl rfl) (Ed ?_)))))))))))
 refine Ec (Eb [2, 3, 25] rfl ?_)
 first | refine s_condD rfl ?_ ?_ | refine s_condB rfl ?_ ?_
 intro h4
 try rw [nnp] at h4
 refine Ee (Eg (Ea (Ef rfl) (Ed (Ec (Eb [4] rfl (s_ret (q_seqR (Eh rfl rfl ?_))))))))
 rotate_left
 intro h4
 try rw [nnp] at h4
 refine s_skip (Ec (Eb [2, 3] rfl (Ee (Ee (Eg (Ea (Ei rfl) (Ea (o_ldC rfl rfl rfl) (Ea (Ei rfl) (Ea (o_ldC rfl rfl rfl) (Ea (o_neq rfl rfl) (Ed ?_)))))))))))
 refine Ec (Eb [2, 3, 30] rfl ?_)
 first | refine s_condD rfl ?_ ?_ | refine s_condB rfl ?_ ?_
 intro h5
 try rw [nnp] at h5
 refine Ee (Eg (Ea (Ef rfl) (Ed (Ec (Eb [4] rfl (s_ret (q_seqR (Eh rfl rfl ?_))))))))
 rotate_left
 intro h5
 try rw [nnp] at h5
 refine s_skip (Ec (Eb [2, 3] rfl (Ee (Ee (Eg (Ea (Ei rfl) (Ea (o_ldC rfl rfl rfl) (Ea (Ei rfl) (Ea (o_ldC rfl rfl rfl) (Ea (o_neq rfl rfl) (Ed ?_)))))))))))
 refine Ec (Eb [35] rfl ?_)
 first | refine s_condD rfl ?_ ?_ | refine s_condB rfl ?_ ?_
 intro h6
 try rw [nnp] at h6
 refine Ee (Eg (Ea (Ef rfl) (Ed (Ec (Eb [4] rfl (s_ret (q_seqR (Eh rfl rfl ?_))))))))
 rotate_left
 intro h6
 try rw [nnp] at h6
 refine s_skip (Ec (Eb [] rfl (Ee (Eg (Ea (Ef rfl) (Ed (Ec (Eb [4] rfl (s_ret (Eh rfl rfl ?_))))))))))
 rotate_left
 all_goals
  cases x; cases y; simp_all
theorem c_164 (x : MConf) : CV prg 164 [.agg x.r] (fun res => res = .agg x.r) := by
 refine cv_in g164 (Eb [0] rfl (Ee (Eg (Ea (o_box rfl rfl rfl) (Ea (o_new rfl rfl) (Ed (Ec (Eb [1, 2] rfl (Ee (Eg (Ea (o_new rfl rfl) ?_)))))))))))
 refine Ed (Ec (Eb [1, 2, 3] rfl (Ee (Eg (Ea (Ei rfl) (Ea (o_ldC rfl rfl rfl) (Ea (Ei rfl) (s_opN (o_stC rfl rfl rfl rfl rfl rfl) (Ed (Ec (Eb [1, 2, 3] rfl ?_)))))))))))
 refine Ee (Eg (Ea (Ei rfl) (Ea (o_ldC rfl rfl rfl) (Ea (Ei rfl) (s_opN (o_stC rfl rfl rfl rfl rfl rfl) (Ed (Ec (Eb [1, 2, 3] rfl (Ee (Eg (Ea (Ei rfl) ?_)))))))))))
 refine Ea (o_ldC rfl rfl rfl) (Ea (Ei rfl) (s_opN (o_stC rfl rfl rfl rfl rfl rfl) (Ed (Ec (Eb [1, 2, 3] rfl (Ee (Eg (Ea (Ei rfl) (Ea (o_ldC rfl rfl rfl) (Ea (Ei rfl) (s_opN (o_stC rfl rfl rfl rfl rfl rfl) ?_)))))))))))
 refine Ed (Ec (Eb [2, 3] rfl (Ee (Eg (Ea (o_ldnC rfl rfl rfl) (s_opN (o_stnC rfl rfl rfl rfl rfl rfl rfl) (Ed (Ec (Eb [2] rfl (s_ret (ret_leafR rfl rfl ?_)))))))))))
 rotate_left
 all_goals
  rfl
theorem c_165 (xs : List MConf) (hl : xs.length ≤ 1048576) : CV prg 165 [.sl 4 (xs.map MConf.r)] (fun res => res = .sl 4 (xs.map MConf.r)) := by
 refine cv_in g165 (Eb [0] rfl (Ee (Eg (Ea (Ef rfl) (Ed (Ec (Eb [0] rfl (Ee (Eg (Ea (Ef rfl) ?_))))))))))
 first | refine Ea (o_lenM rfl) ?_ | refine Ea (o_len rfl) ?_
 refine Ea (o_mk rfl rfl rfl rfl ⟨by omega, by unfold roomy; omega, by unfold roomy; omega⟩ rfl) (Ea (Ef rfl) (Ed (Ec (Eb [0, 3] rfl (Ee (Ee (Eg (Ea (Ef rfl) (Ed (Ec (Eb [0, 3, 4] rfl ?_)))))))))))
 refine S_block (S_loop (ι := Nat) (fun i => i ≤ xs.length) (fun i => [(4, .w (.int .i64 (i : Int)))]) (fun i => [.arr 4 (tabV MConf.r [.w (.int .i64 0), .w (.bool false), .w (.int .i64 0), .w (.int .i64 0)] xs i)]) (fun i => xs.length - i) 1 0 (by simp) rfl (hasOf ⟨rfl, trivial⟩ (by rw [tabV_zero]; rfl)) rfl (fun _ _ => rfl) (fun _ _ => ⟨rfl, rfl⟩) ?_)
 intro i hi
 refine Eb [0, 3, 4] rfl (Ee (Ee (Eg (Ea (Ef rfl) (Ea (Ef rfl) ?_)))))
 first | refine Ea (o_lenM rfl) ?_ | refine Ea (o_len rfl) ?_
 refine Ea (o_lss rfl rfl) (Ed (Ec (Eb [0, 3, 4, 11] rfl ?_)))
 first | refine s_condD rfl ?_ ?_ | refine s_condB rfl ?_ ?_
 intro h1
 try rw [nnp] at h1
 refine s_skip (Ec (Eb [0, 3, 4] rfl (Ee (S_block (Eg (Ea (Ef rfl) (Ea (Ef rfl) (Ea (Ef rfl) (Ea (Ef rfl) (s_iaM rfl rfl (by first | omega | (rw [List.length_replicate]; omega)) ?_))))))))))
 intro y2 e2
 try simp only [Int.toNat_natCast, Int.toNat_zero] at e2
 refine Ea (o_ldn rfl rfl) ?_
 first | refine s_call rfl rfl (c_164 _) ?_ | refine s_callL rfl rfl (by simp) (c_164 _) rfl ?_
 refine Ea (o_iaL rfl rfl (by rw [tabV_len _ _ _ _ (by omega), List.length_replicate]; rfl) rfl (by first | omega | (rw [List.length_replicate]; omega))) (s_opN (o_stnA rfl rfl rfl rfl rfl (by rw [tabV_len _ _ _ _ (by omega), List.length_replicate]; rfl) (by rw [Int.toNat_natCast]; exact tabV_at _ _ (by omega)) rfl rfl) (Ed (q_blkN (Ec (Eb [0, 3, 4] rfl (Eg (Ea (Ef rfl) ?_)))))))
 first | refine Ea (o_addn rfl rfl (by omega)) ?_ | refine Ea (o_add rfl rfl) ?_
 refine Ea (Ef rfl) (Ed (q_loopN ?_))
 · refine ⟨i + 1, by omega, by omega, hasOf ⟨rfl, trivial⟩ ?_⟩
   rw [← tabV_set MConf.r [.w (.int .i64 0), .w (.bool false), .w (.int .i64 0), .w (.int .i64 0)] (by assumption)]; rfl
 intro h1
 try rw [nnp] at h1
 refine s_exit (q_seqX (q_loopX (q_blkH (Ec (Eb [3] rfl (Ee (Eg (Ea (Ef rfl) (Ea (Ef rfl) (Ed (Ec ?_)))))))))))
 refine Eb [2] rfl (s_ret (ret_leafA (.inr rfl) rfl rfl (by rw [tabV_len _ _ _ _ (by omega), List.length_replicate]; rfl) ?_))
 rotate_left
 all_goals
  rw [tabV_end _ _ _ (by omega)]
theorem c_159 (x : Conf) (hs : x.small) : CV prg 159 [.agg x.r] (fun res => res = .agg x.r) := by
 refine cv_in g159 (Eb [0] rfl (Ee (Eg (Ea (o_box rfl rfl rfl) (Ea (o_new rfl rfl) (Ed (Ec (Eb [1, 2] rfl (Ee (Eg (Ea (o_new rfl rfl) ?_)))))))))))
 refine Ed (Ec (Eb [1, 2, 3] rfl (Ee (Eg (Ea (Ei rfl) (Ea (o_ldC rfl rfl rfl) ?_))))))
 first | refine s_call rfl rfl (c_165 _ hs) ?_ | refine s_callL rfl rfl (by simp) (c_165 _ hs) rfl ?_
 refine Ea (Ei rfl) (s_opN (o_stC rfl rfl rfl rfl rfl rfl) (Ed (Ec (Eb [1, 2, 3] rfl (Ee (Eg (Ea (Ei rfl) (Ea (o_ldC rfl rfl rfl) (Ea (Ei rfl) (s_opN (o_stC rfl rfl rfl rfl rfl rfl) (Ed ?_)))))))))))
 refine Ec (Eb [1, 2, 3] rfl (Ee (Eg (Ea (Ei rfl) (Ea (o_ldC rfl rfl rfl) (Ea (Ei rfl) (s_opN (o_stC rfl rfl rfl rfl rfl rfl) (Ed (Ec (Eb [1, 2, 3] rfl (Ee ?_)))))))))))
 refine Eg (Ea (Ei rfl) (Ea (o_ldC rfl rfl rfl) (Ea (Ei rfl) (s_opN (o_stC rfl rfl rfl rfl rfl rfl) (Ed (Ec (Eb [1, 2, 3] rfl (Ee (Eg (Ea (Ei rfl) (Ea (o_ldC rfl rfl rfl) ?_)))))))))))
 refine Ea (Ei rfl) (s_opN (o_stC rfl rfl rfl rfl rfl rfl) (Ed (Ec (Eb [1, 2, 3] rfl (Ee (Eg (Ea (Ei rfl) (Ea (o_ldC rfl rfl rfl) (Ea (Ei rfl) (s_opN (o_stC rfl rfl rfl rfl rfl rfl) (Ed ?_)))))))))))
 refine Ec (Eb [2, 3] rfl (Ee (Eg (Ea (o_ldnC rfl rfl rfl) (s_opN (o_stnC rfl rfl rfl rfl rfl rfl rfl) (Ed (Ec (Eb [2] rfl (s_ret (ret_leafR rfl rfl ?_))))))))))
 rotate_left
 all_goals
  rfl
theorem c_149 (xs : List MConf) (left : Int) (h : -1 ≤ left ∧ left ≤ 1048576) (hl : xs.length ≤ 140737488355328) : CV prg 149 [.sl 4 (xs.map MConf.r), .w (.int .i64 left)] (fun res => res = .w (.int .i64 (room left xs.length))) := by
 refine cv_in g149 (Eb [0, 1] rfl (Ee (Eg (Ea (Ef rfl) (Ed (Ec (Eb [0, 1] rfl (Ee (Eg (Ea (Ef rfl) (Ea (Ef rfl) ?_)))))))))))
 first | refine Ea (o_lenM rfl) ?_ | refine Ea (o_len rfl) ?_
 first | refine Ea (o_subn rfl rfl (by omega)) ?_ | refine Ea (o_sub rfl rfl) ?_
 refine Ea (Ef rfl) (Ed (Ec (Eb [1] rfl (Ee (Ee (Eg (Ea (Ef rfl) (Ea (o_lss rfl rfl) (Ed (Ec (Eb [1, 10] rfl ?_)))))))))))
 first | refine s_condD rfl ?_ ?_ | refine s_condB rfl ?_ ?_
 intro h1
 try rw [nnp] at h1
 refine Ee (Eg (Ea (Ef rfl) (Ed (Ec (Eb [4] rfl (s_ret (q_seqR (ret_leafIR rfl rfl ?_))))))))
 rotate_left
 intro h1
 try rw [nnp] at h1
 refine s_skip (Ec (Eb [1] rfl (Ee (Eg (Ea (Ef rfl) (Ea (Ef rfl) (Ed (Ec (Eb [4] rfl (s_ret (ret_leafIR rfl rfl ?_)))))))))))
 rotate_left
 all_goals
  (try unfold room); omega
theorem c_145 (x : Conf) (left : Int) (h : -1 ≤ left ∧ left ≤ 1048576) (hw : x.wf) : CV prg 145 [.agg x.r, .w (.int .i64 left)] (fun res => res = .w (.int .i64 (room left x.sz))) := by
 refine cv_in g145 (Eb [0, 1] rfl (Ee (Eg (Ea (o_box rfl rfl rfl) (Ea (Ef rfl) (Ed (Ec (Eb [1, 2] rfl (Ee (Eg (Ea (Ei rfl) ?_)))))))))))
 refine Ea (o_ldC rfl rfl rfl) (Ea (Ef rfl) ?_)
 first | refine s_call rfl rfl (c_149 _ _ (by (try unfold room at *); omega) hw.1.1) ?_ | refine s_callL rfl rfl (by simp) (c_149 _ _ (by (try unfold room at *); omega) hw.1.1) rfl ?_
 refine Ea (Ef rfl) (Ed (Ec (Eb [1] rfl (Ee (Ee (Eg (Ea (Ef rfl) (Ea (o_lss rfl rfl) (Ed (Ec (Eb [1, 10] rfl ?_)))))))))))
 first | refine s_condD rfl ?_ ?_ | refine s_condB rfl ?_ ?_
 intro h1
 try rw [nnp] at h1
 refine Ee (Eg (Ea (Ef rfl) (Ed (Ec (Eb [4] rfl (s_ret (q_seqR (ret_leafIR rfl rfl ?_))))))))
 rotate_left
 intro h1
 try rw [nnp] at h1
 refine s_skip (Ec (Eb [1] rfl (Ee (Eg (Ea (Ef rfl) (Ea (Ef rfl) (Ed (Ec (Eb [4] rfl (s_ret (ret_leafIR rfl rfl ?_)))))))))))
 rotate_left
 all_goals
  unfold Conf.sz; (try unfold room at *); omega
def Done.beq (x y : Done) : Bool := ((x.cycle == y.cycle) && ((x.who == y.who) && ((x.write == y.write) && ((x.addr == y.addr) && ((x.size == y.size) && ((x.value == y.value) && ((x.resp == y.resp) && true)))))))
theorem Done.of_beq {x y : Done} (h : Done.beq x y = true) : x = y := by
 cases x; cases y; simp_all [Done.beq]
theorem Done.no_beq {x y : Done} (h : Done.beq x y = false) : x ≠ y := by
 rintro rfl; simp [Done.beq] at h
theorem Done.beq_dec (x y : Done) : Done.beq x y = decide (x = y) := by
 cases h : Done.beq x y
 · exact (decide_eq_false (Done.no_beq h)).symm
 · exact (decide_eq_true (Done.of_beq h)).symm
def folOk (p : Done × Done) : Bool := (p.1.write == p.2.write) && decide (p.1.addr = p.2.addr) && decide (p.1.size = p.2.size) && !(p.1.write && decide (p.1.resp = 0) && decide (p.1.value ≠ p.2.value))
def follows (l w : List Done) : Bool := decide (l.length ≤ w.length) && (l.zip w).all folOk
def Req.small (x : Req) : Prop := x.data.length ≤ 1048576
def Req.sz (x : Req) : Nat := x.data.length
theorem Req.small_of {x : Req} (h : x.sz ≤ 1048576) : x.small := by unfold Req.small; unfold Req.sz at h; omega
def Mst.small (x : Mst) : Prop := x.queue.length ≤ 1048576 ∧ (∀ y, y ∈ x.queue → Req.small y)
def Mst.sz (x : Mst) : Nat := x.queue.length + sumL Req.sz x.queue
theorem Mst.small_of {x : Mst} (h : x.sz ≤ 1048576) : x.small := ⟨by unfold Mst.sz at h; omega, fun y hy => Req.small_of (by have := sumL_mem Req.sz hy; unfold Mst.sz at h; omega)⟩
def roundStep (c : Conf) (s : Int) (i : Nat) : Int := IntKind.wrap .i64 (s + IntKind.wrap .i64 (c.turn i * c.slot))
def Conf.round (c : Conf) : Int := if c.ok then (List.range c.masters.length).foldl (roundStep c) (IntKind.wrap .i64 (c.cost * c.masters.length)) else 0
def Conf.bound (c : Conf) (beats : Int) : Int := if c.ok && inB beats 1 8 then
 IntKind.wrap .i64 (IntKind.wrap .i64 (IntKind.wrap .i64 (2 * IntKind.wrap .i64 (IntKind.wrap .i64 (beats * IntKind.wrap .i64 (IntKind.wrap .i64 (IntKind.wrap .i64 (2 * c.round) + c.maxSplit) + c.cost)) + c.caps)) + IntKind.wrap .i64 (2 * c.slot)) + 10) else 0
def Wrr.back (w : Wrr) (c : Conf) (who : Int) : Wrr := if w.ok c && decide (who = w.pos) then { w with credit := min (IntKind.wrap .i64 (w.credit + 1)) (c.turn who) } else w
def Post.small (x : Post) : Prop := x.req.small
def Post.sz (x : Post) : Nat := x.req.sz
theorem Post.small_of {x : Post} (h : x.sz ≤ 1048576) : x.small := Req.small_of (by unfold Post.sz at h; omega)
def Script.small (x : Script) : Prop := x.posts.length ≤ 1048576 ∧ (∀ y, y ∈ x.posts → Post.small y) ∧ x.waits.length ≤ 1048576 ∧ x.says.length ≤ 1048576
def Script.sz (x : Script) : Nat := x.posts.length + sumL Post.sz x.posts + x.waits.length + x.says.length
theorem Script.small_of {x : Script} (h : x.sz ≤ 1048576) : x.small := ⟨by unfold Script.sz at h; omega, fun y hy => Post.small_of (by have := sumL_mem Post.sz hy; unfold Script.sz at h; omega), by unfold Script.sz at h; omega, by unfold Script.sz at h; omega⟩
def Dev.small (x : Dev) : Prop := x.regs.length ≤ 1048576 ∧ x.fifo.length ≤ 1048576
def Dev.sz (x : Dev) : Nat := x.regs.length + x.fifo.length
theorem Dev.small_of {x : Dev} (h : x.sz ≤ 1048576) : x.small := ⟨by unfold Dev.sz at h; omega, by unfold Dev.sz at h; omega⟩
def Model.small (x : Model) : Prop := x.ram.length ≤ 1048576 ∧ x.dev.small
def Model.sz (x : Model) : Nat := x.ram.length + x.dev.sz
theorem Model.small_of {x : Model} (h : x.sz ≤ 1048576) : x.small := ⟨by unfold Model.sz at h; omega, Dev.small_of (by unfold Model.sz at h; omega)⟩
def Bus.small (x : Bus) : Prop := x.conf.small ∧ x.ms.length ≤ 1048576 ∧ (∀ y, y ∈ x.ms → Mst.small y) ∧ x.buckets.length ≤ 1048576 ∧ x.splits.length ≤ 1048576 ∧ x.model.small ∧ x.log.length ≤ 1048576
def Bus.sz (x : Bus) : Nat := x.conf.sz + x.ms.length + sumL Mst.sz x.ms + x.buckets.length + x.splits.length + x.model.sz + x.log.length
theorem Bus.small_of {x : Bus} (h : x.sz ≤ 1048576) : x.small := ⟨Conf.small_of (by unfold Bus.sz at h; omega), by unfold Bus.sz at h; omega, fun y hy => Mst.small_of (by have := sumL_mem Mst.sz hy; unfold Bus.sz at h; omega), by unfold Bus.sz at h; omega, by unfold Bus.sz at h; omega, Model.small_of (by unfold Bus.sz at h; omega), by unfold Bus.sz at h; omega⟩
def MConf.beq (x y : MConf) : Bool := ((x.weight == y.weight) && ((x.prio == y.prio) && ((x.every == y.every) && ((x.cap == y.cap) && true))))
theorem MConf.of_beq {x y : MConf} (h : MConf.beq x y = true) : x = y := by
 cases x; cases y; simp_all [MConf.beq]
theorem MConf.no_beq {x y : MConf} (h : MConf.beq x y = false) : x ≠ y := by
 rintro rfl; simp [MConf.beq] at h
theorem MConf.beq_dec (x y : MConf) : MConf.beq x y = decide (x = y) := by
 cases h : MConf.beq x y
 · exact (decide_eq_false (MConf.no_beq h)).symm
 · exact (decide_eq_true (MConf.of_beq h)).symm
def Bucket.beq (x y : Bucket) : Bool := ((x.tokens == y.tokens) && ((x.count == y.count) && true))
theorem Bucket.of_beq {x y : Bucket} (h : Bucket.beq x y = true) : x = y := by
 cases x; cases y; simp_all [Bucket.beq]
theorem Bucket.no_beq {x y : Bucket} (h : Bucket.beq x y = false) : x ≠ y := by
 rintro rfl; simp [Bucket.beq] at h
theorem Bucket.beq_dec (x y : Bucket) : Bucket.beq x y = decide (x = y) := by
 cases h : Bucket.beq x y
 · exact (decide_eq_false (Bucket.no_beq h)).symm
 · exact (decide_eq_true (Bucket.of_beq h)).symm
def Beat.beq (x y : Beat) : Bool := ((x.live == y.live) && ((x.who == y.who) && ((x.num == y.num) && ((x.first == y.first) && ((x.via == y.via) && ((x.left == y.left) && ((x.resp == y.resp) && ((x.second == y.second) && true))))))))
theorem Beat.of_beq {x y : Beat} (h : Beat.beq x y = true) : x = y := by
 cases x; cases y; simp_all [Beat.beq]
theorem Beat.no_beq {x y : Beat} (h : Beat.beq x y = false) : x ≠ y := by
 rintro rfl; simp [Beat.beq] at h
theorem Beat.beq_dec (x y : Beat) : Beat.beq x y = decide (x = y) := by
 cases h : Beat.beq x y
 · exact (decide_eq_false (Beat.no_beq h)).symm
 · exact (decide_eq_true (Beat.of_beq h)).symm
def Wrr.beq (x y : Wrr) : Bool := ((x.pos == y.pos) && ((x.credit == y.credit) && true))
theorem Wrr.of_beq {x y : Wrr} (h : Wrr.beq x y = true) : x = y := by
 cases x; cases y; simp_all [Wrr.beq]
theorem Wrr.no_beq {x y : Wrr} (h : Wrr.beq x y = false) : x ≠ y := by
 rintro rfl; simp [Wrr.beq] at h
theorem Wrr.beq_dec (x y : Wrr) : Wrr.beq x y = decide (x = y) := by
 cases h : Wrr.beq x y
 · exact (decide_eq_false (Wrr.no_beq h)).symm
 · exact (decide_eq_true (Wrr.of_beq h)).symm
structure Bus.parts (x y : Bus) : Prop where
 conf : x.conf = y.conf
 now : x.now = y.now
 ms : x.ms = y.ms
 arb : x.arb = y.arb
 buckets : x.buckets = y.buckets
 splits : x.splits = y.splits
 holder : x.holder = y.holder
 kept : x.kept = y.kept
 last : x.last = y.last
 addr : x.addr = y.addr
 data : x.data = y.data
 model : x.model = y.model
 picks : x.picks = y.picks
 log : x.log = y.log
def bytes (size : Int) : Int := if inB size 0 2 then (if size = 0 then 1 else if size = 1 then 2 else 4) else 0
def limit (size : Int) : Int := if inB size 0 2 then (if size = 0 then 256 else if size = 1 then 65536 else 4294967296) else 0
def beatsN (b : Int) : Int := if b = 0 then 1 else if b = 3 then 8 else 4
def beats (b : Int) : Int := if inB b 0 3 then beatsN b else 0
def aligned (a size : Int) : Bool := inB size 0 2 && decide (0 ≤ a) && decide (a.tmod (bytes size) = 0)
def nextA (a size burst : Int) : Int :=
 if aligned a size && decide (a < 512) && decide (beats burst ≠ 0) then
  (if burst = 2 ∧ (a + bytes size).tmod (4 * bytes size) = 0 then a + bytes size - 4 * bytes size else a + bytes size)
 else -1
def bl (s b : Int) : Nat → Int → Option (List Int)
 | 0, _ => some []
 | n + 1, a => if nextA a s b < 0 then none else (bl s b n (nextA a s b)).map (a :: ·)
def burstL (a s b : Int) : List Int := (bl s b (beats b).toNat a).getD []
def onPage (l : List Int) (x : Int) : Bool := decide (IntKind.wrap .i64 (x.tdiv 64) = IntKind.wrap .i64 (((l[0]?).getD 0).tdiv 64))
def burstOk (a s b : Int) : Bool := (burstL a s b).all (onPage (burstL a s b)) && decide (0 < (burstL a s b).length)
def Req.ok (x : Req) : Bool := burstOk x.addr x.size x.burst && decide ((x.data.length : Int) = if x.write then beats x.burst else 0) && x.data.all fun v => inB v 0 (limit x.size - 1)
def Mst.beats (m : Mst) : Int := match m.queue[0]? with | some r => AL.beats r.burst | none => 0
def Mst.right (m : Mst) : Bool := decide (m.queue.length ≤ 4) && decide (0 ≤ m.tries) && m.queue.all Req.ok &&
 (if m.queue.length = 0 then decide (m.beat = 0) && decide (m.done = 0) && decide (m.tries = 0) && !m.parted && !m.broken else inB m.done 0 (m.beats - 1) && inB m.beat m.done (min (m.done + 2) m.beats))
def okAt (c : Conf) (s : Script) (i : Nat) : Bool := match s.posts[i]? with
 | some p => inB p.moment 0 4000 && inB p.who 0 (c.masters.length - 1) && p.req.ok && (match i with
   | 0 => true
   | j + 1 => match s.posts[j]? with
     | some q => decide (q.moment ≤ p.moment)
     | none => true)
 | none => true
def Script.ok (s : Script) (c : Conf) : Bool := c.ok && decide (s.posts.length ≤ 20) && decide (s.waits.length ≤ 20) && decide (s.says.length ≤ 20) && (List.range s.posts.length).all (okAt c s)
theorem words_map {α : Type} (k : Nat) {r : α → List V} (xs : List α) (h : ∀ y v, v ∈ r y → ∃ x, v = .w x) : (LB.arr k (xs.map r)).words := by
 intro row hrow v hv
 obtain ⟨y, _, rfl⟩ := List.mem_map.1 hrow
 exact h y v hv
def Wrr.hit (w : Wrr) (req : List Bool) (i : Nat) : Bool := (req[((w.pos + ((i : Int) + 1)).tmod req.length).toNat]?).getD false
def Wrr.pick (w : Wrr) (c : Conf) (req : List Bool) : Wrr × Int := if w.ok c && decide (req.length = c.masters.length) then
    (if decide (0 < w.credit) && (req[w.pos.toNat]?).getD false then (⟨w.pos, IntKind.wrap .i64 (w.credit - 1)⟩, w.pos)
     else match (List.range req.length).find? (w.hit req) with
      | some i => (⟨(w.pos + ((i : Int) + 1)).tmod req.length, IntKind.wrap .i64 (c.turn ((w.pos + ((i : Int) + 1)).tmod req.length) - 1)⟩, (w.pos + ((i : Int) + 1)).tmod req.length)
      | none => (⟨w.pos, 0⟩, -1))
 else (w, -1)
def cur (code : List Int) (i h : Int) : LB := .cell [.sl 1 (code.map uR), .w (.int .i64 i), .w (.int .i64 h)]
def Bucket.ok (b : Bucket) (m : MConf) : Bool := if m.prio then inB b.tokens 0 m.cap && decide (0 ≤ b.count) && decide (b.count < m.every) else decide (b.tokens = 0) && decide (b.count = 0)
def Bucket.take (b : Bucket) (m : MConf) : Bucket × Bool := if m.prio && b.ok m && decide (b.tokens ≠ 0) then (⟨b.tokens - 1, b.count⟩, true) else (b, false)
def Bucket.back (b : Bucket) (m : MConf) : Bucket := if m.prio && b.ok m && decide (b.tokens < m.cap) then ⟨b.tokens + 1, b.count⟩ else b
def MConf.most (m : MConf) (n : Int) : Int := if m.prio = true ∧ 1 ≤ m.every ∧ 0 ≤ m.cap ∧ inB n 0 4000 = true then m.cap + n.tdiv m.every + 1 else 0
def Script.fit (s : Script) : Prop := s.posts.length ≤ 6 ∧ (∀ p, p ∈ s.posts → p.req.data.length ≤ 16) ∧ (s.waits.length ≤ 6 ∧ ∀ y, y ∈ s.waits → 0 ≤ y ∧ y ≤ 16) ∧ s.says.length ≤ 6 ∧ ∀ y, y ∈ s.says → 0 ≤ y ∧ y ≤ 16
def byteB (v : Int) : Bool := inB v 0 255
def wordB (v : Int) : Bool := inB v 0 (limit 2 - 1)
def Dev.ok (d : Dev) : Bool := decide ((d.regs.length : Int) = 4) && decide ((d.fifo.length : Int) ≤ 4) && d.regs.all wordB && d.fifo.all wordB && wordB d.timer
def Model.ok (m : Model) : Bool := decide ((m.ram.length : Int) = 192) && m.ram.all byteB && m.dev.ok
def liveL (b : Bus) : List Beat := [b.addr, b.data].filter (fun x => x.live)
def Beat.none : Beat := ⟨false, 0, 0, false, 0, 0, 0, false⟩
def cntW (l : List Beat) (i : Nat) : Int := ((l.filter (fun x : Beat => decide (x.who = (i : Int)))).length : Int)
def fl (b : Bus) (j : Nat) : List (List V) := (List.range b.ms.length).map (fun i => iR (cntW ((liveL b).take j) i))
def Mst.backC (m : Mst) : Bool := m.right && decide (m.beat ≠ m.done)
def Mst.back (m : Mst) : Mst × Bool := if m.backC then (⟨m.queue, m.beat - 1, m.done, m.tries, m.parted, m.broken⟩, true) else (m, false)
def Mst.finC (m : Mst) : Bool := m.right && decide (m.beat ≠ m.done)
def Mst.fin (m : Mst) : Mst × Bool := if m.finC then (if m.done + 1 = m.beats then (⟨m.queue.drop 1, 0, 0, 0, false, false⟩, true) else (⟨m.queue, m.beat, m.done + 1, 0, false, m.broken⟩, true)) else (m, false)
def Mst.postC (m : Mst) (x : Req) : Bool := m.right && x.ok && decide (¬ (m.queue.length : Int) = 4)
def Mst.post (m : Mst) (x : Req) : Mst × Bool := if m.postC x then (⟨m.queue ++ [x], m.beat, m.done, m.tries, m.parted, m.broken⟩, true) else (m, false)
def Mst.fit (m : Mst) : Prop := m.queue.length ≤ 4 ∧ ∀ x, x ∈ m.queue → x.data.length ≤ 16
def Mst.fit5 (m : Mst) : Prop := m.queue.length ≤ 5 ∧ ∀ x, x ∈ m.queue → x.data.length ≤ 16
theorem Mst.fit.to5 {m : Mst} (h : m.fit) : m.fit5 := ⟨Nat.le_trans h.1 (by decide), h.2⟩
theorem Mst.fit5.small {m : Mst} (h : m.fit5) : m.small := ⟨Nat.le_trans h.1 (by decide), fun x hx => Nat.le_trans (h.2 x hx) (by decide)⟩
theorem Mst.fit.small {m : Mst} (h : m.fit) : m.small := h.to5.small
theorem Mst.fit.back {m : Mst} (h : m.fit) : m.back.1.fit := by
 unfold Mst.back
 split
 · exact h
 · exact h
theorem Mst.fit.fin {m : Mst} (h : m.fit) : m.fin.1.fit := by
 unfold Mst.fin
 split
 · split
   · exact ⟨by simp only [List.length_drop]; have := h.1; omega, fun x hx => h.2 x (List.mem_of_mem_drop hx)⟩
   · exact h
 · exact h
theorem Mst.fit.post {m : Mst} (h : m.fit) {x : Req} (hx : x.data.length ≤ 16) : (m.post x).1.fit := by
 unfold Mst.post
 split
 · rename_i hc
   unfold Mst.postC at hc
   simp only [Bool.and_eq_true, decide_eq_true_eq] at hc
   refine ⟨by simp only [List.length_append, List.length_cons, List.length_nil]; have := h.1; omega, fun y hy => ?_⟩
   rcases List.mem_append.1 hy with hy | hy
   · exact h.2 y hy
   · rw [List.mem_singleton.1 hy]; exact hx
 · exact h
def Mst.n (x : Mst) : List V := [.w (.slice none 0 0), .w (.int .i64 x.beat), .w (.int .i64 x.done), .w (.int .i64 x.tries), .w (.bool x.parted), .w (.bool x.broken)]
def Bus.mid (b : Bus) : List V := [.w (.int .i64 b.holder), .w (.int .i64 b.kept), .w (.int .i64 b.last), .w (.bool b.addr.live), .w (.int .i64 b.addr.who), .w (.int .i64 b.addr.num), .w (.bool b.addr.first), .w (.int .i64 b.addr.via), .w (.int .i64 b.addr.left), .w (.int .i64 b.addr.resp), .w (.bool b.addr.second), .w (.bool b.data.live), .w (.int .i64 b.data.who), .w (.int .i64 b.data.num), .w (.bool b.data.first), .w (.int .i64 b.data.via), .w (.int .i64 b.data.left), .w (.int .i64 b.data.resp), .w (.bool b.data.second)]
def Bus.o (b : Bus) : List V := [.ls 0 b.conf.masters.length, .w (.int .i64 b.conf.quantum), .w (.int .i64 b.conf.maxWait), .w (.int .i64 b.conf.maxRetry), .w (.int .i64 b.conf.maxSplit), .w (.int .i64 b.conf.lockMost), .w (.int .i64 b.now), .ls 1 b.ms.length, .w (.int .i64 b.arb.pos), .w (.int .i64 b.arb.credit), .ls 2 b.buckets.length, .ls 3 b.splits.length] ++ b.mid ++ [.ls 4 b.model.ram.length, .ls 5 b.model.dev.regs.length, .w (.int .i64 b.model.dev.timer), .ls 6 b.model.dev.fifo.length, .w (.int .i64 b.picks), .ls 7 b.log.length]
def Bus.n (b : Bus) : List V := [.sl 4 (b.conf.masters.map MConf.r), .w (.int .i64 b.conf.quantum), .w (.int .i64 b.conf.maxWait), .w (.int .i64 b.conf.maxRetry), .w (.int .i64 b.conf.maxSplit), .w (.int .i64 b.conf.lockMost), .w (.int .i64 b.now), .sl 6 (b.ms.map Mst.n), .w (.int .i64 b.arb.pos), .w (.int .i64 b.arb.credit), .sl 2 (b.buckets.map Bucket.r), .sl 1 (b.splits.map iR)] ++ b.mid ++ [.sl 1 (b.model.ram.map iR), .sl 1 (b.model.dev.regs.map iR), .w (.int .i64 b.model.dev.timer), .sl 1 (b.model.dev.fifo.map iR), .w (.int .i64 b.picks), .sl 7 (b.log.map Done.r)]
def Bus.rows (b : Bus) : List LB := [.arr 4 (b.conf.masters.map MConf.r), .arr 6 (b.ms.map Mst.n), .arr 2 (b.buckets.map Bucket.r), .arr 1 (b.splits.map iR), .arr 1 (b.model.ram.map iR), .arr 1 (b.model.dev.regs.map iR), .arr 1 (b.model.dev.fifo.map iR), .arr 7 (b.log.map Done.r)]
def Req.w (r : Req) (x : Value) : List V := [.w (.bool r.write), .w (.int .i64 r.addr), .w (.int .i64 r.size), .w (.int .i64 r.burst), .w (.bool r.lock), .raw x]
def one (a : Option Nat) (xs : List Int) : Mem := match a with
 | some ad => upd M0 ad (some ⟨xs.map (Value.int .i64), true, 1⟩)
 | none => M0
def sumQ : List Req → Int
 | [] => 0
 | r :: q => r.data.length + sumQ q
theorem sumQ_le (q : List Req) : sumQ q = (sumL Req.sz q : Nat) := by
 induction q with
 | nil => rfl
 | cons r q ih => rw [sumQ, sumL, ih]; simp [Req.sz]
def MB (k : Int) (m : Mst) : Prop := m.small ∧ m.queue.length ≤ 1048576 ∧ sumQ m.queue ≤ k
theorem MB.of {m : Mst} (h : m.sz ≤ 1048576) : MB (m.sz : Nat) m := ⟨Mst.small_of h, by unfold Mst.sz at h; omega, by rw [sumQ_le]; unfold Mst.sz; omega⟩
theorem MB.le {m : Mst} {k l : Int} (h : MB k m) (hk : k ≤ l) : MB l m := ⟨h.1, h.2.1, Int.le_trans h.2.2 hk⟩
theorem MB.q {m y : Mst} {k} (h : MB k m) (e : y.queue = m.queue) : MB k y := ⟨⟨by rw [e]; exact h.1.1, by rw [e]; exact h.1.2⟩, by rw [e]; exact h.2⟩
theorem sumQ_drop (q : List Req) : sumQ (q.drop 1) ≤ sumQ q := by
 cases q with
 | nil => exact Int.le_refl _
 | cons r q => simp only [List.drop_succ_cons, List.drop_zero, sumQ]; omega
theorem MB.drop {m y : Mst} {k} (h : MB k m) (e : y.queue = m.queue.drop 1) : MB k y :=
 ⟨⟨by rw [e, List.length_drop]; exact Nat.le_trans (Nat.sub_le _ _) h.1.1, by rw [e]; exact fun x hx => h.1.2 x (List.mem_of_mem_drop hx)⟩, by rw [e, List.length_drop]; exact Nat.le_trans (Nat.sub_le _ _) h.2.1, by rw [e]; exact Int.le_trans (sumQ_drop _) h.2.2⟩
theorem Vew.two {OL : Ob} {u u' w : V} (h : ∀ M', (∀ (i : Nat) D, OL[i]? = some D → sub D M') → ∀ x, RF M' u x → RF M' u' x) : Vew OL [u, w] [u', w] := fun M' hM' args hp => by
 obtain ⟨x, r, rfl, g1, g2⟩ := hp.uncons
 exact Pt.cons (h M' hM' x g1) g2
theorem c_187 (n : Int) (hn : -9223372036854775808 ≤ n ∧ n ≤ 9223372036854775807) : CV prg 187 [.w (.int .i64 n)] (fun res => res = .w (.string ⟨(Lib.itoa n).toArray⟩)) := by
 refine cv_in g187 (Eb [0] rfl (Ee (Eg (Ea (Ef rfl) (Ed (Ec (Eb [0] rfl (Ee (Ee (Eg (Ea (Ef rfl) ?_)))))))))))
 refine Ea (o_eql rfl rfl) (Ed (Ec (Eb [0, 7] rfl ?_)))
 first | refine s_condD rfl ?_ ?_ | refine s_condB rfl ?_ ?_
 intro h1
 try rw [nnp] at h1
 refine Ee (Eg (Ea (Ef rfl) (Ed (Ec (Eb [2] rfl (s_ret (q_seqR (ret_leafR rfl rfl ?_))))))))
 rotate_left
 intro h1
 try rw [nnp] at h1
 refine s_skip (Ec (Eb [0] rfl (Ee (Eg (Ea (Ef rfl) (Ed (Ec (Eb [0, 3] rfl (Ee (Eg (Ea (Ef rfl) ?_)))))))))))
 refine Ea (o_lss rfl rfl) (Ea (Ef rfl) (Ed (Ec (Eb [0, 3, 4] rfl (Ee (S_block (S_loop0 (ι := Int × List UInt8) (fun p => (-9223372036854775808 ≤ p.1 ∧ p.1 ≤ 9223372036854775807) ∧ restD p.1 ++ p.2 = Lib.decDigits n.natAbs) (fun p => [(0, .w (.int .i64 p.1)), (3, .w (.string ⟨(p.2).toArray⟩))]) (fun p => p.1.natAbs) (n, []) ⟨hn, dec_start (by assumption)⟩ rfl ⟨rfl, rfl, trivial⟩ (fun _ _ => rfl) rfl ?_)))))))
 rintro ⟨m, out⟩ hp
 obtain ⟨hm, hr⟩ := hp
 simp only at hm hr
 refine Eb [0, 3, 4] rfl ?_
 dsimp only
 refine Ee (Ee (Eg (Ea (Ef rfl) (Ea (o_neq rfl rfl) (Ed (Ec (Eb [0, 3, 4, 11] rfl ?_)))))))
 first | refine s_condD rfl ?_ ?_ | refine s_condB rfl ?_ ?_
 intro h2
 try rw [nnp] at h2
 refine s_skip (Ec (Eb [0, 3, 4] rfl (S_block (Ee (Eg (Ea (Ef rfl) ?_))))))
 first | refine Ea (o_rem rfl rfl (by decide)) ?_ | refine Ea (o_rem rfl rfl (by omega)) ?_
 refine Ea (Ef rfl) (Ed (Ec (Eb [0, 3, 4, 5] rfl (Ee (Ee (Eg (Ea (Ef rfl) (Ea (o_lss rfl rfl) (Ed (Ec (Eb [0, 3, 4, 5, 15] rfl ?_)))))))))))
 first | refine s_condD rfl ?_ ?_ | refine s_condB rfl ?_ ?_
 intro h3
 try rw [nnp] at h3
 refine Eg (Ea (Ef rfl) (Ea (o_neg rfl) (Ea (Ef rfl) (Ed (Ec (Eb [0, 3, 4, 5] rfl (Ee (Eg (Ea (Ef rfl) (Ea (o_add rfl rfl) (Ea (o_cvi rfl) ?_)))))))))))
 refine Ea (o_bs rfl rfl rfl rfl) (Ea (o_cvbs1 rfl rfl (wrap_u8 _)) (Ea (Ef rfl) (Ea (o_adds rfl rfl (by have := dec_short hn hr; simp only [List.length_cons, List.length_nil]; omega)) (Ea (Ef rfl) (Ed (Ec (Eb [0, 3, 4] rfl (Eg (Ea (Ef rfl) ?_)))))))))
 first | refine Ea (o_quo rfl rfl (by decide)) ?_ | refine Ea (o_quo rfl rfl (by omega)) ?_
 refine Ea (Ef rfl) (Ed (q_blkN (q_loopN ?_)))
 · have hm0 : ¬ m = 0 := by assumption
   first | (have hd := dig_neg hm (by assumption); have h9 := dec_round hm0 hm hr hd; exact ⟨(_, _), h9, natAbs_next hm0 hm, hasOf ⟨rfl, rfl, trivial⟩ rfl⟩) | (have hd := dig_pos (n := m) (by assumption); have h9 := dec_round hm0 hm hr hd; exact ⟨(_, _), h9, natAbs_next hm0 hm, hasOf ⟨rfl, rfl, trivial⟩ rfl⟩)
 intro h3
 try rw [nnp] at h3
 refine s_skip (Ec (Eb [0, 3, 4, 5] rfl (Ee (Eg (Ea (Ef rfl) (Ea (o_add rfl rfl) (Ea (o_cvi rfl) (Ea (o_bs rfl rfl rfl rfl) (Ea (o_cvbs1 rfl rfl (wrap_u8 _)) (Ea (Ef rfl) (Ea (o_adds rfl rfl (by have := dec_short hn hr; simp only [List.length_cons, List.length_nil]; omega)) ?_)))))))))))
 refine Ea (Ef rfl) (Ed (Ec (Eb [0, 3, 4] rfl (Eg (Ea (Ef rfl) ?_)))))
 first | refine Ea (o_quo rfl rfl (by decide)) ?_ | refine Ea (o_quo rfl rfl (by omega)) ?_
 refine Ea (Ef rfl) (Ed (q_blkN (q_loopN ?_)))
 · have hm0 : ¬ m = 0 := by assumption
   first | (have hd := dig_neg hm (by assumption); have h9 := dec_round hm0 hm hr hd; exact ⟨(_, _), h9, natAbs_next hm0 hm, hasOf ⟨rfl, rfl, trivial⟩ rfl⟩) | (have hd := dig_pos (n := m) (by assumption); have h9 := dec_round hm0 hm hr hd; exact ⟨(_, _), h9, natAbs_next hm0 hm, hasOf ⟨rfl, rfl, trivial⟩ rfl⟩)
 intro h2
 try rw [nnp] at h2
 refine s_exit (q_seqX (q_loopX (q_blkH (Ec (Eb [3, 4] rfl (Ee (Ee (Eg (Ea (Ef rfl) (Ed (Ec ?_)))))))))))
 refine Eb [3, 27] rfl ?_
 first | refine s_condD rfl ?_ ?_ | refine s_condB rfl ?_ ?_
 intro h4
 try rw [nnp] at h4
 refine Ee (Eg (Ea (Ef rfl) (Ea (o_adds rfl rfl (by have := dec_short hn hr; simp only [List.length_cons, List.length_nil]; omega)) (Ea (Ef rfl) (Ed (Ec (Eb [2] rfl (s_ret (q_seqR (ret_leafR rfl rfl ?_))))))))))
 rotate_left
 intro h4
 try rw [nnp] at h4
 refine s_skip (Ec (Eb [3] rfl (Ee (Eg (Ea (Ef rfl) (Ea (Ef rfl) (Ed (Ec (Eb [2] rfl (s_ret (ret_leafR rfl rfl ?_)))))))))))
 rotate_left
 all_goals
  first | exact dec_leaf2 hr (by assumption) (by assumption) | exact dec_leaf3 hr (by assumption) (by assumption) | exact dec_leaf1 (by assumption)
theorem c_38 (n : Int) (hn : -9223372036854775808 ≤ n ∧ n ≤ 9223372036854775807) : CV prg 38 [.w (.int .i64 n)] (fun res => res = .w (.string ⟨(Lib.itoa n).toArray⟩)) := by
 refine cv_in g38 (Eb [0] rfl (Ee (Eg (Ea (Ef rfl) (Ed (Ec (Eb [0] rfl (Ee (Eg (Ea (Ef rfl) (s_call rfl rfl (cn_272 n hn) ?_)))))))))))
 refine Ea (Ef rfl) (Ed (Ec (Eb [2] rfl (s_ret (ret_leafR rfl rfl ?_)))))
 rotate_left
 all_goals
  rfl
theorem dec_take {xs : List Int} {i : Nat} {y : Int} (h : xs[i]? = some y) : ((xs.take (i + 1)).map Lib.itoa).map stR = ((xs.take i).map Lib.itoa).map stR ++ [stR (Lib.itoa y)] := by
 rw [take_get h, List.map_append, List.map_append]; rfl
theorem cg_84 (xs : List Int) (hl : xs.length ≤ 1048576) (hw : ∀ y, y ∈ xs → i64 y) : GV prg 84 [] [.sl 1 (xs.map iR)] (fun u L1 => u = .ls 0 xs.length ∧ L1 = [.arr 1 ((xs.map Lib.itoa).map stR)]) := by
 refine gv_in g84 (Eb [0] rfl (Ee (Eg (Ea (Ef rfl) (Ed (Ec (Eb [0] rfl (Ee (Eg (Ea (o_bs rfl rfl rfl rfl) (Ea (Ef rfl) ?_)))))))))))
 refine Ed (Ec (Eb [0, 3] rfl (Ee (Ee (Eg (Ea (Ef rfl) ?_))))))
 first | refine Ea (o_lenM rfl) ?_ | refine Ea (o_len rfl) ?_
 refine Ea (Ef rfl) (Ed (Ec (Eb [3, 7, 8, 9] rfl (S_block (S_loop (ι := Nat) (fun i => i ≤ xs.length) (fun i => [(3, .ls 0 (((xs.take i).map Lib.itoa).map stR).length), (9, .w (.int .i64 (i : Int)))]) (fun i => [.arr 1 (((xs.take i).map Lib.itoa).map stR)]) (fun i => xs.length - i) 1 0 (by simp) rfl (hasOf ⟨rfl, rfl, trivial⟩ rfl) rfl (fun _ _ => rfl) (fun _ _ => ⟨rfl, rfl⟩) ?_)))))
 intro i hi
 refine Eb [3, 7, 8, 9] rfl (Ee (Eg (Ea (o_lss rfl rfl) (Ed (Ec (Eb [3, 7, 8, 9, 10] rfl (Ee ?_)))))))
 first | refine s_condD rfl ?_ ?_ | refine s_condB rfl ?_ ?_
 intro h1
 try rw [nnp] at h1
 refine s_skip (Ec (Eb [3, 7, 8, 9] rfl (Ee (S_block (Ee (Eg (s_iaM rfl rfl (by simp at *; omega) ?_)))))))
 intro y2 e2
 try simp only [Int.toNat_natCast, Int.toNat_zero] at e2
 refine Ea (o_ld rfl rfl) (Ea (Ef rfl) (Ed (Ec (Eb [3, 5, 7, 8, 9] rfl (Eg (Ea (Ef rfl) (Ea (Ef rfl) ?_)))))))
 first | refine s_call rfl rfl (c_38 _ (hw _ (List.mem_of_getElem? (by assumption)))) ?_ | refine s_callL rfl rfl (by simp) (c_38 _ (hw _ (List.mem_of_getElem? (by assumption)))) rfl ?_
 refine Ea (o_bs rfl rfl rfl rfl) ?_
 first | refine Ea (o_appL rfl rfl rfl rfl rfl rfl rfl (by simp [roomy]; omega)) ?_ | refine Ea (o_app rfl rfl rfl rfl rfl (by simp [roomy]; omega)) ?_
 refine Ea (Ef rfl) (Ed (q_blkN (Ec (Eb [3, 7, 8, 9] rfl (Eg ?_)))))
 first | refine Ea (o_addn rfl rfl (by omega)) ?_ | refine Ea (o_add rfl rfl) ?_
 refine Ea (Ef rfl) (Ed (q_loopN ?_))
 · refine ⟨i + 1, by omega, by omega, hasOf ⟨?_, rfl, trivial⟩ ?_⟩ <;> rw [dec_take (by assumption)] <;> rfl
 intro h1
 try rw [nnp] at h1
 refine s_exit (q_seqX (q_loopX (q_blkH (Ec (Eb [3] rfl (Ee (Eg (Ea (Ef rfl) (Ea (Ef rfl) (Ed (Ec ?_)))))))))))
 refine Eb [2] rfl (s_ret ?_)
 · refine retG_leaf [0] (.inr rfl) rfl rfl rfl rfl (show (List.range 0 ++ [0]).Nodup by decide) ?_
   rw [take_end (show xs.length ≤ i by omega)]; exact ⟨by simp, rfl⟩
end Go.Proofs.YtoppcdecolponaaDoor.AL
namespace Go.Proofs.YtoppcdecolponaaDoor.AL
open Go
set_option linter.unusedVariables false
set_option linter.unusedSimpArgs false
set_option maxRecDepth 4096
theorem c_185 (x : Conf) (hl : x.masters.length ≤ 1048576) (hx : x.wf) : CV prg 185 [.agg x.r] (fun res => res = .w (.string ⟨(cText x).toArray⟩)) := by
 obtain ⟨⟨hm1, hm2⟩, hq, hmw, hmr, hms, hlm⟩ := id hx
 have l1 := itoa_len hq
 have l2 := itoa_len hmw
 have l3 := itoa_len hmr
 have l4 := itoa_len hms
 have l5 := itoa_len hlm
 refine cv_in g185 (Eb [0] rfl (Ee (Eg (Ea (o_box rfl rfl rfl) (Ea (Ef rfl) (Ed (Ec (Eb [1] rfl (Ee (Ee (Eg ?_)))))))))))
 refine Ea (o_ldnC rfl rfl rfl) ?_
 first | refine s_call rfl rfl (c_184 _ hl) ?_ | refine s_callL rfl rfl (by simp) (c_184 _ hl) rfl ?_
 refine Ea (o_not rfl) (Ed (Ec (Eb [1, 8] rfl ?_)))
 first | refine s_condD rfl ?_ ?_ | refine s_condN rfl ?_ ?_ | refine s_condNB rfl ?_ ?_ | refine s_condB rfl ?_ ?_
 intro h1
 try rw [nnp] at h1
 first | have hP := cAcc_p (by assumption) h1 | have hP := cAcc_n (by assumption) h1 | skip
 refine Ee (Eg (Ea (Ef rfl) (Ed (Ec (Eb [2] rfl (s_ret (q_seqR (ret_leafR rfl rfl ?_))))))))
 rotate_left
 intro h1
 try rw [nnp] at h1
 first | have hP := cAcc_p (by assumption) h1 | have hP := cAcc_n (by assumption) h1 | skip
 refine s_skip (Ec (Eb [1] rfl (Ee (Eg (Ea (Ei rfl) (Ea (o_ldC rfl rfl rfl) ?_))))))
 first | refine s_call rfl rfl (c_187 _ (by assumption)) ?_ | refine s_callL rfl rfl (by simp) (c_187 _ (by assumption)) rfl ?_
 refine Ea (o_adds rfl rfl (by simp only [List.length_append, List.length_cons, List.length_nil]; omega)) (Ea (Ei rfl) (Ea (o_ldC rfl rfl rfl) ?_))
 first | refine s_call rfl rfl (c_187 _ (by assumption)) ?_ | refine s_callL rfl rfl (by simp) (c_187 _ (by assumption)) rfl ?_
 refine Ea (o_adds rfl rfl (by simp only [List.length_append, List.length_cons, List.length_nil]; omega)) (Ea (o_adds rfl rfl (by simp only [List.length_append, List.length_cons, List.length_nil]; omega)) (Ea (Ei rfl) (Ea (o_ldC rfl rfl rfl) ?_)))
 first | refine s_call rfl rfl (c_187 _ (by assumption)) ?_ | refine s_callL rfl rfl (by simp) (c_187 _ (by assumption)) rfl ?_
 refine Ea (o_adds rfl rfl (by simp only [List.length_append, List.length_cons, List.length_nil]; omega)) (Ea (o_adds rfl rfl (by simp only [List.length_append, List.length_cons, List.length_nil]; omega)) (s_keepO (is := [1, 22]) rfl (Ea (Ei rfl) (Ea (o_ldC rfl rfl rfl) ?_))))
 first | refine s_call rfl rfl (c_187 _ (by assumption)) ?_ | refine s_callL rfl rfl (by simp) (c_187 _ (by assumption)) rfl ?_
 refine Ea (o_adds rfl rfl (by simp only [List.length_append, List.length_cons, List.length_nil]; omega)) (Ea (o_adds rfl rfl (by simp only [List.length_append, List.length_cons, List.length_nil]; omega)) (Ea (Ei rfl) (Ea (o_ldC rfl rfl rfl) ?_)))
 first | refine s_call rfl rfl (c_187 _ (by assumption)) ?_ | refine s_callL rfl rfl (by simp) (c_187 _ (by assumption)) rfl ?_
 refine Ea (o_adds rfl rfl (by simp only [List.length_append, List.length_cons, List.length_nil]; omega)) (Ea (Ef rfl) (Ed (Ec (Eb [1, 3] rfl (Ee (Ee (Eg (Ea (Ef rfl) (Ed (Ec (Eb [1, 3, 4] rfl ?_)))))))))))
 refine S_block (s_eqv 3 rfl (congrArg (fun l : List UInt8 => V.w (.string ⟨l.toArray⟩)) (cAcc_0 x).symm) (S_loop (ι := Nat) (fun i => i ≤ x.masters.length) (fun i => [(3, .w (.string ⟨(cAcc x (x.masters.take i)).toArray⟩)), (4, .w (.int .i64 (i : Int)))]) (fun i => [.cell x.r]) (fun i => x.masters.length - i) 1 0 (by simp) rfl (hasOf ⟨rfl, rfl, trivial⟩ rfl) rfl (fun _ _ => rfl) (fun _ _ => ⟨rfl, rfl⟩) ?_))
 intro i hi
 have hal := cAcc_len hx i
 refine Eb [1, 3, 4] rfl (Ee (Ee (Eg (Ea (Ef rfl) (Ea (Ei rfl) (Ea (o_ldC rfl rfl rfl) ?_))))))
 first | refine Ea (o_lenM rfl) ?_ | refine Ea (o_len rfl) ?_ | refine Ea (o_lenL rfl rfl rfl) ?_ | refine Ea (o_lenN rfl) ?_
 refine Ea (o_lss rfl rfl) (Ed (Ec (Eb [1, 3, 4, 36] rfl ?_)))
 first | refine s_condD rfl ?_ ?_ | refine s_condB rfl ?_ ?_
 intro h2
 try rw [nnp] at h2
 first | have hP := cAcc_p (by assumption) h2 | have hP := cAcc_n (by assumption) h2 | skip
 refine s_skip (Ec (Eb [1, 3, 4] rfl (Ee (S_block (Ee (Eg (Ea (Ei rfl) (Ea (o_ldC rfl rfl rfl) (Ea (Ef rfl) (s_iaM rfl rfl (by omega) ?_))))))))))
 intro y3 e3
 simp only [Int.toNat_natCast] at e3
 obtain ⟨w1, w2, w3⟩ := hm2 _ (List.mem_of_getElem? e3)
 have k1 := itoa_len w1
 have k2 := itoa_len w2
 have k3 := itoa_len w3
 refine Ea (o_ldn rfl rfl) (Ea (o_new rfl rfl) (s_opN (o_stnC rfl rfl rfl rfl rfl rfl rfl) (Ed (Ec (Eb [1, 3, 4, 5] rfl (Ee (Eg (Ea (Ef rfl) (Ea (o_adds rfl rfl (by simp only [List.length_append, List.length_cons, List.length_nil]; omega)) (Ea (Ei rfl) (Ea (o_ldC rfl rfl rfl) ?_)))))))))))
 first | refine s_call rfl rfl (c_187 _ (by assumption)) ?_ | refine s_callL rfl rfl (by simp) (c_187 _ (by assumption)) rfl ?_
 refine Ea (o_adds rfl rfl (by simp only [List.length_append, List.length_cons, List.length_nil]; omega)) (Ea (Ef rfl) (Ed (Ec (Eb [1, 3, 4, 5] rfl (Ee (Eg (Ea (Ei rfl) (Ea (o_ldC rfl rfl rfl) (Ed (Ec (Eb [1, 3, 4, 5, 51] rfl ?_)))))))))))
 first | refine s_condD rfl ?_ ?_ | refine s_condN rfl ?_ ?_ | refine s_condNB rfl ?_ ?_ | refine s_condB rfl ?_ ?_
 intro h4
 try rw [nnp] at h4
 first | have hP := cAcc_p (by assumption) h4 | have hP := cAcc_n (by assumption) h4 | skip
 refine Eg (Ea (Ef rfl) (Ea (o_adds rfl rfl (by simp only [List.length_append, List.length_cons, List.length_nil]; omega)) (Ea (Ei rfl) (Ea (o_ldC rfl rfl rfl) ?_))))
 first | refine s_call rfl rfl (c_187 _ (by assumption)) ?_ | refine s_callL rfl rfl (by simp) (c_187 _ (by assumption)) rfl ?_
 refine Ea (o_adds rfl rfl (by simp only [List.length_append, List.length_cons, List.length_nil]; omega)) (Ea (o_adds rfl rfl (by simp only [List.length_append, List.length_cons, List.length_nil]; omega)) (Ea (Ei rfl) (Ea (o_ldC rfl rfl rfl) ?_)))
 first | refine s_call rfl rfl (c_187 _ (by assumption)) ?_ | refine s_callL rfl rfl (by simp) (c_187 _ (by assumption)) rfl ?_
 refine Ea (o_adds rfl rfl (by simp only [List.length_append, List.length_cons, List.length_nil]; omega)) (Ea (Ef rfl) (Ed (q_blkN (Ec (Eb [1, 3, 4] rfl (Eg (Ea (Ef rfl) ?_)))))))
 first | refine Ea (o_addn rfl rfl (by omega)) ?_ | refine Ea (o_add rfl rfl) ?_
 refine Ea (Ef rfl) (Ed (q_loopN ?_))
 · refine ⟨i + 1, by omega, by omega, hasOf ⟨?_, rfl, trivial⟩ rfl⟩
   rw [← hP]; rfl
 intro h4
 try rw [nnp] at h4
 first | have hP := cAcc_p (by assumption) h4 | have hP := cAcc_n (by assumption) h4 | skip
 refine s_skip (q_blkN (Ec (Eb [1, 3, 4] rfl (Eg (Ea (Ef rfl) ?_)))))
 first | refine Ea (o_addn rfl rfl (by omega)) ?_ | refine Ea (o_add rfl rfl) ?_
 refine Ea (Ef rfl) (Ed (q_loopN ?_))
 · refine ⟨i + 1, by omega, by omega, hasOf ⟨?_, rfl, trivial⟩ rfl⟩
   rw [← hP]; rfl
 intro h2
 try rw [nnp] at h2
 first | have hP := cAcc_p (by assumption) h2 | have hP := cAcc_n (by assumption) h2 | skip
 refine s_exit (q_seqX (q_loopX (q_blkH (Ec (Eb [3] rfl (Ee (Eg (Ea (Ef rfl) (Ea (Ef rfl) (Ed (Ec ?_)))))))))))
 refine Eb [2] rfl (s_ret (ret_leafR rfl rfl ?_))
 rotate_left
 all_goals
  first | (refine cT_no ?_; assumption) | (refine cT_yes ?_ ?_ <;> first | assumption | omega)
theorem c_36 (x : Conf) (hl : x.masters.length ≤ 1048576) (hx : x.wf) : CV prg 36 [.agg x.r] (fun res => res = .w (.string ⟨(cText x).toArray⟩)) := by
 obtain ⟨hm1, hm2⟩ := hx.1
 refine cv_in g36 (Eb [0] rfl (Ee (Eg (Ea (o_box rfl rfl rfl) (Ea (Ef rfl) (Ed (Ec (Eb [1] rfl (Ee (Ee (Eg ?_)))))))))))
 refine Ea (o_ldnC rfl rfl rfl) ?_
 first | refine s_call rfl rfl (c_34 _ hl) ?_ | refine s_callL rfl rfl (by simp) (c_34 _ hl) rfl ?_
 refine Ea (o_not rfl) (Ed (Ec (Eb [1, 9] rfl ?_)))
 first | refine s_condD rfl ?_ ?_ | refine s_condN rfl ?_ ?_ | refine s_condNB rfl ?_ ?_ | refine s_condB rfl ?_ ?_
 intro h1
 try rw [nnp] at h1
 first | have hP := mw_p h1 | have hP := mw_n h1 | skip
 refine Ee (Eg (Ea (Ef rfl) (Ed (Ec (Eb [2] rfl (s_ret (q_seqR (ret_leafR rfl rfl ?_))))))))
 rotate_left
 intro h1
 try rw [nnp] at h1
 first | have hP := mw_p h1 | have hP := mw_n h1 | skip
 refine s_skip (Ec (Eb [1] rfl (Ee (Eg (Ea (Ei rfl) (Ea (o_ldC rfl rfl rfl) (Ea (Ei rfl) (Ea (o_ldC rfl rfl rfl) (Ea (Ei rfl) (Ea (o_ldC rfl rfl rfl) (Ea (Ei rfl) ?_)))))))))))
 refine Ea (o_ldC rfl rfl rfl) (Ea (Ei rfl) (Ea (o_ldC rfl rfl rfl) (Ea (o_bs rfl rfl rfl rfl) (s_callGL rfl rfl (by simp) (cg_84 [x.quantum, x.maxWait, x.maxRetry, x.maxSplit, x.lockMost] (by simp) (five_wf hx)) ?_))))
 rintro u L1 ⟨rfl, rfl⟩
 refine ⟨rfl, ?_, _, _, rfl, rfl, ?_⟩
 · intro lb hlb
   simp only [List.mem_cons, List.not_mem_nil, or_false] at hlb
   subst hlb
   exact words_map _ _ (fun y v hv => by simp [stR] at hv; exact ⟨_, hv⟩)
 refine Ea (Ef rfl) (Ed (Ec (Eb [1, 3] rfl (Ee (Ee (Eg (Ea (Ei rfl) (Ea (o_ldC rfl rfl rfl) ?_))))))))
 first | refine Ea (o_lenM rfl) ?_ | refine Ea (o_len rfl) ?_ | refine Ea (o_lenL rfl rfl rfl) ?_ | refine Ea (o_lenN rfl) ?_
 refine Ea (Ef rfl) (Ed (Ec (Eb [3, 23, 24, 25] rfl (S_block (S_loop (ι := Nat) (fun i => i ≤ x.masters.length) (fun i => [(3, .ls 2 ((cWords x ++ (x.masters.take i).map mWord).map stR).length), (25, .w (.int .i64 (i : Int)))]) (fun i => [.cell x.r, .arr 1 ([x.quantum, x.maxWait, x.maxRetry, x.maxSplit, x.lockMost].map iR), .arr 1 ((cWords x ++ (x.masters.take i).map mWord).map stR)]) (fun i => x.masters.length - i) 3 0 (by simp) rfl (hasOf ⟨rfl, rfl, trivial⟩ rfl) rfl (fun _ _ => rfl) (fun _ _ => ⟨rfl, rfl⟩) ?_)))))
 intro i hi
 have hcn := words_cnt x (x.masters.take i)
 have htl : (x.masters.take i).length = i := by rw [List.length_take]; omega
 refine Eb [3, 23, 24, 25] rfl (Ee (Eg (Ea (o_lss rfl rfl) (Ed (Ec (Eb [3, 23, 24, 25, 26] rfl (Ee ?_)))))))
 first | refine s_condD rfl ?_ ?_ | refine s_condB rfl ?_ ?_
 intro h2
 try rw [nnp] at h2
 first | have hP := mw_p h2 | have hP := mw_n h2 | skip
 refine s_skip (Ec (Eb [3, 23, 24, 25] rfl (Ee (S_block (Ee (Eg (s_iaM rfl rfl (by omega) ?_)))))))
 intro y3 e3
 simp only [Int.toNat_natCast] at e3
 have hy3 := hm2 _ (List.mem_of_getElem? e3)
 refine Ea (o_ldn rfl rfl) (Ea (o_new rfl rfl) (s_opN (o_stnC rfl rfl rfl rfl rfl rfl rfl) (Ed (Ec (Eb [3, 5, 23, 24, 25] rfl (Ee (Eg (Ea (Ei rfl) (Ea (o_ldC rfl rfl rfl) ?_)))))))))
 first | refine s_call rfl rfl (c_38 _ (And.left (by assumption))) ?_ | refine s_callL rfl rfl (by simp) (c_38 _ (And.left (by assumption))) rfl ?_
 refine Ea (Ef rfl) (Ed (Ec (Eb [3, 5, 6, 23, 24, 25] rfl (Ee (Ee (Eg (Ea (Ei rfl) (Ea (o_ldC rfl rfl rfl) (Ed (Ec (Eb [3, 5, 6, 23, 24, 25, 33] rfl ?_)))))))))))
 first | refine s_condD rfl ?_ ?_ | refine s_condN rfl ?_ ?_ | refine s_condNB rfl ?_ ?_ | refine s_condB rfl ?_ ?_
 intro h4
 try rw [nnp] at h4
 first | have hP := mw_p h4 | have hP := mw_n h4 | skip
 refine Eg (Ea (Ei rfl) (Ea (o_ldC rfl rfl rfl) (Ea (Ei rfl) (Ea (o_ldC rfl rfl rfl) (Ea (Ei rfl) (Ea (o_ldC rfl rfl rfl) (Ea (o_bs rfl rfl rfl rfl) (s_callGL rfl rfl (by simp) (cg_84 [_, _, _] (by simp) (three_wf (by assumption))) ?_))))))))
 rintro u L1 ⟨rfl, rfl⟩
 refine ⟨rfl, ?_, _, _, rfl, rfl, ?_⟩
 · intro lb hlb
   simp only [List.mem_cons, List.not_mem_nil, or_false] at hlb
   subst hlb
   exact words_map _ _ (fun y v hv => by simp [stR] at hv; exact ⟨_, hv⟩)
 first | refine s_call rfl rfl (cn_407 ([_, _, _].map Lib.itoa) [58] (by simp) (by simp) (three_join (by assumption))) ?_ | refine s_callL rfl rfl (by simp) (cn_407 ([_, _, _].map Lib.itoa) [58] (by simp) (by simp) (three_join (by assumption))) rfl ?_
 refine Ea (Ef rfl) (Ed (Ec (Eb [3, 6, 23, 24, 25] rfl (Eg (Ea (Ef rfl) (Ea (Ef rfl) (Ea (o_bs rfl rfl rfl rfl) ?_)))))))
 first | refine Ea (o_appL rfl rfl rfl rfl rfl rfl rfl (by rw [List.length_map, hcn, htl]; simp [roomy]; omega)) ?_ | refine Ea (o_app rfl rfl rfl rfl rfl (by rw [List.length_map, hcn, htl]; simp [roomy]; omega)) ?_
 refine Ea (Ef rfl) (Ed (q_blkN (Ec (Eb [3, 23, 24, 25] rfl (Eg ?_)))))
 first | refine Ea (o_addn rfl rfl (by omega)) ?_ | refine Ea (o_add rfl rfl) ?_
 refine Ea (Ef rfl) (Ed (q_loopN ?_))
 · refine ⟨i + 1, by omega, by omega, hasOf ⟨?_, rfl, trivial⟩ ?_⟩ <;> rw [wordsR_next (by assumption), ← hP] <;> rfl
 intro h4
 try rw [nnp] at h4
 first | have hP := mw_p h4 | have hP := mw_n h4 | skip
 refine s_skip (Ec (Eb [3, 6, 23, 24, 25] rfl (Eg (Ea (Ef rfl) (Ea (Ef rfl) (Ea (o_bs rfl rfl rfl rfl) ?_))))))
 first | refine Ea (o_appL rfl rfl rfl rfl rfl rfl rfl (by rw [List.length_map, hcn, htl]; simp [roomy]; omega)) ?_ | refine Ea (o_app rfl rfl rfl rfl rfl (by rw [List.length_map, hcn, htl]; simp [roomy]; omega)) ?_
 refine Ea (Ef rfl) (Ed (q_blkN (Ec (Eb [3, 23, 24, 25] rfl (Eg ?_)))))
 first | refine Ea (o_addn rfl rfl (by omega)) ?_ | refine Ea (o_add rfl rfl) ?_
 refine Ea (Ef rfl) (Ed (q_loopN ?_))
 · refine ⟨i + 1, by omega, by omega, hasOf ⟨?_, rfl, trivial⟩ ?_⟩ <;> rw [wordsR_next (by assumption), ← hP] <;> rfl
 intro h2
 try rw [nnp] at h2
 first | have hP := mw_p h2 | have hP := mw_n h2 | skip
 refine s_exit (q_seqX (q_loopX (q_blkH (Ec (Eb [3] rfl (Ee (Eg (Ea (Ef rfl) (s_callL rfl rfl (by simp) (cn_407 _ [32] (cWords_ne x (x.masters.take i)) (by omega) (words_join hx _ (fun m hm => List.mem_of_mem_take hm) (by omega))) rfl (Ea (Ef rfl) (Ed ?_)))))))))))
 refine Ec (Eb [2] rfl (s_ret (ret_leafR rfl rfl ?_)))
 rotate_left
 all_goals
  first | (refine cT_no ?_; assumption) | (refine cT_join ?_ ?_ <;> first | assumption | omega)
theorem c_108 (x : Conf) (hwx : x.wf) : CV prg 108 [.agg x.r] (fun res => res = .w (.bool true)) := by
 refine cv_in g108 (Eb [0] rfl (Ee (Eg (Ea (o_box rfl rfl rfl) (Ea (Ef rfl) (Ed (Ec (Eb [1] rfl (Ee (Eg (Ea (Ef rfl) ?_)))))))))))
 refine Ed (Ec (Eb [1, 3] rfl (Ee (Eg (Ea (o_ldnC rfl rfl rfl) (Ea (Ef rfl) ?_))))))
 first | refine s_call rfl rfl (c_145 _ _ (by (try unfold room at *); omega) (by assumption)) ?_ | refine s_callL rfl rfl (by simp) (c_145 _ _ (by (try unfold room at *); omega) (by assumption)) rfl ?_
 refine Ea (Ef rfl) (Ed (Ec (Eb [1, 3] rfl (Ee (Ee (Eg (Ea (Ef rfl) (Ea (o_lss rfl rfl) (Ed (Ec (Eb [1, 11] rfl ?_)))))))))))
 first | refine s_condD rfl ?_ ?_ | refine s_condB rfl ?_ ?_
 intro h1
 try rw [nnp] at h1
 try have hsx : x.small := Conf.small_of (by (try unfold room at *); omega)
 try have hlx : x.masters.length ≤ 1048576 := hsx
 try rw [decide_eq_true (rfl : x = x)] at h1
 refine Ee (Eg (Ea (Ef rfl) (Ed (Ec (Eb [2] rfl (s_ret (q_seqR (Eh rfl rfl ?_))))))))
 rotate_left
 intro h1
 try rw [nnp] at h1
 try have hsx : x.small := Conf.small_of (by (try unfold room at *); omega)
 try have hlx : x.masters.length ≤ 1048576 := hsx
 try rw [decide_eq_true (rfl : x = x)] at h1
 refine s_skip (Ec (Eb [1] rfl (Ee (Eg (Ea (o_ldnC rfl rfl rfl) ?_)))))
 first | refine s_call rfl rfl (c_159 x hsx) ?_ | refine s_callL rfl rfl (by simp) (c_159 x hsx) rfl ?_
 first | refine s_call rfl rfl (c_185 x hlx hwx) ?_ | refine s_callL rfl rfl (by simp) (c_185 x hlx hwx) rfl ?_
 refine Ea (Ef rfl) (Ed (Ec (Eb [1, 4] rfl (Ee (Eg (Ea (o_ldnC rfl rfl rfl) ?_))))))
 first | refine s_call rfl rfl (c_159 x hsx) ?_ | refine s_callL rfl rfl (by simp) (c_159 x hsx) rfl ?_
 refine Ea (o_new rfl rfl) (s_opN (o_stnC rfl rfl rfl rfl rfl rfl rfl) (Ed (Ec (Eb [1, 4, 5] rfl (Ee (Eg (Ea (o_ldnC rfl rfl rfl) ?_)))))))
 first | refine s_call rfl rfl (c_36 x hlx hwx) ?_ | refine s_callL rfl rfl (by simp) (c_36 x hlx hwx) rfl ?_
 refine Ea (Ef rfl) (Ed (Ec (Eb [1, 4, 5, 6] rfl (Ee (Ee (Eg (Ea (Ef rfl) (Ea (Ef rfl) (Ea (o_neqs rfl rfl) (Ed (Ec ?_)))))))))))
 refine Eb [1, 5, 21] rfl ?_
 first | refine s_condD rfl ?_ ?_ | refine s_condB rfl ?_ ?_
 intro h2
 try rw [nnp] at h2
 try have hsx : x.small := Conf.small_of (by (try unfold room at *); omega)
 try have hlx : x.masters.length ≤ 1048576 := hsx
 try rw [decide_eq_true (rfl : x = x)] at h2
 refine Ee (Eg (Ea (Ef rfl) (Ed (Ec (Eb [2] rfl (s_ret (q_seqR (Eh rfl rfl ?_))))))))
 rotate_left
 intro h2
 try rw [nnp] at h2
 try have hsx : x.small := Conf.small_of (by (try unfold room at *); omega)
 try have hlx : x.masters.length ≤ 1048576 := hsx
 try rw [decide_eq_true (rfl : x = x)] at h2
 refine s_skip (Ec (Eb [1, 5] rfl (Ee (Ee (Eg (Ea (o_ldnC rfl rfl rfl) (Ea (o_ldnC rfl rfl rfl) ?_)))))))
 first | refine s_call rfl rfl (c_159 x hsx) ?_ | refine s_callL rfl rfl (by simp) (c_159 x hsx) rfl ?_
 first | refine s_call rfl rfl (c_128 x x hsx) ?_ | refine s_callL rfl rfl (by simp) (c_128 x x hsx) rfl ?_
 refine Ea (o_not rfl) (Ed (Ec (Eb [26] rfl ?_)))
 first | refine s_condD rfl ?_ ?_ | refine s_condN rfl ?_ ?_ | refine s_condNB rfl ?_ ?_ | refine s_condB rfl ?_ ?_
 intro h3
 try rw [nnp] at h3
 try have hsx : x.small := Conf.small_of (by (try unfold room at *); omega)
 try have hlx : x.masters.length ≤ 1048576 := hsx
 try rw [decide_eq_true (rfl : x = x)] at h3
 refine Ee (Eg (Ea (Ef rfl) (Ed (Ec (Eb [2] rfl (s_ret (q_seqR (Eh rfl rfl ?_))))))))
 rotate_left
 intro h3
 try rw [nnp] at h3
 try have hsx : x.small := Conf.small_of (by (try unfold room at *); omega)
 try have hlx : x.masters.length ≤ 1048576 := hsx
 try rw [decide_eq_true (rfl : x = x)] at h3
 refine s_skip (Ec (Eb [] rfl (Ee (Eg (Ea (Ef rfl) (Ed (Ec (Eb [2] rfl (s_ret (Eh rfl rfl ?_))))))))))
 rotate_left
 all_goals
  simp_all
end Go.Proofs.YtoppcdecolponaaDoor.AL
