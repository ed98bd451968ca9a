/- What functions do with plain data, each by the form of its code. Printed by program. -/
import Derived.Test.YtdialnejieoelaaSpec0
import Derived.Test.YtdialnejieoelaaIrBusNew
import Derived.Test.YtdialnejieoelaaVA
namespace Go.Proofs.Ytdialnejieoelaa.AL
open Go
set_option linter.unusedVariables false
set_option linter.unusedSimpArgs false
set_option maxRecDepth 4096
theorem c_230 (a b c : Int) : CV prg 230 [.w (.int .i64 a), .w (.int .i64 b), .w (.int .i64 c)] (fun res => res = .w (.bool (inB a b c))) := by
 refine cv_in g230 (Eb [0, 1, 2] rfl (Ee (Eg (Ea (Ef rfl) (Ed (Ec (Eb [0, 1, 2] rfl (Ee (Eg (Ea (Ef rfl) (Ea (Ef rfl) ?_)))))))))))
 refine Ea (o_geq rfl rfl) (Ea (Ef rfl) ?_)
 first | refine s_gDT rfl ?_ ?_ | refine s_gB rfl ?_ ?_
 intro h1
 try rw [nnp] at h1
 refine Ea (Ef rfl) (s_gT rfl (Ea (Ef rfl) (s_gT rfl (Ea (o_leq rfl rfl) (Ea (o_pickT rfl rfl) (Ea (Ef rfl) (Ed (Ec (Eb [6] rfl (En (Eh rfl rfl ?_)))))))))))
 rotate_left
 intro h1
 try rw [nnp] at h1
 refine s_gF rfl (s_gF rfl (s_gF rfl (Ea (o_pickF rfl rfl) (Ea (Ef rfl) (Ed (Ec (Eb [6] rfl (En (Eh rfl rfl ?_)))))))))
 rotate_left
 all_goals
  simp_all [inB] <;> omega
theorem c_103 (a b c : Int) : CV prg 103 [.w (.int .i64 a), .w (.int .i64 b), .w (.int .i64 c)] (fun res => res = .w (.bool (inB a b c))) := by
 refine cv_in g103 (Eb [0, 1, 2] rfl (Ee (Eg (Ea (Ef rfl) (Ed (Ec (Eb [0, 1, 2] rfl (Ee (Eg (Ea (Ef rfl) (Ea (Ef rfl) ?_)))))))))))
 refine Ea (o_leq rfl rfl) (Ea (Ef rfl) ?_)
 first | refine s_gDT rfl ?_ ?_ | refine s_gB rfl ?_ ?_
 intro h1
 try rw [nnp] at h1
 refine Ea (Ef rfl) (s_gT rfl (Ea (Ef rfl) (s_gT rfl (Ea (o_leq rfl rfl) (Ea (o_pickT rfl rfl) (Ea (Ef rfl) (Ed (Ec (Eb [6] rfl (En (Eh rfl rfl ?_)))))))))))
 rotate_left
 intro h1
 try rw [nnp] at h1
 refine s_gF rfl (s_gF rfl (s_gF rfl (Ea (o_pickF rfl rfl) (Ea (Ef rfl) (Ed (Ec (Eb [6] rfl (En (Eh rfl rfl ?_)))))))))
 rotate_left
 all_goals
  simp_all [inB] <;> omega
theorem cost_leaf {x : Conf} (h1 : inB x.maxRetry 0 3 = true) (h2 : inB x.maxWait 0 3 = true) : IntKind.wrap .i64 (IntKind.wrap .i64 (x.maxRetry + 2) * IntKind.wrap .i64 (x.maxWait + 6)) = x.cost := by
 unfold Conf.cost
 rw [h1, h2]
 simp only [inB, Bool.and_eq_true, decide_eq_true_eq] at h1 h2
 have hr : x.maxRetry = 0 ∨ x.maxRetry = 1 ∨ x.maxRetry = 2 ∨ x.maxRetry = 3 := by omega
 rw [wrap_in (x.maxRetry + 2) (by omega), wrap_in (x.maxWait + 6) (by omega), wrap_in]
 · rfl
 · rcases hr with h | h | h | h <;> rw [h] <;> omega
theorem c_186 (x : Conf) : CV prg 186 [.agg x.r] (fun res => res = .w (.int .i64 x.cost)) := by
 refine cv_in g186 (Eb [0] rfl (Ee (Eg (Ea (o_box rfl rfl rfl) (Ea (Ef rfl) (Ed (Ec (Eb [1] rfl (Ee (Ee (Eg ?_)))))))))))
 refine Ea (Ek rfl) (Ea (Ep rfl rfl rfl) ?_)
 first | refine Et rfl rfl (c_230 ..) ?_ | refine Er rfl rfl (by simp) (c_230 ..) rfl ?_
 refine Ea (o_not rfl) (Ea (Ef rfl) ?_)
 first | refine s_gDF rfl ?_ ?_ | refine s_gNDF rfl ?_ ?_ | refine s_gNF rfl ?_ ?_ | refine s_gB rfl ?_ ?_
 intro h1
 try rw [nnp] at h1
 refine Ea (Ek rfl) (s_gT rfl (Ea (Ep rfl rfl rfl) (s_gT rfl ?_)))
 first | refine Et rfl rfl (c_230 ..) ?_ | refine Er rfl rfl (by simp) (c_230 ..) rfl ?_
 refine s_gT rfl (Ea (o_not rfl) (Ea (o_pickF rfl rfl) (Ed (Ec (Eb [1, 12] rfl ?_)))))
 first | refine Em rfl ?_ ?_ | refine s_condN rfl ?_ ?_ | refine Eu rfl ?_ ?_ | refine Ej rfl ?_ ?_
 intro h2
 try rw [nnp] at h2
 refine Ee (Eg (Ea (Ef rfl) (Ed (Ec (Eb [2] rfl (En (Ei (Eq rfl rfl ?_))))))))
 rotate_left
 intro h2
 try rw [nnp] at h2
 refine Eo (Ec (Eb [1] rfl (Ee (Eg (Ea (Ek rfl) (Ea (Ep rfl rfl rfl) (Ea (o_add rfl rfl) (Ea (Ek rfl) (Ea (Ep rfl rfl rfl) (Ea (o_add rfl rfl) (Ea (o_mul rfl rfl) ?_)))))))))))
 refine Ea (Ef rfl) (Ed (Ec (Eb [2] rfl (En (Eq rfl rfl ?_)))))
 rotate_left
 intro h1
 try rw [nnp] at h1
 refine s_gF rfl (s_gF rfl (s_gF rfl (s_gF rfl (Ea (o_pickT rfl rfl) (Ed (Ec (Eb [1, 12] rfl (s_condT rfl (Ee (Eg (Ea (Ef rfl) ?_)))))))))))
 refine Ed (Ec (Eb [2] rfl (En (Ei (Eq rfl rfl ?_)))))
 rotate_left
 all_goals
  first | exact cost_leaf (by assumption) (by assumption) | simp_all [Conf.cost]
theorem c_37 (x : Conf) : CV prg 37 [.agg x.r] (fun res => res = .w (.int .i64 x.cost)) := by
 refine cv_in g37 (Eb [0] rfl (Ee (Eg (Ea (o_box rfl rfl rfl) (Ea (Ef rfl) (Ed (Ec (Eb [1] rfl (Ee (Ee (Eg ?_)))))))))))
 refine Ea (Ek rfl) (Ea (Ep rfl rfl rfl) ?_)
 first | refine Et rfl rfl (c_103 ..) ?_ | refine Er rfl rfl (by simp) (c_103 ..) rfl ?_
 refine Ea (o_not rfl) (Ea (Ef rfl) ?_)
 first | refine s_gDF rfl ?_ ?_ | refine s_gNDF rfl ?_ ?_ | refine s_gNF rfl ?_ ?_ | refine s_gB rfl ?_ ?_
 intro h1
 try rw [nnp] at h1
 refine Ea (Ek rfl) (s_gT rfl (Ea (Ep rfl rfl rfl) (s_gT rfl ?_)))
 first | refine Et rfl rfl (c_103 ..) ?_ | refine Er rfl rfl (by simp) (c_103 ..) rfl ?_
 refine s_gT rfl (Ea (o_not rfl) (Ea (o_pickF rfl rfl) (Ed (Ec (Eb [1, 12] rfl ?_)))))
 first | refine Em rfl ?_ ?_ | refine s_condN rfl ?_ ?_ | refine Eu rfl ?_ ?_ | refine Ej rfl ?_ ?_
 intro h2
 try rw [nnp] at h2
 refine Ee (Eg (Ea (Ef rfl) (Ed (Ec (Eb [2] rfl (En (Ei (Eq rfl rfl ?_))))))))
 rotate_left
 intro h2
 try rw [nnp] at h2
 refine Eo (Ec (Eb [1] rfl (Ee (Eg (Ea (Ek rfl) (Ea (Ep rfl rfl rfl) (Ea (o_add rfl rfl) (Ea (Ek rfl) (Ea (Ep rfl rfl rfl) (Ea (o_add rfl rfl) (Ea (o_mul rfl rfl) ?_)))))))))))
 refine Ea (Ef rfl) (Ed (Ec (Eb [2] rfl (En (Eq rfl rfl ?_)))))
 rotate_left
 intro h1
 try rw [nnp] at h1
 refine s_gF rfl (s_gF rfl (s_gF rfl (s_gF rfl (Ea (o_pickT rfl rfl) (Ed (Ec (Eb [1, 12] rfl (s_condT rfl (Ee (Eg (Ea (Ef rfl) ?_)))))))))))
 refine Ed (Ec (Eb [2] rfl (En (Ei (Eq rfl rfl ?_)))))
 rotate_left
 all_goals
  first | exact cost_leaf (by assumption) (by assumption) | simp_all [Conf.cost]
theorem c_214 (x : Conf) : CV prg 214 [.agg x.r] (fun res => res = .w (.int .i64 x.slot)) := by
 have hc := x.cost_bd
 refine cv_in g214 (Eb [0] rfl (Ee (Eg (Ea (o_box rfl rfl rfl) (Ea (Ef rfl) (Ed (Ec (Eb [1] rfl (Ee (Ee (Eg ?_)))))))))))
 refine Ea (o_ldnC rfl rfl rfl) ?_
 first | refine Et rfl rfl (c_186 ..) ?_ | refine Er rfl rfl (by simp) (c_186 ..) rfl ?_
 refine Ea (o_eql rfl rfl) (Ea (Ef rfl) ?_)
 first | refine s_gDF rfl ?_ ?_ | refine s_gB rfl ?_ ?_
 intro h1
 try rw [nnp] at h1
 try have h1' := inB_t h1
 refine Ea (Ek rfl) (s_gT rfl (Ea (Ep rfl rfl rfl) (s_gT rfl ?_)))
 first | refine Et rfl rfl (c_230 ..) ?_ | refine Er rfl rfl (by simp) (c_230 ..) rfl ?_
 refine s_gT rfl (Ea (o_not rfl) (Ea (o_pickF rfl rfl) (Ed (Ec (Eb [1, 11] rfl ?_)))))
 first | refine Em rfl ?_ ?_ | refine s_condN rfl ?_ ?_ | refine Eu rfl ?_ ?_ | refine Ej rfl ?_ ?_
 intro h2
 try rw [nnp] at h2
 try have h2' := inB_t h2
 refine Ee (Eg (Ea (Ef rfl) (Ed (Ec (Eb [2] rfl (En (Ei (Eq rfl rfl ?_))))))))
 rotate_left
 intro h2
 try rw [nnp] at h2
 try have h2' := inB_t h2
 refine Eo (Ec (Eb [1] rfl (Ee (Eg (Ea (o_ldnC rfl rfl rfl) ?_)))))
 first | refine Et rfl rfl (c_186 ..) ?_ | refine Er rfl rfl (by simp) (c_186 ..) rfl ?_
 first | refine Ea (o_muln rfl rfl (by omega)) ?_ | refine Ea (o_mul rfl rfl) ?_
 refine Ea (Ek rfl) (Ea (Ep rfl rfl rfl) ?_)
 first | refine Ea (o_addn rfl rfl (by omega)) ?_ | refine Ea (o_add rfl rfl) ?_
 refine Ea (Ef rfl) (Ed (Ec (Eb [2] rfl (En (Eq rfl rfl ?_)))))
 rotate_left
 intro h1
 try rw [nnp] at h1
 try have h1' := inB_t h1
 refine s_gF rfl (s_gF rfl (s_gF rfl (s_gF rfl (Ea (o_pickT rfl rfl) (Ed (Ec (Eb [1, 11] rfl (s_condT rfl (Ee (Eg (Ea (Ef rfl) ?_)))))))))))
 refine Ed (Ec (Eb [2] rfl (En (Ei (Eq rfl rfl ?_)))))
 rotate_left
 all_goals
  first | (simp_all [Conf.slot]; done) | (simp_all [Conf.slot, inB]; omega)
theorem c_74 (x : Conf) : CV prg 74 [.agg x.r] (fun res => res = .w (.int .i64 x.slot)) := by
 have hc := x.cost_bd
 refine cv_in g74 (Eb [0] rfl (Ee (Eg (Ea (o_box rfl rfl rfl) (Ea (Ef rfl) (Ed (Ec (Eb [1] rfl (Ee (Ee (Eg ?_)))))))))))
 refine Ea (o_ldnC rfl rfl rfl) ?_
 first | refine Et rfl rfl (c_37 ..) ?_ | refine Er rfl rfl (by simp) (c_37 ..) rfl ?_
 refine Ea (o_eql rfl rfl) (Ea (Ef rfl) ?_)
 first | refine s_gDF rfl ?_ ?_ | refine s_gB rfl ?_ ?_
 intro h1
 try rw [nnp] at h1
 try have h1' := inB_t h1
 refine Ea (Ek rfl) (s_gT rfl (Ea (Ep rfl rfl rfl) (s_gT rfl ?_)))
 first | refine Et rfl rfl (c_103 ..) ?_ | refine Er rfl rfl (by simp) (c_103 ..) rfl ?_
 refine s_gT rfl (Ea (o_not rfl) (Ea (o_pickF rfl rfl) (Ed (Ec (Eb [1, 11] rfl ?_)))))
 first | refine Em rfl ?_ ?_ | refine s_condN rfl ?_ ?_ | refine Eu rfl ?_ ?_ | refine Ej rfl ?_ ?_
 intro h2
 try rw [nnp] at h2
 try have h2' := inB_t h2
 refine Ee (Eg (Ea (Ef rfl) (Ed (Ec (Eb [2] rfl (En (Ei (Eq rfl rfl ?_))))))))
 rotate_left
 intro h2
 try rw [nnp] at h2
 try have h2' := inB_t h2
 refine Eo (Ec (Eb [1] rfl (Ee (Eg (Ea (o_ldnC rfl rfl rfl) ?_)))))
 first | refine Et rfl rfl (c_37 ..) ?_ | refine Er rfl rfl (by simp) (c_37 ..) rfl ?_
 first | refine Ea (o_muln rfl rfl (by omega)) ?_ | refine Ea (o_mul rfl rfl) ?_
 refine Ea (Ek rfl) (Ea (Ep rfl rfl rfl) ?_)
 first | refine Ea (o_addn rfl rfl (by omega)) ?_ | refine Ea (o_add rfl rfl) ?_
 refine Ea (Ef rfl) (Ed (Ec (Eb [2] rfl (En (Eq rfl rfl ?_)))))
 rotate_left
 intro h1
 try rw [nnp] at h1
 try have h1' := inB_t h1
 refine s_gF rfl (s_gF rfl (s_gF rfl (s_gF rfl (Ea (o_pickT rfl rfl) (Ed (Ec (Eb [1, 11] rfl (s_condT rfl (Ee (Eg (Ea (Ef rfl) ?_)))))))))))
 refine Ed (Ec (Eb [2] rfl (En (Ei (Eq rfl rfl ?_)))))
 rotate_left
 all_goals
  first | (simp_all [Conf.slot]; done) | (simp_all [Conf.slot, inB]; omega)
theorem c_245 (x : Conf) : CV prg 245 [.agg x.r] (fun res => res = .w (.bool (inB x.quantum 1 4 && decide (0 < x.cost) && inB x.maxSplit 1 12 && inB x.lockMost 1 40))) := by
 refine cv_in g245 (Eb [0] rfl (Ee (Eg (Ea (o_box rfl rfl rfl) (Ea (Ef rfl) (Ed (Ec (Eb [1] rfl (Ee (Eg (Ea (Ek rfl) ?_)))))))))))
 refine Ea (Ep rfl rfl rfl) ?_
 first | refine Et rfl rfl (c_230 ..) ?_ | refine Er rfl rfl (by simp) (c_230 ..) rfl ?_
 refine Ea (Ef rfl) ?_
 first | refine s_gDT rfl ?_ ?_ | refine s_gNDT rfl ?_ ?_ | refine s_gNT rfl ?_ ?_ | refine s_gB rfl ?_ ?_
 intro h1
 try rw [nnp] at h1
 refine Ea (o_ldnC rfl rfl rfl) (s_gT rfl ?_)
 first | refine Et rfl rfl (c_186 ..) ?_ | refine Er rfl rfl (by simp) (c_186 ..) rfl ?_
 refine s_gT rfl (Ea (o_gtr rfl rfl) (Ea (o_pickT rfl rfl) (Ea (Ef rfl) ?_)))
 first | refine s_gDT rfl ?_ ?_ | refine s_gB rfl ?_ ?_
 intro h2
 try rw [nnp] at h2
 refine Ea (Ek rfl) (s_gT rfl (Ea (Ep rfl rfl rfl) (s_gT rfl ?_)))
 first | refine Et rfl rfl (c_230 ..) ?_ | refine Er rfl rfl (by simp) (c_230 ..) rfl ?_
 refine Ea (o_pickT rfl rfl) (Ea (Ef rfl) (s_keepO (is := [1, 16]) rfl ?_))
 first | refine s_gDT rfl ?_ ?_ | refine s_gNDT rfl ?_ ?_ | refine s_gNT rfl ?_ ?_ | refine s_gB rfl ?_ ?_
 intro h3
 try rw [nnp] at h3
 refine Ea (Ek rfl) (s_gT rfl (Ea (Ep rfl rfl rfl) (s_gT rfl ?_)))
 first | refine Et rfl rfl (c_230 ..) ?_ | refine Er rfl rfl (by simp) (c_230 ..) rfl ?_
 refine Ea (o_pickT rfl rfl) (Ea (Ef rfl) (Ed (Ec (Eb [2] rfl (En (Eh rfl rfl ?_))))))
 rotate_left
 intro h3
 try rw [nnp] at h3
 refine s_gF rfl (s_gF rfl (s_gF rfl (Ea (o_pickF rfl rfl) (Ea (Ef rfl) (Ed (Ec (Eb [2] rfl (En (Eh rfl rfl ?_)))))))))
 rotate_left
 intro h2
 try rw [nnp] at h2
 refine s_gF rfl (s_gF rfl (s_gF rfl (Ea (o_pickF rfl rfl) (Ea (Ef rfl) (s_keepO (is := [1, 16]) rfl (s_gF rfl (s_gF rfl (s_gF rfl (Ea (o_pickF rfl rfl) (Ea (Ef rfl) (Ed ?_)))))))))))
 refine Ec (Eb [2] rfl (En (Eh rfl rfl ?_)))
 rotate_left
 intro h1
 try rw [nnp] at h1
 refine s_gF rfl (s_gF rfl (s_gF rfl (Ea (o_pickF rfl rfl) (Ea (Ef rfl) (s_gF rfl (s_gF rfl (s_gF rfl (Ea (o_pickF rfl rfl) (Ea (Ef rfl) (s_keepO (is := [1, 16]) rfl (s_gF rfl ?_)))))))))))
 refine s_gF rfl (s_gF rfl (Ea (o_pickF rfl rfl) (Ea (Ef rfl) (Ed (Ec (Eb [2] rfl (En (Eh rfl rfl ?_))))))))
 rotate_left
 all_goals
  simp_all <;> omega
theorem prios_step {xs : List MConf} {i : Nat} {y : MConf} (h : xs[i]? = some y) : priosOf (xs.take (i + 1)) = priosOf (xs.take i) + if y.prio then 1 else 0 := by
 rw [take_get h, priosOf, List.countP_append]; simp [priosOf, List.countP_cons]
theorem prios_i (xs : List MConf) (i : Nat) : priosOf (xs.take i) ≤ i := by
 have := priosOf_le (xs.take i); rw [List.length_take] at this; omega
theorem prios_end {xs : List MConf} {i : Nat} (h : ¬ (i : Int) < xs.length) : priosOf (xs.take i) = priosOf xs := by rw [take_end (by omega)]
theorem c_101 (x : Conf) (hl : x.masters.length ≤ 1048576) : CV prg 101 [.agg x.r] (fun res => res = .w (.int .i64 (priosOf x.masters : Int))) := by
 refine cv_in g101 (Eb [0] rfl (Ee (Eg (Ea (o_box rfl rfl rfl) (Ea (Ef rfl) (Ed (Ec (Eb [1] rfl (Ee (Eg (Ea (Ef rfl) ?_)))))))))))
 refine Ed (Ec (Eb [1, 3] rfl (Ee (Ee (Eg (Ea (Ek rfl) (Ea (Ep rfl rfl rfl) ?_)))))))
 first | refine Ea (o_lenM rfl) ?_ | refine Ea (o_len rfl) ?_ | refine Ea (o_lenL rfl rfl rfl) ?_ | refine Ea (o_lenN rfl) ?_
 refine Ea (Ef rfl) (Ed (Ec (Eb [3, 7, 8, 9] rfl (S_block (S_loop0 (ι := Nat) (fun i => i ≤ x.masters.length) (fun i => [(9, .w (.int .i64 (i : Int))), (3, .w (.int .i64 (priosOf (x.masters.take i) : Int)))]) (fun i => x.masters.length - i) 0 (by simp) rfl ⟨rfl, rfl, trivial⟩ (fun _ _ => rfl) rfl ?_)))))
 intro i hi
 have hp := prios_i x.masters i
 refine Eb [3, 7, 8, 9] rfl (Ee (Eg (Ea (o_lss rfl rfl) (Ed (Ec (Eb [3, 7, 8, 9, 10] rfl (Ee ?_)))))))
 first | refine Em rfl ?_ ?_ | refine Ej rfl ?_ ?_
 intro h1
 try rw [nnp] at h1
 refine Eo (Ec (Eb [3, 7, 8, 9] rfl (Ee (S_block (Ee (Eg (s_iaM rfl rfl (by simp at *; omega) ?_)))))))
 intro y2 e2
 try simp only [Int.toNat_natCast, Int.toNat_zero] at e2
 refine Ea (o_ldn rfl rfl) (Ea (o_new rfl rfl) (s_opN (o_stnC rfl rfl rfl rfl rfl rfl rfl) (Ed (Ec (Eb [3, 5, 7, 8, 9] rfl (Ee (Eg (Ea (Ek rfl) (Ea (Ep rfl rfl rfl) (Ed (Ec ?_)))))))))))
 refine Eb [3, 7, 8, 9, 14] rfl ?_
 first | refine Em rfl ?_ ?_ | refine s_condN rfl ?_ ?_ | refine Eu rfl ?_ ?_ | refine Ej rfl ?_ ?_
 intro h3
 try rw [nnp] at h3
 refine Eg (Ea (Ef rfl) ?_)
 first | refine Ea (o_addn rfl rfl (by omega)) ?_ | refine Ea (o_add rfl rfl) ?_
 refine Ea (Ef rfl) (Ed (q_blkN (Ec (Eb [3, 7, 8, 9] rfl (Eg ?_)))))
 first | refine Ea (o_addn rfl rfl (by omega)) ?_ | refine Ea (o_add rfl rfl) ?_
 refine Ea (Ef rfl) (Ed (q_loopN ?_))
 · refine ⟨i + 1, by omega, by omega, hasOf ⟨rfl, ?_, trivial⟩ rfl⟩
   rw [prios_step (by assumption)]; simp_all; rfl
 intro h3
 try rw [nnp] at h3
 refine Eo (q_blkN (Ec (Eb [3, 7, 8, 9] rfl (Eg ?_))))
 first | refine Ea (o_addn rfl rfl (by omega)) ?_ | refine Ea (o_add rfl rfl) ?_
 refine Ea (Ef rfl) (Ed (q_loopN ?_))
 · refine ⟨i + 1, by omega, by omega, hasOf ⟨rfl, ?_, trivial⟩ rfl⟩
   rw [prios_step (by assumption)]; simp_all; rfl
 intro h1
 try rw [nnp] at h1
 refine s_exit (q_seqX (q_loopX (q_blkH (Ec (Eb [3] rfl (Ee (Eg (Ea (Ef rfl) (Ea (Ef rfl) (Ed (Ec ?_)))))))))))
 refine Eb [2] rfl (En (Eq rfl rfl ?_))
 rotate_left
 all_goals
  rw [prios_end (by assumption)]
theorem least_a {x : Conf} (hl : x.masters.length ≤ 1048576) : IntKind.wrap .i64 (IntKind.wrap .i64 (2 * x.slot) * (priosOf x.masters : Int)) = x.least := by
 have h1 := x.slot_bd
 have h2 := priosOf_le x.masters
 rw [wrap_in (2 * x.slot) (by omega)]
 have h3 : 0 ≤ 2 * x.slot * (priosOf x.masters : Int) := Int.mul_nonneg (by omega) (by omega)
 have h4 : 2 * x.slot * (priosOf x.masters : Int) ≤ 260 * 1048576 := Int.mul_le_mul (by omega) (by omega) (by omega) (by omega)
 rw [wrap_in _ (by omega)]; rfl
theorem least_b {x : Conf} (hl : x.masters.length ≤ 1048576) : IntKind.wrap .i64 (IntKind.wrap .i64 (2 * (priosOf x.masters : Int)) * x.slot) = x.least := by
 rw [← least_a hl]
 have h1 := x.slot_bd
 have h2 := priosOf_le x.masters
 rw [wrap_in (2 * x.slot) (by omega), wrap_in (2 * (priosOf x.masters : Int)) (by omega), Int.mul_right_comm]
theorem c_50 (x : Conf) (hl : x.masters.length ≤ 1048576) : CV prg 50 [.agg x.r] (fun res => res = .w (.int .i64 x.least)) := by
 refine cv_in g50 (Eb [0] rfl (Ee (Eg (Ea (o_box rfl rfl rfl) (Ea (Ef rfl) (Ed (Ec (Eb [1] rfl (Ee (Eg (Ea (o_ldnC rfl rfl rfl) ?_)))))))))))
 first | refine Et rfl rfl (c_74 ..) ?_ | refine Er rfl rfl (by simp) (c_74 ..) rfl ?_
 refine Ea (o_mul rfl rfl) (Ea (o_ldnC rfl rfl rfl) ?_)
 first | refine Et rfl rfl (c_101 _ (by assumption)) ?_ | refine Er rfl rfl (by simp) (c_101 _ (by assumption)) rfl ?_
 refine Ea (o_mul rfl rfl) (Ea (Ef rfl) (Ed (Ec (Eb [2] rfl (En (Eq rfl rfl ?_))))))
 rotate_left
 all_goals
  exact least_a hl
theorem c_35 (m : MConf) (x : Conf) (hl : x.masters.length ≤ 1048576) : CV prg 35 [.agg m.r, .rp x.r 0] (fun res => res = .w (.bool (!MConf.ok x.least m))) := by
 refine cv_in g35 (Eb [0, 1] rfl (Ee (Eg (Ea (o_box rfl rfl rfl) (Ea (Ef rfl) (Ed (Ec (Eb [1, 2] rfl (Ee (S_block (Ee ?_)))))))))))
 refine Eg (Ea (Ek rfl) (Ea (Ep rfl rfl rfl) ?_))
 first | refine Et rfl rfl (c_103 ..) ?_ | refine Er rfl rfl (by simp) (c_103 ..) rfl ?_
 refine Ea (o_not rfl) (Ea (Ef rfl) (Ed (Ec (Eb [1, 2, 4] rfl ?_))))
 first | refine Em rfl ?_ ?_ | refine s_condN rfl ?_ ?_ | refine Eu rfl ?_ ?_ | refine Ej rfl ?_ ?_
 intro h1
 try rw [nnp] at h1
 refine Ee (Eg (Ea (Ef rfl) (Ed (Ec (Eb [3] rfl (En (q_blkR (Ei (Eh rfl rfl ?_)))))))))
 rotate_left
 intro h1
 try rw [nnp] at h1
 refine Ee (Eg (Ea (Ek rfl) (Ea (Ep rfl rfl rfl) (Ea (Ef rfl) (Ed (Ec (Eb [1, 2, 9] rfl ?_)))))))
 first | refine Em rfl ?_ ?_ | refine s_condN rfl ?_ ?_ | refine Eu rfl ?_ ?_ | refine Ej rfl ?_ ?_
 intro h2
 try rw [nnp] at h2
 refine Ee (Eg (Ea (Ek rfl) (Ea (Ep rfl rfl rfl) (Ea (o_ldn rfl rfl) ?_))))
 first | refine Et rfl rfl (c_50 _ (by assumption)) ?_ | refine Er rfl rfl (by simp) (c_50 _ (by assumption)) rfl ?_
 first | refine Et rfl rfl (c_103 ..) ?_ | refine Er rfl rfl (by simp) (c_103 ..) rfl ?_
 refine Ea (o_not rfl) (Ea (Ef rfl) ?_)
 first | refine s_gDF rfl ?_ ?_ | refine s_gNDF rfl ?_ ?_ | refine s_gNF rfl ?_ ?_ | refine s_gB rfl ?_ ?_
 intro h3
 try rw [nnp] at h3
 refine Ea (Ek rfl) (s_gT rfl (Ea (Ep rfl rfl rfl) (s_gT rfl ?_)))
 first | refine Et rfl rfl (c_103 ..) ?_ | refine Er rfl rfl (by simp) (c_103 ..) rfl ?_
 refine s_gT rfl (Ea (o_not rfl) (Ea (o_pickF rfl rfl) (Ea (Ef rfl) (Ed (Ec (Eb [3] rfl (En (q_blkR (Ei (Eh rfl rfl ?_))))))))))
 rotate_left
 intro h3
 try rw [nnp] at h3
 refine s_gF rfl (s_gF rfl (s_gF rfl (s_gF rfl (Ea (o_pickT rfl rfl) (Ea (Ef rfl) (Ed (Ec (Eb [3] rfl (En (q_blkR (Ei ?_)))))))))))
 refine Eh rfl rfl ?_
 rotate_left
 intro h2
 try rw [nnp] at h2
 refine Eo (q_blkN (Ec (Eb [2] rfl (Ee (Eg (Ea (Ek rfl) (Ea (Ep rfl rfl rfl) (Ea (o_neq rfl rfl) (Ea (Ef rfl) ?_)))))))))
 first | refine s_gDF rfl ?_ ?_ | refine s_gB rfl ?_ ?_
 intro h4
 try rw [nnp] at h4
 refine Ea (Ek rfl) (s_gT rfl (Ea (Ep rfl rfl rfl) (s_gT rfl (Ea (o_neq rfl rfl) (Ea (o_pickF rfl rfl) (Ea (Ef rfl) (Ed (Ec (Eb [3] rfl (En (Eh rfl rfl ?_)))))))))))
 rotate_left
 intro h4
 try rw [nnp] at h4
 refine s_gF rfl (s_gF rfl (s_gF rfl (Ea (o_pickT rfl rfl) (Ea (Ef rfl) (Ed (Ec (Eb [3] rfl (En (Eh rfl rfl ?_)))))))))
 rotate_left
 all_goals
  simp_all [MConf.ok]
theorem c_269 (xs : List MConf) (hl : xs.length ≤ 140737488355328) (f : Nat) (caps : List V) (hc : caps.all (V.fzV 5) = true) (p : MConf → Bool) (h : ∀ y, y ∈ xs → CV prg f (.agg (MConf.r y) :: caps) (fun v => v = .w (.bool (p y)))) : CV prg 269 [.sl 4 (xs.map MConf.r), .fn f caps] (fun res => res = .w (.int .i64 (idxOf p xs))) := by
 refine cv_in g269 (Eb [0, 1] rfl (Ee (Eg (Ea (Ef rfl) (Ed (Ec (Eb [0, 1] rfl (Ee (Ee (Eg (Ea (Ef rfl) ?_)))))))))))
 first | refine Ea (o_lenM rfl) ?_ | refine Ea (o_len rfl) ?_
 refine Ea (Ef rfl) (Ed (Ec (Eb [0, 1, 7, 8] rfl (S_block (S_loop0 (ι := Nat) (fun i => i ≤ xs.length ∧ (xs.take i).any p = false) (fun i => [(8, .w (.int .i64 (i : Int)))]) (fun i => xs.length - i) 0 (by simp) rfl ⟨rfl, trivial⟩ (fun _ _ => rfl) rfl ?_)))))
 intro i hi
 refine Eb [0, 1, 7, 8] rfl (Ee (Eg (Ea (o_lss rfl rfl) (Ed (Ec (Eb [0, 1, 7, 8, 9] rfl (Ee ?_)))))))
 first | refine Em rfl ?_ ?_ | refine Ej rfl ?_ ?_
 intro h1
 try rw [nnp] at h1
 refine Eo (Ec (Eb [0, 1, 7, 8] rfl (Ee (S_block (Ee (Eg (Ea (Ef rfl) (Ea (Ef rfl) (Ed (Ec (Eb [0, 1, 5, 7, 8] rfl ?_)))))))))))
 refine Ee (Eg (Ea (Ef rfl) (Ea (Ef rfl) (Ea (Ef rfl) (s_iaM rfl rfl (by simp at *; omega) ?_)))))
 intro y2 e2
 try simp only [Int.toNat_natCast, Int.toNat_zero] at e2
 refine Ea (o_ldn rfl rfl) (s_calli rfl rfl (fz1 rfl hc) (h _ (List.mem_of_getElem? (by assumption))) (Ed (Ec (Eb [0, 1, 5, 7, 8, 16] rfl ?_))))
 first | refine Em rfl ?_ ?_ | refine s_condN rfl ?_ ?_ | refine Eu rfl ?_ ?_ | refine Ej rfl ?_ ?_
 intro h3
 try rw [nnp] at h3
 refine Ee (Eg (Ea (Ef rfl) (Ea (Ef rfl) (Ed (Ec (Eb [4] rfl (En (q_blkR (Ei (q_loopR (q_blkR ?_)))))))))))
 refine Ei (Eq rfl rfl ?_)
 rotate_left
 intro h3
 try rw [nnp] at h3
 refine Eo (q_blkN (Ec (Eb [0, 1, 7, 8] rfl (Eg ?_))))
 first | refine Ea (o_addn rfl rfl (by omega)) ?_ | refine Ea (o_add rfl rfl) ?_
 refine Ea (Ef rfl) (Ed (q_loopN ?_))
 · exact ⟨i + 1, ⟨by omega, any_take (by assumption) hi.2 (by assumption)⟩, by omega, hasOf ⟨rfl, trivial⟩ rfl⟩
 intro h1
 try rw [nnp] at h1
 refine s_exit (q_seqX (q_loopX (q_blkH (Ec (Eb [] rfl (Ee (Eg (Ea (Ef rfl) (Ed (Ec (Eb [4] rfl ?_)))))))))))
 refine En (Eq rfl rfl ?_)
 rotate_left
 all_goals
  first | exact (idxOf_at (by assumption) hi.2 (by assumption)).symm | exact (idxOf_no (any_end hi.2 (by omega))).symm
theorem c_258 (xs : List MConf) (hl : xs.length ≤ 140737488355328) (f : Nat) (caps : List V) (hc : caps.all (V.fzV 5) = true) (p : MConf → Bool) (h : ∀ y, y ∈ xs → CV prg f (.agg (MConf.r y) :: caps) (fun v => v = .w (.bool (p y)))) : CV prg 258 [.sl 4 (xs.map MConf.r), .fn f caps] (fun res => res = .w (.bool (xs.any p))) := by
 refine cv_in g258 (Eb [0, 1] rfl (Ee (Eg (Ea (Ef rfl) (Ed (Ec (Eb [0, 1] rfl (Ee (Eg (Ea (Ef rfl) (Ea (Ef rfl) ?_)))))))))))
 refine Et rfl (fz2 rfl hc) (c_269 _ (by assumption) _ _ hc _ h) (Ea (o_geq rfl rfl) (Ea (Ef rfl) (Ed (Ec (Eb [4] rfl (En (Eh rfl rfl ?_)))))))
 rotate_left
 all_goals
  exact idxOf_any p xs
theorem ok_not (l : Int) (xs : List MConf) : (!xs.any (fun m => !MConf.ok l m)) = xs.all (MConf.ok l) := by
 induction xs with
 | nil => rfl
 | cons m xs ih => simp only [List.any_cons, List.all_cons, Bool.not_or, Bool.not_not, ih]
theorem c_34 (x : Conf) (hl : x.masters.length ≤ 1048576) : CV prg 34 [.agg x.r] (fun res => res = .w (.bool x.ok)) := by
 refine cv_in g34 (Eb [0] rfl (Ee (Eg (Ea (o_box rfl rfl rfl) (Ea (Ef rfl) (Ed (Ec (Eb [1] rfl (Ee (Ee (Eg ?_)))))))))))
 refine Ea (Ek rfl) (Ea (Ep rfl rfl rfl) ?_)
 first | refine Ea (o_lenM rfl) ?_ | refine Ea (o_len rfl) ?_ | refine Ea (o_lenL rfl rfl rfl) ?_ | refine Ea (o_lenN rfl) ?_
 refine Et rfl rfl (c_103 ..) (Ea (o_not rfl) (Ea (Ef rfl) ?_))
 first | refine s_gDF rfl ?_ ?_ | refine s_gNDF rfl ?_ ?_ | refine s_gNF rfl ?_ ?_ | refine s_gB rfl ?_ ?_
 intro h1
 try rw [nnp] at h1
 refine Ea (Ek rfl) (s_gT rfl (Ea (Ep rfl rfl rfl) (s_gT rfl ?_)))
 first | refine Et rfl rfl (c_103 ..) ?_ | refine Er rfl rfl (by simp) (c_103 ..) rfl ?_
 refine s_gT rfl (Ea (o_not rfl) (Ea (o_pickF rfl rfl) (Ea (Ef rfl) ?_)))
 first | refine s_gDF rfl ?_ ?_ | refine s_gNDF rfl ?_ ?_ | refine s_gNF rfl ?_ ?_ | refine s_gB rfl ?_ ?_
 intro h2
 try rw [nnp] at h2
 refine Ea (Ek rfl) (s_gT rfl (Ea (Ep rfl rfl rfl) (s_keepO (is := [1, 14, 16]) rfl (s_gT rfl ?_))))
 first | refine Et rfl rfl (c_103 ..) ?_ | refine Er rfl rfl (by simp) (c_103 ..) rfl ?_
 refine s_gT rfl (Ea (o_not rfl) (Ea (o_pickF rfl rfl) (Ea (Ef rfl) ?_)))
 first | refine s_gDF rfl ?_ ?_ | refine s_gNDF rfl ?_ ?_ | refine s_gNF rfl ?_ ?_ | refine s_gB rfl ?_ ?_
 intro h3
 try rw [nnp] at h3
 refine Ea (o_ldnC rfl rfl rfl) (s_gT rfl ?_)
 first | refine Et rfl rfl (c_74 ..) ?_ | refine Er rfl rfl (by simp) (c_74 ..) rfl ?_
 refine s_gT rfl (Ea (o_eql rfl rfl) (Ea (o_pickF rfl rfl) (Ed (Ec (Eb [1, 24] rfl ?_)))))
 first | refine Em rfl ?_ ?_ | refine Ej rfl ?_ ?_
 intro h4
 try rw [nnp] at h4
 refine Ee (Eg (Ea (Ef rfl) (Ed (Ec (Eb [2] rfl (En (Ei (Eh rfl rfl ?_))))))))
 rotate_left
 intro h4
 try rw [nnp] at h4
 refine Eo (Ec (Eb [1] rfl (Ee (Eg (Ea (Ek rfl) (Ea (Ep rfl rfl rfl) (Ea (o_fn rfl) (Er rfl rfl (by simp) (c_258 _ (by omega) _ _ rfl (fun m => !MConf.ok x.least m) (fun y _ => c_35 y x hl)) rfl (Ea (o_not rfl) (Ea (Ef rfl) (Ed ?_)))))))))))
 refine Ec (Eb [2] rfl (En (Eh rfl rfl ?_)))
 rotate_left
 intro h3
 try rw [nnp] at h3
 refine s_gF rfl (s_gF rfl (s_gF rfl (Ea (o_pickT rfl rfl) (Ed (Ec (Eb [1, 24] rfl (s_condT rfl (Ee (Eg (Ea (Ef rfl) (Ed ?_)))))))))))
 refine Ec (Eb [2] rfl (En (Ei (Eh rfl rfl ?_))))
 rotate_left
 intro h2
 try rw [nnp] at h2
 refine s_gF rfl (s_gF rfl (s_keepO (is := [1, 14, 16]) rfl (s_gF rfl (s_gF rfl (Ea (o_pickT rfl rfl) (Ea (Ef rfl) (s_gF rfl (s_gF rfl (s_gF rfl (Ea (o_pickT rfl rfl) (Ed ?_)))))))))))
 refine Ec (Eb [1, 24] rfl (s_condT rfl (Ee (Eg (Ea (Ef rfl) (Ed (Ec (Eb [2] rfl (En (Ei (Eh rfl rfl ?_)))))))))))
 rotate_left
 intro h1
 try rw [nnp] at h1
 refine s_gF rfl (s_gF rfl (s_gF rfl (s_gF rfl (Ea (o_pickT rfl rfl) (Ea (Ef rfl) (s_gF rfl (s_gF rfl (s_keepO (is := [1, 14, 16]) rfl (s_gF rfl (s_gF rfl (Ea (o_pickT rfl rfl) ?_)))))))))))
 refine Ea (Ef rfl) (s_gF rfl (s_gF rfl (s_gF rfl (Ea (o_pickT rfl rfl) (Ed (Ec (Eb [1, 24] rfl (s_condT rfl (Ee (Eg (Ea (Ef rfl) ?_)))))))))))
 refine Ed (Ec (Eb [2] rfl (En (Ei (Eh rfl rfl ?_)))))
 rotate_left
 all_goals
  first | (rw [ok_not]; simp_all [Conf.ok]; done) | (simp_all [Conf.ok]; done)
theorem c_184 (x : Conf) (hl : x.masters.length ≤ 1048576) : CV prg 184 [.agg x.r] (fun res => res = .w (.bool x.ok)) := by
 have hL := least_b hl
 refine cv_in g184 (Eb [0] rfl (Ee (Eg (Ea (o_box rfl rfl rfl) (Ea (Ef rfl) (Ed (Ec (Eb [1] rfl (Ee (Eg (Ea (Ef rfl) ?_)))))))))))
 refine Ed (Ec (Eb [1, 3] rfl (Ee (Ee (Eg (Ea (Ef rfl) (Ed (Ec (Eb [1, 3, 4] rfl (S_block (S_loop0 (ι := Nat) (fun i => i ≤ x.masters.length) (fun i => [(4, .w (.int .i64 (i : Int))), (3, .w (.int .i64 (priosOf (x.masters.take i) : Int)))]) (fun i => x.masters.length - i) 0 (by simp) rfl ⟨rfl, rfl, trivial⟩ (fun _ _ => rfl) rfl ?_)))))))))))
 intro i hi
 have hp := prios_i x.masters i
 refine Eb [1, 3, 4] rfl (Ee (Ee (Eg (Ea (Ef rfl) (Ea (Ek rfl) (Ea (Ep rfl rfl rfl) ?_))))))
 first | refine Ea (o_lenM rfl) ?_ | refine Ea (o_len rfl) ?_ | refine Ea (o_lenL rfl rfl rfl) ?_ | refine Ea (o_lenN rfl) ?_
 refine Ea (o_lss rfl rfl) (Ed (Ec (Eb [1, 3, 4, 11] rfl ?_)))
 first | refine Em rfl ?_ ?_ | refine Ej rfl ?_ ?_
 intro h1
 try rw [nnp] at h1
 try rw [hL] at h1
 refine Eo (Ec (Eb [1, 3, 4] rfl (Ee (S_block (Ee (Eg (Ea (Ek rfl) (Ea (Ep rfl rfl rfl) (Ea (Ef rfl) (s_iaM rfl rfl (by simp at *; omega) ?_))))))))))
 intro y2 e2
 try simp only [Int.toNat_natCast, Int.toNat_zero] at e2
 refine Ea (o_fa rfl) (Ea (o_ld rfl rfl) (Ed (Ec (Eb [1, 3, 4, 19] rfl ?_))))
 first | refine Em rfl ?_ ?_ | refine s_condN rfl ?_ ?_ | refine Eu rfl ?_ ?_ | refine Ej rfl ?_ ?_
 intro h3
 try rw [nnp] at h3
 try rw [hL] at h3
 refine Eg (Ea (Ef rfl) ?_)
 first | refine Ea (o_addn rfl rfl (by omega)) ?_ | refine Ea (o_add rfl rfl) ?_
 refine Ea (Ef rfl) (Ed (q_blkN (Ec (Eb [1, 3, 4] rfl (Eg (Ea (Ef rfl) ?_))))))
 first | refine Ea (o_addn rfl rfl (by omega)) ?_ | refine Ea (o_add rfl rfl) ?_
 refine Ea (Ef rfl) (Ed (q_loopN ?_))
 · refine ⟨i + 1, by omega, by omega, hasOf ⟨rfl, ?_, trivial⟩ rfl⟩
   rw [prios_step (by assumption)]; simp_all; rfl
 intro h3
 try rw [nnp] at h3
 try rw [hL] at h3
 refine Eo (q_blkN (Ec (Eb [1, 3, 4] rfl (Eg (Ea (Ef rfl) ?_)))))
 first | refine Ea (o_addn rfl rfl (by omega)) ?_ | refine Ea (o_add rfl rfl) ?_
 refine Ea (Ef rfl) (Ed (q_loopN ?_))
 · refine ⟨i + 1, by omega, by omega, hasOf ⟨rfl, ?_, trivial⟩ rfl⟩
   rw [prios_step (by assumption)]; simp_all; rfl
 intro h1
 try rw [nnp] at h1
 try rw [hL] at h1
 refine s_exit (q_seqX (q_loopX (q_blkH (Ec (Eb [1, 3] rfl (Ee (Ee (Eg (Ea (Ef rfl) (Ed (Ec ?_)))))))))))
 refine Eb [1, 3, 5] rfl (S_block (s_eqv 3 rfl (congrArg (fun n : Nat => V.w (.int .i64 (n : Int))) (by rw [take_end (by omega)])) (S_loop0 (ι := Nat) (fun i => i ≤ x.masters.length ∧ (x.masters.take i).all (MConf.ok x.least) = true) (fun i => [(5, .w (.int .i64 (i : Int)))]) (fun i => x.masters.length - i) 0 (by simp) rfl ⟨rfl, trivial⟩ (fun _ _ => rfl) rfl ?_)))
 intro i hi
 refine Eb [1, 3, 5] rfl (Ee (Ee (Eg (Ea (Ef rfl) (Ea (Ek rfl) (Ea (Ep rfl rfl rfl) ?_))))))
 first | refine Ea (o_lenM rfl) ?_ | refine Ea (o_len rfl) ?_ | refine Ea (o_lenL rfl rfl rfl) ?_ | refine Ea (o_lenN rfl) ?_
 refine Ea (o_lss rfl rfl) (Ed (Ec (Eb [1, 3, 5, 26] rfl ?_)))
 first | refine Em rfl ?_ ?_ | refine Ej rfl ?_ ?_
 intro h4
 try rw [nnp] at h4
 try rw [hL] at h4
 refine Eo (Ec (Eb [1, 3, 5] rfl (Ee (S_block (Ee (Eg (Ea (Ek rfl) (Ea (Ep rfl rfl rfl) (Ea (Ef rfl) (s_iaM rfl rfl (by simp at *; omega) ?_))))))))))
 intro y5 e5
 try simp only [Int.toNat_natCast, Int.toNat_zero] at e5
 refine Ea (o_ldn rfl rfl) (Ea (o_new rfl rfl) (s_opN (o_stnC rfl rfl rfl rfl rfl rfl rfl) (Ed (Ec (Eb [1, 3, 5, 6] rfl (Ee (Eg (Ea (Ek rfl) (Ea (Ep rfl rfl rfl) ?_)))))))))
 first | refine Et rfl rfl (c_230 ..) ?_ | refine Er rfl rfl (by simp) (c_230 ..) rfl ?_
 refine Ea (o_not rfl) (Ea (Ef rfl) ?_)
 first | refine s_gDF rfl ?_ ?_ | refine s_gNDF rfl ?_ ?_ | refine s_gNF rfl ?_ ?_ | refine s_gB rfl ?_ ?_
 intro h6
 try rw [nnp] at h6
 try rw [hL] at h6
 refine Ea (Ek rfl) (s_gT rfl (Ea (Ep rfl rfl rfl) (s_gT rfl (Ea (o_not rfl) (s_gT rfl (Ea (Ef rfl) ?_))))))
 first | refine s_gDT rfl ?_ ?_ | refine s_gNDT rfl ?_ ?_ | refine s_gNT rfl ?_ ?_ | refine s_gB rfl ?_ ?_
 intro h7
 try rw [nnp] at h7
 try rw [hL] at h7
 refine Ea (Ek rfl) (s_gT rfl (Ea (Ep rfl rfl rfl) (s_gT rfl (Ea (o_neq rfl rfl) (s_gT rfl (Ea (Ef rfl) ?_))))))
 first | refine s_gDF rfl ?_ ?_ | refine s_gB rfl ?_ ?_
 intro h8
 try rw [nnp] at h8
 try rw [hL] at h8
 refine Ea (Ek rfl) (s_keepO (is := [1, 3, 5, 6, 38, 39, 40, 41, 42, 43, 44, 45, 46, 47]) rfl (s_gT rfl (Ea (Ep rfl rfl rfl) (s_gT rfl (Ea (o_neq rfl rfl) (s_gT rfl (Ea (o_pickF rfl rfl) (s_gT rfl (Ea (o_pickT rfl rfl) (Ea (o_pickF rfl rfl) (Ea (Ef rfl) ?_)))))))))))
 first | refine s_gDF rfl ?_ ?_ | refine s_gB rfl ?_ ?_
 intro h9
 try rw [nnp] at h9
 try rw [hL] at h9
 refine Ea (Ek rfl) (s_gT rfl (Ea (Ep rfl rfl rfl) (s_gT rfl (Ea (Ef rfl) ?_))))
 first | refine s_gDT rfl ?_ ?_ | refine s_gNDT rfl ?_ ?_ | refine s_gNT rfl ?_ ?_ | refine s_gB rfl ?_ ?_
 intro h10
 try rw [nnp] at h10
 try rw [hL] at h10
 refine Ea (Ek rfl) (s_gT rfl (Ea (Ep rfl rfl rfl) (s_gT rfl (Ea (Ef rfl) (s_gT rfl (Ea (o_mul rfl rfl) (s_gT rfl (Ea (o_ldnC rfl rfl rfl) (s_keepO (is := [1, 3, 5, 6, 39, 40, 41, 42, 43, 44, 45, 46, 47, 48, 49, 50, 51, 53, 54, 55, 56, 57, 58, 59, 60, 61]) rfl (s_gT rfl ?_))))))))))
 first | refine Et rfl rfl (c_214 ..) ?_ | refine Er rfl rfl (by simp) (c_214 ..) rfl ?_
 refine s_gT rfl (Ea (o_mul rfl rfl) (s_gT rfl ?_))
 first | refine Et rfl rfl (c_230 ..) ?_ | refine Er rfl rfl (by simp) (c_230 ..) rfl ?_
 refine s_gT rfl (Ea (o_not rfl) (s_gT rfl (Ea (Ef rfl) ?_)))
 first | refine s_gDF rfl ?_ ?_ | refine s_gNDF rfl ?_ ?_ | refine s_gNF rfl ?_ ?_ | refine s_gB rfl ?_ ?_
 intro h11
 try rw [nnp] at h11
 try rw [hL] at h11
 refine Ea (Ek rfl) (s_gT rfl (Ea (Ep rfl rfl rfl) (s_gT rfl ?_)))
 first | refine Et rfl rfl (c_230 ..) ?_ | refine Er rfl rfl (by simp) (c_230 ..) rfl ?_
 refine s_gT rfl (Ea (o_not rfl) (s_gT rfl (Ea (o_pickF rfl rfl) (s_gT rfl (Ea (o_pickT rfl rfl) (Ea (o_pickF rfl rfl) (Ed (Ec (Eb [1, 3, 5, 39, 40, 41, 42, 43, 44, 45, 46, 47, 48, 49, 50, 51, 54, 55, 56, 57, 58, 59, 60, 61, 62, 63, 64, 65, 66, 67, 68, 69, 70, 71, 72, 73] rfl ?_)))))))))
 first | refine Em rfl ?_ ?_ | refine s_condN rfl ?_ ?_ | refine Eu rfl ?_ ?_ | refine Ej rfl ?_ ?_
 intro h12
 try rw [nnp] at h12
 try rw [hL] at h12
 refine Ee (Eg (Ea (Ef rfl) (Ed (Ec (Eb [2] rfl (En (q_blkR (Ei (q_loopR (q_blkR (Ei ?_)))))))))))
 refine Eh rfl rfl ?_
 rotate_left
 intro h12
 try rw [nnp] at h12
 try rw [hL] at h12
 refine Eo (q_blkN (Ec (Eb [1, 3, 5, 39, 40, 41, 42, 43, 44, 45, 46, 47, 48, 49, 50, 51, 54, 55, 56, 57, 58, 59, 60, 61, 62, 63, 64, 65, 66, 67, 68, 69, 70, 71, 72] rfl (Eg (Ea (Ef rfl) ?_)))))
 first | refine Ea (o_addn rfl rfl (by omega)) ?_ | refine Ea (o_add rfl rfl) ?_
 refine Ea (Ef rfl) (Ed (q_loopN ?_))
 · refine ⟨i + 1, ⟨by omega, all_take (by assumption) hi.2 ?_⟩, by omega, hasOf ⟨rfl, trivial⟩ rfl⟩
   clear hi
   simp_all [MConf.ok]
 intro h11
 try rw [nnp] at h11
 try rw [hL] at h11
 refine s_gF rfl (s_gF rfl (s_gF rfl (s_gF rfl (s_gT rfl (Ea (o_pickT rfl rfl) (s_gT rfl (Ea (o_pickT rfl rfl) (Ea (o_pickF rfl rfl) (Ed (Ec (Eb [1, 3, 5, 39, 40, 41, 42, 43, 44, 45, 46, 47, 48, 49, 50, 51, 54, 55, 56, 57, 58, 59, 60, 61, 62, 63, 64, 65, 66, 67, 68, 69, 70, 71, 72, 73] rfl ?_)))))))))))
 refine s_condT rfl (Ee (Eg (Ea (Ef rfl) (Ed (Ec (Eb [2] rfl (En (q_blkR (Ei (q_loopR (q_blkR ?_)))))))))))
 refine Ei (Eh rfl rfl ?_)
 rotate_left
 intro h10
 try rw [nnp] at h10
 try rw [hL] at h10
 refine s_gF rfl (s_gF rfl (s_gF rfl (s_gF rfl (s_gF rfl (s_keepO (is := [1, 3, 5, 6, 39, 40, 41, 42, 43, 44, 45, 46, 47, 48, 49, 50, 51, 53, 54, 55, 56, 57, 58, 59, 60, 61]) rfl (s_gF rfl (s_gF rfl (s_gF rfl (s_gF rfl (s_gF rfl (s_gN rfl ?_)))))))))))
 refine s_gN rfl (s_gN rfl (s_gN rfl (s_gF rfl (s_gT rfl (Ea (o_pickF rfl rfl) (Ea (o_pickF rfl rfl) (Ed (Ec (Eb [1, 3, 5, 39, 40, 41, 42, 43, 44, 45, 46, 47, 48, 49, 50, 51, 54, 55, 56, 57, 58, 59, 60, 61, 62, 63, 64, 65, 66, 67, 68, 69, 70, 71, 72, 73] rfl (s_condF rfl (Eo ?_)))))))))))
 refine q_blkN (Ec (Eb [1, 3, 5, 39, 40, 41, 42, 43, 44, 45, 46, 47, 48, 49, 50, 51, 54, 55, 56, 57, 58, 59, 60, 61, 62, 63, 64, 65, 66, 67, 68, 69, 70, 71, 72] rfl (Eg (Ea (Ef rfl) ?_))))
 first | refine Ea (o_addn rfl rfl (by omega)) ?_ | refine Ea (o_add rfl rfl) ?_
 refine Ea (Ef rfl) (Ed (q_loopN ?_))
 · refine ⟨i + 1, ⟨by omega, all_take (by assumption) hi.2 ?_⟩, by omega, hasOf ⟨rfl, trivial⟩ rfl⟩
   clear hi
   simp_all [MConf.ok]
 intro h9
 try rw [nnp] at h9
 try rw [hL] at h9
 refine s_gF rfl (s_gF rfl (s_gF rfl (s_gN rfl (s_gN rfl (s_gN rfl (s_gN rfl (s_gN rfl (s_keepO (is := [1, 3, 5, 6, 39, 40, 41, 42, 43, 44, 45, 46, 47, 48, 49, 50, 51, 53, 54, 55, 56, 57, 58, 59, 60, 61]) rfl ?_))))))))
 iterate 10 refine s_gN rfl ?_
 refine s_gF rfl (Ea (o_pickT rfl rfl) (Ed (Ec (Eb [1, 3, 5, 39, 40, 41, 42, 43, 44, 45, 46, 47, 48, 49, 50, 51, 54, 55, 56, 57, 58, 59, 60, 61, 62, 63, 64, 65, 66, 67, 68, 69, 70, 71, 72, 73] rfl (s_condT rfl (Ee (Eg (Ea (Ef rfl) (Ed (Ec (Eb [2] rfl ?_)))))))))))
 refine En (q_blkR (Ei (q_loopR (q_blkR (Ei (Eh rfl rfl ?_))))))
 rotate_left
 intro h8
 try rw [nnp] at h8
 try rw [hL] at h8
 refine s_gF rfl (s_keepO (is := [1, 3, 5, 6, 38, 39, 40, 41, 42, 43, 44, 45, 46, 47]) rfl (s_gF rfl (s_gF rfl (s_gT rfl (Ea (o_pickT rfl rfl) (s_gT rfl (Ea (o_pickT rfl rfl) (Ea (o_pickF rfl rfl) (Ea (Ef rfl) (s_gF rfl (s_gF rfl ?_)))))))))))
 refine s_gF rfl (s_gN rfl (s_gN rfl (s_gN rfl (s_gN rfl (s_gN rfl (s_keepO (is := [1, 3, 5, 6, 39, 40, 41, 42, 43, 44, 45, 46, 47, 48, 49, 50, 51, 53, 54, 55, 56, 57, 58, 59, 60, 61]) rfl ?_))))))
 iterate 10 refine s_gN rfl ?_
 refine s_gF rfl (Ea (o_pickT rfl rfl) (Ed (Ec (Eb [1, 3, 5, 39, 40, 41, 42, 43, 44, 45, 46, 47, 48, 49, 50, 51, 54, 55, 56, 57, 58, 59, 60, 61, 62, 63, 64, 65, 66, 67, 68, 69, 70, 71, 72, 73] rfl (s_condT rfl (Ee (Eg (Ea (Ef rfl) (Ed (Ec (Eb [2] rfl ?_)))))))))))
 refine En (q_blkR (Ei (q_loopR (q_blkR (Ei (Eh rfl rfl ?_))))))
 rotate_left
 intro h7
 try rw [nnp] at h7
 try rw [hL] at h7
 refine s_gF rfl (s_gF rfl (s_gF rfl (s_gF rfl (s_gN rfl (s_keepO (is := [1, 3, 5, 6, 38, 39, 40, 41, 42, 43, 44, 45, 46, 47]) rfl (s_gN rfl (s_gN rfl (s_gF rfl (s_gT rfl (Ea (o_pickF rfl rfl) (Ea (o_pickF rfl rfl) ?_)))))))))))
 refine Ea (Ef rfl) (s_gT rfl (Ea (Ek rfl) (s_gT rfl (Ea (Ep rfl rfl rfl) (s_gT rfl (Ea (Ef rfl) ?_))))))
 first | refine s_gDT rfl ?_ ?_ | refine s_gNDT rfl ?_ ?_ | refine s_gNT rfl ?_ ?_ | refine s_gB rfl ?_ ?_
 intro h13
 try rw [nnp] at h13
 try rw [hL] at h13
 refine Ea (Ek rfl) (s_gT rfl (Ea (Ep rfl rfl rfl) (s_gT rfl (Ea (Ef rfl) (s_gT rfl (Ea (o_mul rfl rfl) (s_gT rfl (Ea (o_ldnC rfl rfl rfl) (s_keepO (is := [1, 3, 5, 6, 39, 40, 41, 42, 43, 44, 45, 46, 47, 48, 49, 50, 51, 53, 54, 55, 56, 57, 58, 59, 60, 61]) rfl (s_gT rfl ?_))))))))))
 first | refine Et rfl rfl (c_214 ..) ?_ | refine Er rfl rfl (by simp) (c_214 ..) rfl ?_
 refine s_gT rfl (Ea (o_mul rfl rfl) (s_gT rfl ?_))
 first | refine Et rfl rfl (c_230 ..) ?_ | refine Er rfl rfl (by simp) (c_230 ..) rfl ?_
 refine s_gT rfl (Ea (o_not rfl) (s_gT rfl (Ea (Ef rfl) ?_)))
 first | refine s_gDF rfl ?_ ?_ | refine s_gNDF rfl ?_ ?_ | refine s_gNF rfl ?_ ?_ | refine s_gB rfl ?_ ?_
 intro h14
 try rw [nnp] at h14
 try rw [hL] at h14
 refine Ea (Ek rfl) (s_gT rfl (Ea (Ep rfl rfl rfl) (s_gT rfl ?_)))
 first | refine Et rfl rfl (c_230 ..) ?_ | refine Er rfl rfl (by simp) (c_230 ..) rfl ?_
 refine s_gT rfl (Ea (o_not rfl) (s_gT rfl (Ea (o_pickF rfl rfl) (s_gT rfl (Ea (o_pickT rfl rfl) (Ea (o_pickF rfl rfl) (Ed (Ec (Eb [1, 3, 5, 39, 40, 41, 42, 43, 44, 45, 46, 47, 48, 49, 50, 51, 54, 55, 56, 57, 58, 59, 60, 61, 62, 63, 64, 65, 66, 67, 68, 69, 70, 71, 72, 73] rfl ?_)))))))))
 first | refine Em rfl ?_ ?_ | refine s_condN rfl ?_ ?_ | refine Eu rfl ?_ ?_ | refine Ej rfl ?_ ?_
 intro h15
 try rw [nnp] at h15
 try rw [hL] at h15
 refine Ee (Eg (Ea (Ef rfl) (Ed (Ec (Eb [2] rfl (En (q_blkR (Ei (q_loopR (q_blkR (Ei ?_)))))))))))
 refine Eh rfl rfl ?_
 rotate_left
 intro h15
 try rw [nnp] at h15
 try rw [hL] at h15
 refine Eo (q_blkN (Ec (Eb [1, 3, 5, 39, 40, 41, 42, 43, 44, 45, 46, 47, 48, 49, 50, 51, 54, 55, 56, 57, 58, 59, 60, 61, 62, 63, 64, 65, 66, 67, 68, 69, 70, 71, 72] rfl (Eg (Ea (Ef rfl) ?_)))))
 first | refine Ea (o_addn rfl rfl (by omega)) ?_ | refine Ea (o_add rfl rfl) ?_
 refine Ea (Ef rfl) (Ed (q_loopN ?_))
 · refine ⟨i + 1, ⟨by omega, all_take (by assumption) hi.2 ?_⟩, by omega, hasOf ⟨rfl, trivial⟩ rfl⟩
   clear hi
   simp_all [MConf.ok]
 intro h14
 try rw [nnp] at h14
 try rw [hL] at h14
 refine s_gF rfl (s_gF rfl (s_gF rfl (s_gF rfl (s_gT rfl (Ea (o_pickT rfl rfl) (s_gT rfl (Ea (o_pickT rfl rfl) (Ea (o_pickF rfl rfl) (Ed (Ec (Eb [1, 3, 5, 39, 40, 41, 42, 43, 44, 45, 46, 47, 48, 49, 50, 51, 54, 55, 56, 57, 58, 59, 60, 61, 62, 63, 64, 65, 66, 67, 68, 69, 70, 71, 72, 73] rfl ?_)))))))))))
 refine s_condT rfl (Ee (Eg (Ea (Ef rfl) (Ed (Ec (Eb [2] rfl (En (q_blkR (Ei (q_loopR (q_blkR ?_)))))))))))
 refine Ei (Eh rfl rfl ?_)
 rotate_left
 intro h13
 try rw [nnp] at h13
 try rw [hL] at h13
 refine s_gF rfl (s_gF rfl (s_gF rfl (s_gF rfl (s_gF rfl (s_keepO (is := [1, 3, 5, 6, 39, 40, 41, 42, 43, 44, 45, 46, 47, 48, 49, 50, 51, 53, 54, 55, 56, 57, 58, 59, 60, 61]) rfl (s_gF rfl (s_gF rfl (s_gF rfl (s_gF rfl (s_gF rfl (s_gN rfl ?_)))))))))))
 refine s_gN rfl (s_gN rfl (s_gN rfl (s_gF rfl (s_gT rfl (Ea (o_pickF rfl rfl) (Ea (o_pickF rfl rfl) (Ed (Ec (Eb [1, 3, 5, 39, 40, 41, 42, 43, 44, 45, 46, 47, 48, 49, 50, 51, 54, 55, 56, 57, 58, 59, 60, 61, 62, 63, 64, 65, 66, 67, 68, 69, 70, 71, 72, 73] rfl (s_condF rfl (Eo ?_)))))))))))
 refine q_blkN (Ec (Eb [1, 3, 5, 39, 40, 41, 42, 43, 44, 45, 46, 47, 48, 49, 50, 51, 54, 55, 56, 57, 58, 59, 60, 61, 62, 63, 64, 65, 66, 67, 68, 69, 70, 71, 72] rfl (Eg (Ea (Ef rfl) ?_))))
 first | refine Ea (o_addn rfl rfl (by omega)) ?_ | refine Ea (o_add rfl rfl) ?_
 refine Ea (Ef rfl) (Ed (q_loopN ?_))
 · refine ⟨i + 1, ⟨by omega, all_take (by assumption) hi.2 ?_⟩, by omega, hasOf ⟨rfl, trivial⟩ rfl⟩
   clear hi
   simp_all [MConf.ok]
 intro h6
 try rw [nnp] at h6
 try rw [hL] at h6
 refine s_gF rfl (s_gF rfl (s_gF rfl (s_gF rfl (s_gN rfl (s_gN rfl (s_gN rfl (s_gN rfl (s_gN rfl (s_keepO (is := [1, 3, 5, 6, 38, 39, 40, 41, 42, 43, 44, 45, 46, 47]) rfl (s_gN rfl (s_gN rfl ?_)))))))))))
 refine s_gN rfl (s_gF rfl (Ea (o_pickT rfl rfl) (Ea (Ef rfl) (s_gF rfl (s_gF rfl (s_gF rfl (s_gN rfl (s_gN rfl (s_gN rfl (s_gN rfl (s_gN rfl ?_)))))))))))
 refine s_keepO (is := [1, 3, 5, 6, 39, 40, 41, 42, 43, 44, 45, 46, 47, 48, 49, 50, 51, 53, 54, 55, 56, 57, 58, 59, 60, 61]) rfl ?_
 iterate 10 refine s_gN rfl ?_
 refine s_gF rfl (Ea (o_pickT rfl rfl) (Ed (Ec (Eb [1, 3, 5, 39, 40, 41, 42, 43, 44, 45, 46, 47, 48, 49, 50, 51, 54, 55, 56, 57, 58, 59, 60, 61, 62, 63, 64, 65, 66, 67, 68, 69, 70, 71, 72, 73] rfl (s_condT rfl (Ee (Eg (Ea (Ef rfl) (Ed (Ec (Eb [2] rfl ?_)))))))))))
 refine En (q_blkR (Ei (q_loopR (q_blkR (Ei (Eh rfl rfl ?_))))))
 rotate_left
 intro h4
 try rw [nnp] at h4
 try rw [hL] at h4
 refine s_exit (q_seqX (q_loopX (q_blkH (Ec (Eb [1] rfl (Ee (Eg (Ea (Ek rfl) (Ea (Ep rfl rfl rfl) ?_)))))))))
 first | refine Ea (o_lenM rfl) ?_ | refine Ea (o_len rfl) ?_ | refine Ea (o_lenL rfl rfl rfl) ?_ | refine Ea (o_lenN rfl) ?_
 refine Et rfl rfl (c_230 ..) (Ea (Ef rfl) ?_)
 first | refine s_gDT rfl ?_ ?_ | refine s_gNDT rfl ?_ ?_ | refine s_gNT rfl ?_ ?_ | refine s_gB rfl ?_ ?_
 intro h16
 try rw [nnp] at h16
 try rw [hL] at h16
 refine Ea (o_ldnC rfl rfl rfl) (s_gT rfl ?_)
 first | refine Et rfl rfl (c_245 ..) ?_ | refine Er rfl rfl (by simp) (c_245 ..) rfl ?_
 refine Ea (o_pickT rfl rfl) (Ea (Ef rfl) (Ed (Ec (Eb [2] rfl (En (Eh rfl rfl ?_))))))
 rotate_left
 intro h16
 try rw [nnp] at h16
 try rw [hL] at h16
 refine s_gF rfl (s_gF rfl (Ea (o_pickF rfl rfl) (Ea (Ef rfl) (Ed (Ec (Eb [2] rfl (En (Eh rfl rfl ?_))))))))
 rotate_left
 all_goals
  first | (refine ok_no (by assumption) ?_; clear hi; simp_all [MConf.ok]; done) | (rw [ok_is (all_end hi.2 (by omega))]; clear hi; simp_all; done)
def Conf.small (x : Conf) : Prop := x.masters.length ≤ 1048576
def Conf.sz (x : Conf) : Nat := x.masters.length
theorem Conf.small_of {x : Conf} (h : x.sz ≤ 1048576) : x.small := by unfold Conf.small; unfold Conf.sz at h; omega
theorem c_133 (x y : MConf) : CV prg 133 [.agg x.r, .agg y.r] (fun res => res = .w (.bool (decide (x = y)))) := by
 refine cv_in g133 (Eb [0, 1] rfl (Ee (Eg (Ea (o_box rfl rfl rfl) (Ea (o_box rfl rfl rfl) (Ea (Ef rfl) (Ed (Ec (Eb [2, 3] rfl (Ee (Ee ?_)))))))))))
 refine Eg (Ea (Ek rfl) (Ea (Ep rfl rfl rfl) (Ea (Ek rfl) (Ea (Ep rfl rfl rfl) (Ea (o_neq rfl rfl) (Ed (Ec (Eb [2, 3, 9] rfl ?_))))))))
 first | refine Em rfl ?_ ?_ | refine Ej rfl ?_ ?_
 intro h1
 try rw [nnp] at h1
 refine Ee (Eg (Ea (Ef rfl) (Ed (Ec (Eb [4] rfl (En (Ei (Eh rfl rfl ?_))))))))
 rotate_left
 intro h1
 try rw [nnp] at h1
 refine Eo (Ec (Eb [2, 3] rfl (Ee (Ee (Eg (Ea (Ek rfl) (Ea (Ep rfl rfl rfl) (Ea (Ek rfl) (Ea (Ep rfl rfl rfl) (Ea (o_eqb rfl rfl) (Ed ?_)))))))))))
 refine Ec (Eb [2, 3, 14] rfl ?_)
 first | refine Eu rfl ?_ ?_ | refine Ej rfl ?_ ?_
 intro h2
 try rw [nnp] at h2
 refine Ee (Eg (Ea (Ef rfl) (Ed (Ec (Eb [4] rfl (En (Ei (Eh rfl rfl ?_))))))))
 rotate_left
 intro h2
 try rw [nnp] at h2
 refine Eo (Ec (Eb [2, 3] rfl (Ee (Ee (Eg (Ea (Ek rfl) (Ea (Ep rfl rfl rfl) (Ea (Ek rfl) (Ea (Ep rfl rfl rfl) (Ea (o_neq rfl rfl) (Ed ?_)))))))))))
 refine Ec (Eb [2, 3, 19] rfl ?_)
 first | refine Em rfl ?_ ?_ | refine Ej rfl ?_ ?_
 intro h3
 try rw [nnp] at h3
 refine Ee (Eg (Ea (Ef rfl) (Ed (Ec (Eb [4] rfl (En (Ei (Eh rfl rfl ?_))))))))
 rotate_left
 intro h3
 try rw [nnp] at h3
 refine Eo (Ec (Eb [2, 3] rfl (Ee (Ee (Eg (Ea (Ek rfl) (Ea (Ep rfl rfl rfl) (Ea (Ek rfl) (Ea (Ep rfl rfl rfl) (Ea (o_neq rfl rfl) (Ed ?_)))))))))))
 refine Ec (Eb [24] rfl ?_)
 first | refine Em rfl ?_ ?_ | refine Ej rfl ?_ ?_
 intro h4
 try rw [nnp] at h4
 refine Ee (Eg (Ea (Ef rfl) (Ed (Ec (Eb [4] rfl (En (Ei (Eh rfl rfl ?_))))))))
 rotate_left
 intro h4
 try rw [nnp] at h4
 refine Eo (Ec (Eb [] rfl (Ee (Eg (Ea (Ef rfl) (Ed (Ec (Eb [4] rfl (En (Eh rfl rfl ?_))))))))))
 rotate_left
 all_goals
  cases x; cases y; simp_all
theorem c_134 (xs ys : List MConf) (hl : xs.length ≤ 1048576) : CV prg 134 [.sl 4 (xs.map MConf.r), .sl 4 (ys.map MConf.r)] (fun res => res = .w (.bool (decide (xs = ys)))) := by
 refine cv_in g134 (Eb [0, 1] rfl (Ee (Eg (Ea (Ef rfl) (Ed (Ec (Eb [0, 1] rfl (Ee (Ee (Eg (Ea (Ef rfl) ?_)))))))))))
 first | refine Ea (o_lenM rfl) ?_ | refine Ea (o_len rfl) ?_
 refine Ea (Ef rfl) ?_
 first | refine Ea (o_lenM rfl) ?_ | refine Ea (o_len rfl) ?_
 refine Ea (o_neq rfl rfl) (Ed (Ec (Eb [0, 1, 10] rfl ?_)))
 first | refine Em rfl ?_ ?_ | refine Ej rfl ?_ ?_
 intro h1
 try rw [nnp] at h1
 refine Ee (Eg (Ea (Ef rfl) (Ed (Ec (Eb [4] rfl (En (Ei (Eh rfl rfl ?_))))))))
 rotate_left
 intro h1
 try rw [nnp] at h1
 refine Eo (Ec (Eb [0, 1] rfl (Ee (Ee (Eg (Ea (Ef rfl) (Ed (Ec (Eb [0, 1, 5] rfl (S_block (S_loop0 (ι := Nat) (fun i => i ≤ xs.length ∧ xs.take i = ys.take i ∧ xs.length = ys.length) (fun i => [(5, .w (.int .i64 (i : Int)))]) (fun i => xs.length - i) 0 ⟨by simp, by simp, by omega⟩ rfl ⟨rfl, trivial⟩ (fun _ _ => rfl) rfl ?_)))))))))))
 intro i hi
 refine Eb [0, 1, 5] rfl (Ee (Ee (Eg (Ea (Ef rfl) (Ea (Ef rfl) ?_)))))
 first | refine Ea (o_lenM rfl) ?_ | refine Ea (o_len rfl) ?_
 refine Ea (o_lss rfl rfl) (Ed (Ec (Eb [0, 1, 5, 14] rfl ?_)))
 first | refine Em rfl ?_ ?_ | refine Ej rfl ?_ ?_
 intro h2
 try rw [nnp] at h2
 refine Eo (Ec (Eb [0, 1, 5] rfl (Ee (S_block (Ee (Eg (Ea (Ef rfl) (Ea (Ef rfl) (s_iaM rfl rfl (by omega) ?_)))))))))
 intro y3 e3
 try simp only [Int.toNat_natCast, Int.toNat_zero] at e3
 refine Ea (o_ldn rfl rfl) (Ea (Ef rfl) (Ea (Ef rfl) (s_iaM rfl rfl (by omega) ?_)))
 intro y4 e4
 try simp only [Int.toNat_natCast, Int.toNat_zero] at e4
 refine Ea (o_ldn rfl rfl) ?_
 first | refine Et rfl rfl (c_133 _ _) ?_ | refine Er rfl rfl (by simp) (c_133 _ _) rfl ?_
 refine Ea (o_not rfl) (Ed (Ec (Eb [0, 1, 5, 26] rfl ?_)))
 first | refine Em rfl ?_ ?_ | refine s_condN rfl ?_ ?_ | refine Eu rfl ?_ ?_ | refine Ej rfl ?_ ?_
 intro h5
 try rw [nnp] at h5
 refine Ee (Eg (Ea (Ef rfl) (Ed (Ec (Eb [4] rfl (En (q_blkR (Ei (q_loopR (q_blkR (Ei ?_)))))))))))
 refine Eh rfl rfl ?_
 rotate_left
 intro h5
 try rw [nnp] at h5
 refine Eo (q_blkN (Ec (Eb [0, 1, 5] rfl (Eg (Ea (Ef rfl) ?_)))))
 first | refine Ea (o_addn rfl rfl (by omega)) ?_ | refine Ea (o_add rfl rfl) ?_
 refine Ea (Ef rfl) (Ed (q_loopN ?_))
 · refine ⟨i + 1, ⟨by omega, eq_take (by assumption) (by assumption) hi.2.1 ?_, hi.2.2⟩, by omega, hasOf ⟨rfl, trivial⟩ rfl⟩
   assumption
 intro h2
 try rw [nnp] at h2
 refine s_exit (q_seqX (q_loopX (q_blkH (Ec (Eb [] rfl (Ee (Eg (Ea (Ef rfl) (Ed (Ec (Eb [4] rfl ?_)))))))))))
 refine En (Eh rfl rfl ?_)
 rotate_left
 all_goals
  first | exact (decide_eq_false (ne_at (by assumption) (by assumption) (by assumption))).symm | exact (decide_eq_true (eq_end hi.2.1 (by omega) hi.2.2)).symm | exact (decide_eq_false (fun e => by subst e; simp_all)).symm
theorem c_128 (x y : Conf) (hs : x.small) : CV prg 128 [.agg x.r, .agg y.r] (fun res => res = .w (.bool (decide (x = y)))) := by
 refine cv_in g128 (Eb [0, 1] rfl (Ee (Eg (Ea (o_box rfl rfl rfl) (Ea (o_box rfl rfl rfl) (Ea (Ef rfl) (Ed (Ec (Eb [2, 3] rfl (Ee (Ee ?_)))))))))))
 refine Eg (Ea (Ek rfl) (Ea (Ep rfl rfl rfl) (Ea (Ek rfl) (Ea (Ep rfl rfl rfl) ?_))))
 first | refine Et rfl rfl (c_134 _ _ hs) ?_ | refine Er rfl rfl (by simp) (c_134 _ _ hs) rfl ?_
 refine Ea (o_not rfl) (Ed (Ec (Eb [2, 3, 10] rfl ?_)))
 first | refine Em rfl ?_ ?_ | refine s_condN rfl ?_ ?_ | refine Eu rfl ?_ ?_ | refine Ej rfl ?_ ?_
 intro h1
 try rw [nnp] at h1
 refine Ee (Eg (Ea (Ef rfl) (Ed (Ec (Eb [4] rfl (En (Ei (Eh rfl rfl ?_))))))))
 rotate_left
 intro h1
 try rw [nnp] at h1
 refine Eo (Ec (Eb [2, 3] rfl (Ee (Ee (Eg (Ea (Ek rfl) (Ea (Ep rfl rfl rfl) (Ea (Ek rfl) (Ea (Ep rfl rfl rfl) (Ea (o_neq rfl rfl) (Ed ?_)))))))))))
 refine Ec (Eb [2, 3, 15] rfl ?_)
 first | refine Em rfl ?_ ?_ | refine Ej rfl ?_ ?_
 intro h2
 try rw [nnp] at h2
 refine Ee (Eg (Ea (Ef rfl) (Ed (Ec (Eb [4] rfl (En (Ei (Eh rfl rfl ?_))))))))
 rotate_left
 intro h2
 try rw [nnp] at h2
 refine Eo (Ec (Eb [2, 3] rfl (Ee (Ee (Eg (Ea (Ek rfl) (Ea (Ep rfl rfl rfl) (Ea (Ek rfl) (Ea (Ep rfl rfl rfl) (Ea (o_neq rfl rfl) (Ed ?_)))))))))))
 refine Ec (Eb [2, 3, 20] rfl ?_)
 first | refine Em rfl ?_ ?_ | refine Ej rfl ?_ ?_
 intro h3
 try rw [nnp] at h3
 refine Ee (Eg (Ea (Ef rfl) (Ed (Ec (Eb [4] rfl (En (Ei (Eh rfl rfl ?_))))))))
 rotate_left
 intro h3
 try rw [nnp] at h3
 refine Eo (Ec (Eb [2, 3] rfl (Ee (Ee (Eg (Ea (Ek rfl) (Ea (Ep rfl rfl rfl) (Ea (Ek rfl) (Ea (Ep rfl rfl rfl) (Ea (o_neq rfl rfl) (Ed ?_)))))))))))
 refine Ec (Eb [2, 3, 25] rfl ?_)
 first | refine Em rfl ?_ ?_ | refine Ej rfl ?_ ?_
 intro h4
 try rw [nnp] at h4
 refine Ee (Eg (Ea (Ef rfl) (Ed (Ec (Eb [4] rfl (En (Ei (Eh rfl rfl ?_))))))))
 rotate_left
 intro h4
 try rw [nnp] at h4
 refine Eo (Ec (Eb [2, 3] rfl (Ee (Ee (Eg (Ea (Ek rfl) (Ea (Ep rfl rfl rfl) (Ea (Ek rfl) (Ea (Ep rfl rfl rfl) (Ea (o_neq rfl rfl) (Ed ?_)))))))))))
 refine Ec (Eb [2, 3, 30] rfl ?_)
 first | refine Em rfl ?_ ?_ | refine Ej rfl ?_ ?_
 intro h5
 try rw [nnp] at h5
 refine Ee (Eg (Ea (Ef rfl) (Ed (Ec (Eb [4] rfl (En (Ei (Eh rfl rfl ?_))))))))
 rotate_left
 intro h5
 try rw [nnp] at h5
 refine Eo (Ec (Eb [2, 3] rfl (Ee (Ee (Eg (Ea (Ek rfl) (Ea (Ep rfl rfl rfl) (Ea (Ek rfl) (Ea (Ep rfl rfl rfl) (Ea (o_neq rfl rfl) (Ed ?_)))))))))))
 refine Ec (Eb [35] rfl ?_)
 first | refine Em rfl ?_ ?_ | refine Ej rfl ?_ ?_
 intro h6
 try rw [nnp] at h6
 refine Ee (Eg (Ea (Ef rfl) (Ed (Ec (Eb [4] rfl (En (Ei (Eh rfl rfl ?_))))))))
 rotate_left
 intro h6
 try rw [nnp] at h6
 refine Eo (Ec (Eb [] rfl (Ee (Eg (Ea (Ef rfl) (Ed (Ec (Eb [4] rfl (En (Eh rfl rfl ?_))))))))))
 rotate_left
 all_goals
  cases x; cases y; simp_all
theorem c_164 (x : MConf) : CV prg 164 [.agg x.r] (fun res => res = .agg x.r) := by
 refine cv_in g164 (Eb [0] rfl (Ee (Eg (Ea (o_box rfl rfl rfl) (Ea (o_new rfl rfl) (Ed (Ec (Eb [1, 2] rfl (Ee (Eg (Ea (o_new rfl rfl) ?_)))))))))))
 refine Ed (Ec (Eb [1, 2, 3] rfl (Ee (Eg (Ea (Ek rfl) (Ea (Ep rfl rfl rfl) (Ea (Ek rfl) (s_opN (o_stC rfl rfl rfl rfl rfl rfl) (Ed (Ec (Eb [1, 2, 3] rfl ?_)))))))))))
 refine Ee (Eg (Ea (Ek rfl) (Ea (Ep rfl rfl rfl) (Ea (Ek rfl) (s_opN (o_stC rfl rfl rfl rfl rfl rfl) (Ed (Ec (Eb [1, 2, 3] rfl (Ee (Eg (Ea (Ek rfl) ?_)))))))))))
 refine Ea (Ep rfl rfl rfl) (Ea (Ek rfl) (s_opN (o_stC rfl rfl rfl rfl rfl rfl) (Ed (Ec (Eb [1, 2, 3] rfl (Ee (Eg (Ea (Ek rfl) (Ea (Ep rfl rfl rfl) (Ea (Ek rfl) (s_opN (o_stC rfl rfl rfl rfl rfl rfl) ?_)))))))))))
 refine Ed (Ec (Eb [2, 3] rfl (Ee (Eg (Ea (o_ldnC rfl rfl rfl) (s_opN (o_stnC rfl rfl rfl rfl rfl rfl rfl) (Ed (Ec (Eb [2] rfl (En (ret_leafR rfl rfl ?_)))))))))))
 rotate_left
 all_goals
  rfl
theorem c_165 (xs : List MConf) (hl : xs.length ≤ 1048576) : CV prg 165 [.sl 4 (xs.map MConf.r)] (fun res => res = .sl 4 (xs.map MConf.r)) := by
 refine cv_in g165 (Eb [0] rfl (Ee (Eg (Ea (Ef rfl) (Ed (Ec (Eb [0] rfl (Ee (Eg (Ea (Ef rfl) ?_))))))))))
 first | refine Ea (o_lenM rfl) ?_ | refine Ea (o_len rfl) ?_
 refine Ea (o_mk rfl rfl rfl rfl ⟨by omega, by unfold roomy; omega, by unfold roomy; omega⟩ rfl) (Ea (Ef rfl) (Ed (Ec (Eb [0, 3] rfl (Ee (Ee (Eg (Ea (Ef rfl) (Ed (Ec (Eb [0, 3, 4] rfl ?_)))))))))))
 refine S_block (S_loop (ι := Nat) (fun i => i ≤ xs.length) (fun i => [(4, .w (.int .i64 (i : Int)))]) (fun i => [.arr 4 (tabV MConf.r [.w (.int .i64 0), .w (.bool false), .w (.int .i64 0), .w (.int .i64 0)] xs i)]) (fun i => xs.length - i) 1 0 (by simp) rfl (hasOf ⟨rfl, trivial⟩ (by rw [tabV_zero]; rfl)) rfl (fun _ _ => rfl) (fun _ _ => ⟨rfl, rfl⟩) ?_)
 intro i hi
 refine Eb [0, 3, 4] rfl (Ee (Ee (Eg (Ea (Ef rfl) (Ea (Ef rfl) ?_)))))
 first | refine Ea (o_lenM rfl) ?_ | refine Ea (o_len rfl) ?_
 refine Ea (o_lss rfl rfl) (Ed (Ec (Eb [0, 3, 4, 11] rfl ?_)))
 first | refine Em rfl ?_ ?_ | refine Ej rfl ?_ ?_
 intro h1
 try rw [nnp] at h1
 refine Eo (Ec (Eb [0, 3, 4] rfl (Ee (S_block (Eg (Ea (Ef rfl) (Ea (Ef rfl) (Ea (Ef rfl) (Ea (Ef rfl) (s_iaM rfl rfl (by first | omega | (rw [List.length_replicate]; omega)) ?_))))))))))
 intro y2 e2
 try simp only [Int.toNat_natCast, Int.toNat_zero] at e2
 refine Ea (o_ldn rfl rfl) ?_
 first | refine Et rfl rfl (c_164 _) ?_ | refine Er rfl rfl (by simp) (c_164 _) rfl ?_
 refine Ea (o_iaL rfl rfl (by rw [tabV_len _ _ _ _ (by omega), List.length_replicate]; rfl) rfl (by first | omega | (rw [List.length_replicate]; omega))) (s_opN (o_stnA rfl rfl rfl rfl rfl (by rw [tabV_len _ _ _ _ (by omega), List.length_replicate]; rfl) (by rw [Int.toNat_natCast]; exact tabV_at _ _ (by omega)) rfl rfl) (Ed (q_blkN (Ec (Eb [0, 3, 4] rfl (Eg (Ea (Ef rfl) ?_)))))))
 first | refine Ea (o_addn rfl rfl (by omega)) ?_ | refine Ea (o_add rfl rfl) ?_
 refine Ea (Ef rfl) (Ed (q_loopN ?_))
 · refine ⟨i + 1, by omega, by omega, hasOf ⟨rfl, trivial⟩ ?_⟩
   rw [← tabV_set MConf.r [.w (.int .i64 0), .w (.bool false), .w (.int .i64 0), .w (.int .i64 0)] (by assumption)]; rfl
 intro h1
 try rw [nnp] at h1
 refine s_exit (q_seqX (q_loopX (q_blkH (Ec (Eb [3] rfl (Ee (Eg (Ea (Ef rfl) (Ea (Ef rfl) (Ed (Ec ?_)))))))))))
 refine Eb [2] rfl (En (ret_leafA (.inr rfl) rfl rfl (by rw [tabV_len _ _ _ _ (by omega), List.length_replicate]; rfl) ?_))
 rotate_left
 all_goals
  rw [tabV_end _ _ _ (by omega)]
theorem c_159 (x : Conf) (hs : x.small) : CV prg 159 [.agg x.r] (fun res => res = .agg x.r) := by
 refine cv_in g159 (Eb [0] rfl (Ee (Eg (Ea (o_box rfl rfl rfl) (Ea (o_new rfl rfl) (Ed (Ec (Eb [1, 2] rfl (Ee (Eg (Ea (o_new rfl rfl) ?_)))))))))))
 refine Ed (Ec (Eb [1, 2, 3] rfl (Ee (Eg (Ea (Ek rfl) (Ea (Ep rfl rfl rfl) ?_))))))
 first | refine Et rfl rfl (c_165 _ hs) ?_ | refine Er rfl rfl (by simp) (c_165 _ hs) rfl ?_
 refine Ea (Ek rfl) (s_opN (o_stC rfl rfl rfl rfl rfl rfl) (Ed (Ec (Eb [1, 2, 3] rfl (Ee (Eg (Ea (Ek rfl) (Ea (Ep rfl rfl rfl) (Ea (Ek rfl) (s_opN (o_stC rfl rfl rfl rfl rfl rfl) (Ed ?_)))))))))))
 refine Ec (Eb [1, 2, 3] rfl (Ee (Eg (Ea (Ek rfl) (Ea (Ep rfl rfl rfl) (Ea (Ek rfl) (s_opN (o_stC rfl rfl rfl rfl rfl rfl) (Ed (Ec (Eb [1, 2, 3] rfl (Ee ?_)))))))))))
 refine Eg (Ea (Ek rfl) (Ea (Ep rfl rfl rfl) (Ea (Ek rfl) (s_opN (o_stC rfl rfl rfl rfl rfl rfl) (Ed (Ec (Eb [1, 2, 3] rfl (Ee (Eg (Ea (Ek rfl) (Ea (Ep rfl rfl rfl) ?_)))))))))))
 refine Ea (Ek rfl) (s_opN (o_stC rfl rfl rfl rfl rfl rfl) (Ed (Ec (Eb [1, 2, 3] rfl (Ee (Eg (Ea (Ek rfl) (Ea (Ep rfl rfl rfl) (Ea (Ek rfl) (s_opN (o_stC rfl rfl rfl rfl rfl rfl) (Ed ?_)))))))))))
 refine Ec (Eb [2, 3] rfl (Ee (Eg (Ea (o_ldnC rfl rfl rfl) (s_opN (o_stnC rfl rfl rfl rfl rfl rfl rfl) (Ed (Ec (Eb [2] rfl (En (ret_leafR rfl rfl ?_))))))))))
 rotate_left
 all_goals
  rfl
theorem c_149 (xs : List MConf) (left : Int) (h : -1 ≤ left ∧ left ≤ 1048576) (hl : xs.length ≤ 140737488355328) : CV prg 149 [.sl 4 (xs.map MConf.r), .w (.int .i64 left)] (fun res => res = .w (.int .i64 (room left xs.length))) := by
 refine cv_in g149 (Eb [0, 1] rfl (Ee (Eg (Ea (Ef rfl) (Ed (Ec (Eb [0, 1] rfl (Ee (Eg (Ea (Ef rfl) (Ea (Ef rfl) ?_)))))))))))
 first | refine Ea (o_lenM rfl) ?_ | refine Ea (o_len rfl) ?_
 first | refine Ea (o_subn rfl rfl (by omega)) ?_ | refine Ea (o_sub rfl rfl) ?_
 refine Ea (Ef rfl) (Ed (Ec (Eb [1] rfl (Ee (Ee (Eg (Ea (Ef rfl) (Ea (o_lss rfl rfl) (Ed (Ec (Eb [1, 10] rfl ?_)))))))))))
 first | refine Em rfl ?_ ?_ | refine Ej rfl ?_ ?_
 intro h1
 try rw [nnp] at h1
 refine Ee (Eg (Ea (Ef rfl) (Ed (Ec (Eb [4] rfl (En (Ei (Eq rfl rfl ?_))))))))
 rotate_left
 intro h1
 try rw [nnp] at h1
 refine Eo (Ec (Eb [1] rfl (Ee (Eg (Ea (Ef rfl) (Ea (Ef rfl) (Ed (Ec (Eb [4] rfl (En (Eq rfl rfl ?_)))))))))))
 rotate_left
 all_goals
  (try unfold room); omega
theorem c_145 (x : Conf) (left : Int) (h : -1 ≤ left ∧ left ≤ 1048576) (hw : x.wf) : CV prg 145 [.agg x.r, .w (.int .i64 left)] (fun res => res = .w (.int .i64 (room left x.sz))) := by
 refine cv_in g145 (Eb [0, 1] rfl (Ee (Eg (Ea (o_box rfl rfl rfl) (Ea (Ef rfl) (Ed (Ec (Eb [1, 2] rfl (Ee (Eg (Ea (Ek rfl) ?_)))))))))))
 refine Ea (Ep rfl rfl rfl) (Ea (Ef rfl) ?_)
 first | refine Et rfl rfl (c_149 _ _ (by (try unfold room at *); omega) hw.1.1) ?_ | refine Er rfl rfl (by simp) (c_149 _ _ (by (try unfold room at *); omega) hw.1.1) rfl ?_
 refine Ea (Ef rfl) (Ed (Ec (Eb [1] rfl (Ee (Ee (Eg (Ea (Ef rfl) (Ea (o_lss rfl rfl) (Ed (Ec (Eb [1, 10] rfl ?_)))))))))))
 first | refine Em rfl ?_ ?_ | refine Ej rfl ?_ ?_
 intro h1
 try rw [nnp] at h1
 refine Ee (Eg (Ea (Ef rfl) (Ed (Ec (Eb [4] rfl (En (Ei (Eq rfl rfl ?_))))))))
 rotate_left
 intro h1
 try rw [nnp] at h1
 refine Eo (Ec (Eb [1] rfl (Ee (Eg (Ea (Ef rfl) (Ea (Ef rfl) (Ed (Ec (Eb [4] rfl (En (Eq rfl rfl ?_)))))))))))
 rotate_left
 all_goals
  unfold Conf.sz; (try unfold room at *); omega
theorem c_130 (x y : Done) : CV prg 130 [.agg x.r, .agg y.r] (fun res => res = .w (.bool (decide (x = y)))) := by
 refine cv_in g130 (Eb [0, 1] rfl (Ee (Eg (Ea (o_box rfl rfl rfl) (Ea (o_box rfl rfl rfl) (Ea (Ef rfl) (Ed (Ec (Eb [2, 3] rfl (Ee (Ee ?_)))))))))))
 refine Eg (Ea (Ek rfl) (Ea (Ep rfl rfl rfl) (Ea (Ek rfl) (Ea (Ep rfl rfl rfl) (Ea (o_neq rfl rfl) (Ed (Ec (Eb [2, 3, 9] rfl ?_))))))))
 first | refine Em rfl ?_ ?_ | refine Ej rfl ?_ ?_
 intro h1
 try rw [nnp] at h1
 refine Ee (Eg (Ea (Ef rfl) (Ed (Ec (Eb [4] rfl (En (Ei (Eh rfl rfl ?_))))))))
 rotate_left
 intro h1
 try rw [nnp] at h1
 refine Eo (Ec (Eb [2, 3] rfl (Ee (Ee (Eg (Ea (Ek rfl) (Ea (Ep rfl rfl rfl) (Ea (Ek rfl) (Ea (Ep rfl rfl rfl) (Ea (o_neq rfl rfl) (Ed ?_)))))))))))
 refine Ec (Eb [2, 3, 14] rfl ?_)
 first | refine Em rfl ?_ ?_ | refine Ej rfl ?_ ?_
 intro h2
 try rw [nnp] at h2
 refine Ee (Eg (Ea (Ef rfl) (Ed (Ec (Eb [4] rfl (En (Ei (Eh rfl rfl ?_))))))))
 rotate_left
 intro h2
 try rw [nnp] at h2
 refine Eo (Ec (Eb [2, 3] rfl (Ee (Ee (Eg (Ea (Ek rfl) (Ea (Ep rfl rfl rfl) (Ea (Ek rfl) (Ea (Ep rfl rfl rfl) (Ea (o_eqb rfl rfl) (Ed ?_)))))))))))
 refine Ec (Eb [2, 3, 19] rfl ?_)
 first | refine Eu rfl ?_ ?_ | refine Ej rfl ?_ ?_
 intro h3
 try rw [nnp] at h3
 refine Ee (Eg (Ea (Ef rfl) (Ed (Ec (Eb [4] rfl (En (Ei (Eh rfl rfl ?_))))))))
 rotate_left
 intro h3
 try rw [nnp] at h3
 refine Eo (Ec (Eb [2, 3] rfl (Ee (Ee (Eg (Ea (Ek rfl) (Ea (Ep rfl rfl rfl) (Ea (Ek rfl) (Ea (Ep rfl rfl rfl) (Ea (o_neq rfl rfl) (Ed ?_)))))))))))
 refine Ec (Eb [2, 3, 24] rfl ?_)
 first | refine Em rfl ?_ ?_ | refine Ej rfl ?_ ?_
 intro h4
 try rw [nnp] at h4
 refine Ee (Eg (Ea (Ef rfl) (Ed (Ec (Eb [4] rfl (En (Ei (Eh rfl rfl ?_))))))))
 rotate_left
 intro h4
 try rw [nnp] at h4
 refine Eo (Ec (Eb [2, 3] rfl (Ee (Ee (Eg (Ea (Ek rfl) (Ea (Ep rfl rfl rfl) (Ea (Ek rfl) (Ea (Ep rfl rfl rfl) (Ea (o_neq rfl rfl) (Ed ?_)))))))))))
 refine Ec (Eb [2, 3, 29] rfl ?_)
 first | refine Em rfl ?_ ?_ | refine Ej rfl ?_ ?_
 intro h5
 try rw [nnp] at h5
 refine Ee (Eg (Ea (Ef rfl) (Ed (Ec (Eb [4] rfl (En (Ei (Eh rfl rfl ?_))))))))
 rotate_left
 intro h5
 try rw [nnp] at h5
 refine Eo (Ec (Eb [2, 3] rfl (Ee (Ee (Eg (Ea (Ek rfl) (Ea (Ep rfl rfl rfl) (Ea (Ek rfl) (Ea (Ep rfl rfl rfl) (Ea (o_neq rfl rfl) (Ed ?_)))))))))))
 refine Ec (Eb [2, 3, 34] rfl ?_)
 first | refine Em rfl ?_ ?_ | refine Ej rfl ?_ ?_
 intro h6
 try rw [nnp] at h6
 refine Ee (Eg (Ea (Ef rfl) (Ed (Ec (Eb [4] rfl (En (Ei (Eh rfl rfl ?_))))))))
 rotate_left
 intro h6
 try rw [nnp] at h6
 refine Eo (Ec (Eb [2, 3] rfl (Ee (Ee (Eg (Ea (Ek rfl) (Ea (Ep rfl rfl rfl) (Ea (Ek rfl) (Ea (Ep rfl rfl rfl) (Ea (o_neq rfl rfl) (Ed ?_)))))))))))
 refine Ec (Eb [39] rfl ?_)
 first | refine Em rfl ?_ ?_ | refine Ej rfl ?_ ?_
 intro h7
 try rw [nnp] at h7
 refine Ee (Eg (Ea (Ef rfl) (Ed (Ec (Eb [4] rfl (En (Ei (Eh rfl rfl ?_))))))))
 rotate_left
 intro h7
 try rw [nnp] at h7
 refine Eo (Ec (Eb [] rfl (Ee (Eg (Ea (Ef rfl) (Ed (Ec (Eb [4] rfl (En (Eh rfl rfl ?_))))))))))
 rotate_left
 all_goals
  cases x; cases y; simp_all
theorem c_131 (xs ys : List Done) (hl : xs.length ≤ 1048576) : CV prg 131 [.sl 7 (xs.map Done.r), .sl 7 (ys.map Done.r)] (fun res => res = .w (.bool (decide (xs = ys)))) := by
 refine cv_in g131 (Eb [0, 1] rfl (Ee (Eg (Ea (Ef rfl) (Ed (Ec (Eb [0, 1] rfl (Ee (Ee (Eg (Ea (Ef rfl) ?_)))))))))))
 first | refine Ea (o_lenM rfl) ?_ | refine Ea (o_len rfl) ?_
 refine Ea (Ef rfl) ?_
 first | refine Ea (o_lenM rfl) ?_ | refine Ea (o_len rfl) ?_
 refine Ea (o_neq rfl rfl) (Ed (Ec (Eb [0, 1, 10] rfl ?_)))
 first | refine Em rfl ?_ ?_ | refine Ej rfl ?_ ?_
 intro h1
 try rw [nnp] at h1
 refine Ee (Eg (Ea (Ef rfl) (Ed (Ec (Eb [4] rfl (En (Ei (Eh rfl rfl ?_))))))))
 rotate_left
 intro h1
 try rw [nnp] at h1
 refine Eo (Ec (Eb [0, 1] rfl (Ee (Ee (Eg (Ea (Ef rfl) (Ed (Ec (Eb [0, 1, 5] rfl (S_block (S_loop0 (ι := Nat) (fun i => i ≤ xs.length ∧ xs.take i = ys.take i ∧ xs.length = ys.length) (fun i => [(5, .w (.int .i64 (i : Int)))]) (fun i => xs.length - i) 0 ⟨by simp, by simp, by omega⟩ rfl ⟨rfl, trivial⟩ (fun _ _ => rfl) rfl ?_)))))))))))
 intro i hi
 refine Eb [0, 1, 5] rfl (Ee (Ee (Eg (Ea (Ef rfl) (Ea (Ef rfl) ?_)))))
 first | refine Ea (o_lenM rfl) ?_ | refine Ea (o_len rfl) ?_
 refine Ea (o_lss rfl rfl) (Ed (Ec (Eb [0, 1, 5, 14] rfl ?_)))
 first | refine Em rfl ?_ ?_ | refine Ej rfl ?_ ?_
 intro h2
 try rw [nnp] at h2
 refine Eo (Ec (Eb [0, 1, 5] rfl (Ee (S_block (Ee (Eg (Ea (Ef rfl) (Ea (Ef rfl) (s_iaM rfl rfl (by omega) ?_)))))))))
 intro y3 e3
 try simp only [Int.toNat_natCast, Int.toNat_zero] at e3
 refine Ea (o_ldn rfl rfl) (Ea (Ef rfl) (Ea (Ef rfl) (s_iaM rfl rfl (by omega) ?_)))
 intro y4 e4
 try simp only [Int.toNat_natCast, Int.toNat_zero] at e4
 refine Ea (o_ldn rfl rfl) ?_
 first | refine Et rfl rfl (c_130 _ _) ?_ | refine Er rfl rfl (by simp) (c_130 _ _) rfl ?_
 refine Ea (o_not rfl) (Ed (Ec (Eb [0, 1, 5, 26] rfl ?_)))
 first | refine Em rfl ?_ ?_ | refine s_condN rfl ?_ ?_ | refine Eu rfl ?_ ?_ | refine Ej rfl ?_ ?_
 intro h5
 try rw [nnp] at h5
 refine Ee (Eg (Ea (Ef rfl) (Ed (Ec (Eb [4] rfl (En (q_blkR (Ei (q_loopR (q_blkR (Ei ?_)))))))))))
 refine Eh rfl rfl ?_
 rotate_left
 intro h5
 try rw [nnp] at h5
 refine Eo (q_blkN (Ec (Eb [0, 1, 5] rfl (Eg (Ea (Ef rfl) ?_)))))
 first | refine Ea (o_addn rfl rfl (by omega)) ?_ | refine Ea (o_add rfl rfl) ?_
 refine Ea (Ef rfl) (Ed (q_loopN ?_))
 · refine ⟨i + 1, ⟨by omega, eq_take (by assumption) (by assumption) hi.2.1 ?_, hi.2.2⟩, by omega, hasOf ⟨rfl, trivial⟩ rfl⟩
   assumption
 intro h2
 try rw [nnp] at h2
 refine s_exit (q_seqX (q_loopX (q_blkH (Ec (Eb [] rfl (Ee (Eg (Ea (Ef rfl) (Ed (Ec (Eb [4] rfl ?_)))))))))))
 refine En (Eh rfl rfl ?_)
 rotate_left
 all_goals
  first | exact (decide_eq_false (ne_at (by assumption) (by assumption) (by assumption))).symm | exact (decide_eq_true (eq_end hi.2.1 (by omega) hi.2.2)).symm | exact (decide_eq_false (fun e => by subst e; simp_all)).symm
def Done.beq (x y : Done) : Bool := ((x.cycle == y.cycle) && ((x.who == y.who) && ((x.write == y.write) && ((x.addr == y.addr) && ((x.size == y.size) && ((x.value == y.value) && ((x.resp == y.resp) && true)))))))
def folOk (p : Done × Done) : Bool := (p.1.write == p.2.write) && decide (p.1.addr = p.2.addr) && decide (p.1.size = p.2.size) && !(p.1.write && decide (p.1.resp = 0) && decide (p.1.value ≠ p.2.value))
def follows (l w : List Done) : Bool := decide (l.length ≤ w.length) && (l.zip w).all folOk
def Req.small (x : Req) : Prop := x.data.length ≤ 1048576
def Req.sz (x : Req) : Nat := x.data.length
theorem Req.small_of {x : Req} (h : x.sz ≤ 1048576) : x.small := by unfold Req.small; unfold Req.sz at h; omega
def Mst.small (x : Mst) : Prop := x.queue.length ≤ 1048576 ∧ (∀ y, y ∈ x.queue → Req.small y)
def Mst.sz (x : Mst) : Nat := x.queue.length + sumL Req.sz x.queue
theorem Mst.small_of {x : Mst} (h : x.sz ≤ 1048576) : x.small := ⟨by unfold Mst.sz at h; omega, fun y hy => Req.small_of (by have := sumL_mem Req.sz hy; unfold Mst.sz at h; omega)⟩
theorem c_132 (xs ys : List Int) (hl : xs.length ≤ 1048576) : CV prg 132 [.sl 1 (xs.map iR), .sl 1 (ys.map iR)] (fun res => res = .w (.bool (decide (xs = ys)))) := by
 refine cv_in g132 (Eb [0, 1] rfl (Ee (Eg (Ea (Ef rfl) (Ed (Ec (Eb [0, 1] rfl (Ee (Ee (Eg (Ea (Ef rfl) ?_)))))))))))
 first | refine Ea (o_lenM rfl) ?_ | refine Ea (o_len rfl) ?_
 refine Ea (Ef rfl) ?_
 first | refine Ea (o_lenM rfl) ?_ | refine Ea (o_len rfl) ?_
 refine Ea (o_neq rfl rfl) (Ed (Ec (Eb [0, 1, 10] rfl ?_)))
 first | refine Em rfl ?_ ?_ | refine Ej rfl ?_ ?_
 intro h1
 try rw [nnp] at h1
 refine Ee (Eg (Ea (Ef rfl) (Ed (Ec (Eb [4] rfl (En (Ei (Eh rfl rfl ?_))))))))
 rotate_left
 intro h1
 try rw [nnp] at h1
 refine Eo (Ec (Eb [0, 1] rfl (Ee (Ee (Eg (Ea (Ef rfl) (Ed (Ec (Eb [0, 1, 5] rfl (S_block (S_loop0 (ι := Nat) (fun i => i ≤ xs.length ∧ xs.take i = ys.take i ∧ xs.length = ys.length) (fun i => [(5, .w (.int .i64 (i : Int)))]) (fun i => xs.length - i) 0 ⟨by simp, by simp, by omega⟩ rfl ⟨rfl, trivial⟩ (fun _ _ => rfl) rfl ?_)))))))))))
 intro i hi
 refine Eb [0, 1, 5] rfl (Ee (Ee (Eg (Ea (Ef rfl) (Ea (Ef rfl) ?_)))))
 first | refine Ea (o_lenM rfl) ?_ | refine Ea (o_len rfl) ?_
 refine Ea (o_lss rfl rfl) (Ed (Ec (Eb [0, 1, 5, 14] rfl ?_)))
 first | refine Em rfl ?_ ?_ | refine Ej rfl ?_ ?_
 intro h2
 try rw [nnp] at h2
 refine Eo (Ec (Eb [0, 1, 5] rfl (Ee (S_block (Ee (Eg (Ea (Ef rfl) (Ea (Ef rfl) (s_iaM rfl rfl (by omega) ?_)))))))))
 intro y3 e3
 try simp only [Int.toNat_natCast, Int.toNat_zero] at e3
 refine Ea (o_ld rfl rfl) (Ea (Ef rfl) (Ea (Ef rfl) (s_iaM rfl rfl (by omega) ?_)))
 intro y4 e4
 try simp only [Int.toNat_natCast, Int.toNat_zero] at e4
 refine Ea (o_ld rfl rfl) (Ea (o_neq rfl rfl) (Ed (Ec (Eb [0, 1, 5, 25] rfl ?_))))
 first | refine Em rfl ?_ ?_ | refine Ej rfl ?_ ?_
 intro h5
 try rw [nnp] at h5
 refine Ee (Eg (Ea (Ef rfl) (Ed (Ec (Eb [4] rfl (En (q_blkR (Ei (q_loopR (q_blkR (Ei ?_)))))))))))
 refine Eh rfl rfl ?_
 rotate_left
 intro h5
 try rw [nnp] at h5
 refine Eo (q_blkN (Ec (Eb [0, 1, 5] rfl (Eg (Ea (Ef rfl) ?_)))))
 first | refine Ea (o_addn rfl rfl (by omega)) ?_ | refine Ea (o_add rfl rfl) ?_
 refine Ea (Ef rfl) (Ed (q_loopN ?_))
 · refine ⟨i + 1, ⟨by omega, eq_take (by assumption) (by assumption) hi.2.1 ?_, hi.2.2⟩, by omega, hasOf ⟨rfl, trivial⟩ rfl⟩
   assumption
 intro h2
 try rw [nnp] at h2
 refine s_exit (q_seqX (q_loopX (q_blkH (Ec (Eb [] rfl (Ee (Eg (Ea (Ef rfl) (Ed (Ec (Eb [4] rfl ?_)))))))))))
 refine En (Eh rfl rfl ?_)
 rotate_left
 all_goals
  first | exact (decide_eq_false (ne_at (by assumption) (by assumption) (by assumption))).symm | exact (decide_eq_true (eq_end hi.2.1 (by omega) hi.2.2)).symm | exact (decide_eq_false (fun e => by subst e; simp_all)).symm
theorem c_138 (x y : Req) (hs : x.small) : CV prg 138 [.agg x.r, .agg y.r] (fun res => res = .w (.bool (decide (x = y)))) := by
 refine cv_in g138 (Eb [0, 1] rfl (Ee (Eg (Ea (o_box rfl rfl rfl) (Ea (o_box rfl rfl rfl) (Ea (Ef rfl) (Ed (Ec (Eb [2, 3] rfl (Ee (Ee ?_)))))))))))
 refine Eg (Ea (Ek rfl) (Ea (Ep rfl rfl rfl) (Ea (Ek rfl) (Ea (Ep rfl rfl rfl) (Ea (o_eqb rfl rfl) (Ed (Ec (Eb [2, 3, 9] rfl ?_))))))))
 first | refine Eu rfl ?_ ?_ | refine Ej rfl ?_ ?_
 intro h1
 try rw [nnp] at h1
 refine Ee (Eg (Ea (Ef rfl) (Ed (Ec (Eb [4] rfl (En (Ei (Eh rfl rfl ?_))))))))
 rotate_left
 intro h1
 try rw [nnp] at h1
 refine Eo (Ec (Eb [2, 3] rfl (Ee (Ee (Eg (Ea (Ek rfl) (Ea (Ep rfl rfl rfl) (Ea (Ek rfl) (Ea (Ep rfl rfl rfl) (Ea (o_neq rfl rfl) (Ed ?_)))))))))))
 refine Ec (Eb [2, 3, 14] rfl ?_)
 first | refine Em rfl ?_ ?_ | refine Ej rfl ?_ ?_
 intro h2
 try rw [nnp] at h2
 refine Ee (Eg (Ea (Ef rfl) (Ed (Ec (Eb [4] rfl (En (Ei (Eh rfl rfl ?_))))))))
 rotate_left
 intro h2
 try rw [nnp] at h2
 refine Eo (Ec (Eb [2, 3] rfl (Ee (Ee (Eg (Ea (Ek rfl) (Ea (Ep rfl rfl rfl) (Ea (Ek rfl) (Ea (Ep rfl rfl rfl) (Ea (o_neq rfl rfl) (Ed ?_)))))))))))
 refine Ec (Eb [2, 3, 19] rfl ?_)
 first | refine Em rfl ?_ ?_ | refine Ej rfl ?_ ?_
 intro h3
 try rw [nnp] at h3
 refine Ee (Eg (Ea (Ef rfl) (Ed (Ec (Eb [4] rfl (En (Ei (Eh rfl rfl ?_))))))))
 rotate_left
 intro h3
 try rw [nnp] at h3
 refine Eo (Ec (Eb [2, 3] rfl (Ee (Ee (Eg (Ea (Ek rfl) (Ea (Ep rfl rfl rfl) (Ea (Ek rfl) (Ea (Ep rfl rfl rfl) (Ea (o_neq rfl rfl) (Ed ?_)))))))))))
 refine Ec (Eb [2, 3, 24] rfl ?_)
 first | refine Em rfl ?_ ?_ | refine Ej rfl ?_ ?_
 intro h4
 try rw [nnp] at h4
 refine Ee (Eg (Ea (Ef rfl) (Ed (Ec (Eb [4] rfl (En (Ei (Eh rfl rfl ?_))))))))
 rotate_left
 intro h4
 try rw [nnp] at h4
 refine Eo (Ec (Eb [2, 3] rfl (Ee (Ee (Eg (Ea (Ek rfl) (Ea (Ep rfl rfl rfl) (Ea (Ek rfl) (Ea (Ep rfl rfl rfl) (Ea (o_eqb rfl rfl) (Ed ?_)))))))))))
 refine Ec (Eb [2, 3, 29] rfl ?_)
 first | refine Eu rfl ?_ ?_ | refine Ej rfl ?_ ?_
 intro h5
 try rw [nnp] at h5
 refine Ee (Eg (Ea (Ef rfl) (Ed (Ec (Eb [4] rfl (En (Ei (Eh rfl rfl ?_))))))))
 rotate_left
 intro h5
 try rw [nnp] at h5
 refine Eo (Ec (Eb [2, 3] rfl (Ee (Ee (Eg (Ea (Ek rfl) (Ea (Ep rfl rfl rfl) (Ea (Ek rfl) (Ea (Ep rfl rfl rfl) ?_)))))))))
 first | refine Et rfl rfl (c_132 _ _ hs) ?_ | refine Er rfl rfl (by simp) (c_132 _ _ hs) rfl ?_
 refine Ea (o_not rfl) (Ed (Ec (Eb [35] rfl ?_)))
 first | refine Em rfl ?_ ?_ | refine s_condN rfl ?_ ?_ | refine Eu rfl ?_ ?_ | refine Ej rfl ?_ ?_
 intro h6
 try rw [nnp] at h6
 refine Ee (Eg (Ea (Ef rfl) (Ed (Ec (Eb [4] rfl (En (Ei (Eh rfl rfl ?_))))))))
 rotate_left
 intro h6
 try rw [nnp] at h6
 refine Eo (Ec (Eb [] rfl (Ee (Eg (Ea (Ef rfl) (Ed (Ec (Eb [4] rfl (En (Eh rfl rfl ?_))))))))))
 rotate_left
 all_goals
  cases x; cases y; simp_all
theorem c_139 (xs ys : List Req) (hl : xs.length ≤ 1048576) (hx : ∀ y, y ∈ xs → Req.small y) : CV prg 139 [.sl 6 (xs.map Req.r), .sl 6 (ys.map Req.r)] (fun res => res = .w (.bool (decide (xs = ys)))) := by
 refine cv_in g139 (Eb [0, 1] rfl (Ee (Eg (Ea (Ef rfl) (Ed (Ec (Eb [0, 1] rfl (Ee (Ee (Eg (Ea (Ef rfl) ?_)))))))))))
 first | refine Ea (o_lenM rfl) ?_ | refine Ea (o_len rfl) ?_
 refine Ea (Ef rfl) ?_
 first | refine Ea (o_lenM rfl) ?_ | refine Ea (o_len rfl) ?_
 refine Ea (o_neq rfl rfl) (Ed (Ec (Eb [0, 1, 10] rfl ?_)))
 first | refine Em rfl ?_ ?_ | refine Ej rfl ?_ ?_
 intro h1
 try rw [nnp] at h1
 refine Ee (Eg (Ea (Ef rfl) (Ed (Ec (Eb [4] rfl (En (Ei (Eh rfl rfl ?_))))))))
 rotate_left
 intro h1
 try rw [nnp] at h1
 refine Eo (Ec (Eb [0, 1] rfl (Ee (Ee (Eg (Ea (Ef rfl) (Ed (Ec (Eb [0, 1, 5] rfl (S_block (S_loop0 (ι := Nat) (fun i => i ≤ xs.length ∧ xs.take i = ys.take i ∧ xs.length = ys.length) (fun i => [(5, .w (.int .i64 (i : Int)))]) (fun i => xs.length - i) 0 ⟨by simp, by simp, by omega⟩ rfl ⟨rfl, trivial⟩ (fun _ _ => rfl) rfl ?_)))))))))))
 intro i hi
 refine Eb [0, 1, 5] rfl (Ee (Ee (Eg (Ea (Ef rfl) (Ea (Ef rfl) ?_)))))
 first | refine Ea (o_lenM rfl) ?_ | refine Ea (o_len rfl) ?_
 refine Ea (o_lss rfl rfl) (Ed (Ec (Eb [0, 1, 5, 14] rfl ?_)))
 first | refine Em rfl ?_ ?_ | refine Ej rfl ?_ ?_
 intro h2
 try rw [nnp] at h2
 refine Eo (Ec (Eb [0, 1, 5] rfl (Ee (S_block (Ee (Eg (Ea (Ef rfl) (Ea (Ef rfl) (s_iaM rfl rfl (by omega) ?_)))))))))
 intro y3 e3
 try simp only [Int.toNat_natCast, Int.toNat_zero] at e3
 refine Ea (o_ldn rfl rfl) (Ea (Ef rfl) (Ea (Ef rfl) (s_iaM rfl rfl (by omega) ?_)))
 intro y4 e4
 try simp only [Int.toNat_natCast, Int.toNat_zero] at e4
 refine Ea (o_ldn rfl rfl) ?_
 first | refine Et rfl rfl (c_138 _ _ (hx _ (List.mem_of_getElem? (by assumption)))) ?_ | refine Er rfl rfl (by simp) (c_138 _ _ (hx _ (List.mem_of_getElem? (by assumption)))) rfl ?_
 refine Ea (o_not rfl) (Ed (Ec (Eb [0, 1, 5, 26] rfl ?_)))
 first | refine Em rfl ?_ ?_ | refine s_condN rfl ?_ ?_ | refine Eu rfl ?_ ?_ | refine Ej rfl ?_ ?_
 intro h5
 try rw [nnp] at h5
 refine Ee (Eg (Ea (Ef rfl) (Ed (Ec (Eb [4] rfl (En (q_blkR (Ei (q_loopR (q_blkR (Ei ?_)))))))))))
 refine Eh rfl rfl ?_
 rotate_left
 intro h5
 try rw [nnp] at h5
 refine Eo (q_blkN (Ec (Eb [0, 1, 5] rfl (Eg (Ea (Ef rfl) ?_)))))
 first | refine Ea (o_addn rfl rfl (by omega)) ?_ | refine Ea (o_add rfl rfl) ?_
 refine Ea (Ef rfl) (Ed (q_loopN ?_))
 · refine ⟨i + 1, ⟨by omega, eq_take (by assumption) (by assumption) hi.2.1 ?_, hi.2.2⟩, by omega, hasOf ⟨rfl, trivial⟩ rfl⟩
   assumption
 intro h2
 try rw [nnp] at h2
 refine s_exit (q_seqX (q_loopX (q_blkH (Ec (Eb [] rfl (Ee (Eg (Ea (Ef rfl) (Ed (Ec (Eb [4] rfl ?_)))))))))))
 refine En (Eh rfl rfl ?_)
 rotate_left
 all_goals
  first | exact (decide_eq_false (ne_at (by assumption) (by assumption) (by assumption))).symm | exact (decide_eq_true (eq_end hi.2.1 (by omega) hi.2.2)).symm | exact (decide_eq_false (fun e => by subst e; simp_all)).symm
theorem c_136 (x y : Mst) (hs : x.small) : CV prg 136 [.agg x.r, .agg y.r] (fun res => res = .w (.bool (decide (x = y)))) := by
 refine cv_in g136 (Eb [0, 1] rfl (Ee (Eg (Ea (o_box rfl rfl rfl) (Ea (o_box rfl rfl rfl) (Ea (Ef rfl) (Ed (Ec (Eb [2, 3] rfl (Ee (Ee ?_)))))))))))
 refine Eg (Ea (Ek rfl) (Ea (Ep rfl rfl rfl) (Ea (Ek rfl) (Ea (Ep rfl rfl rfl) ?_))))
 first | refine Et rfl rfl (c_139 _ _ hs.1 hs.2) ?_ | refine Er rfl rfl (by simp) (c_139 _ _ hs.1 hs.2) rfl ?_
 refine Ea (o_not rfl) (Ed (Ec (Eb [2, 3, 10] rfl ?_)))
 first | refine Em rfl ?_ ?_ | refine s_condN rfl ?_ ?_ | refine Eu rfl ?_ ?_ | refine Ej rfl ?_ ?_
 intro h1
 try rw [nnp] at h1
 refine Ee (Eg (Ea (Ef rfl) (Ed (Ec (Eb [4] rfl (En (Ei (Eh rfl rfl ?_))))))))
 rotate_left
 intro h1
 try rw [nnp] at h1
 refine Eo (Ec (Eb [2, 3] rfl (Ee (Ee (Eg (Ea (Ek rfl) (Ea (Ep rfl rfl rfl) (Ea (Ek rfl) (Ea (Ep rfl rfl rfl) (Ea (o_neq rfl rfl) (Ed ?_)))))))))))
 refine Ec (Eb [2, 3, 15] rfl ?_)
 first | refine Em rfl ?_ ?_ | refine Ej rfl ?_ ?_
 intro h2
 try rw [nnp] at h2
 refine Ee (Eg (Ea (Ef rfl) (Ed (Ec (Eb [4] rfl (En (Ei (Eh rfl rfl ?_))))))))
 rotate_left
 intro h2
 try rw [nnp] at h2
 refine Eo (Ec (Eb [2, 3] rfl (Ee (Ee (Eg (Ea (Ek rfl) (Ea (Ep rfl rfl rfl) (Ea (Ek rfl) (Ea (Ep rfl rfl rfl) (Ea (o_neq rfl rfl) (Ed ?_)))))))))))
 refine Ec (Eb [2, 3, 20] rfl ?_)
 first | refine Em rfl ?_ ?_ | refine Ej rfl ?_ ?_
 intro h3
 try rw [nnp] at h3
 refine Ee (Eg (Ea (Ef rfl) (Ed (Ec (Eb [4] rfl (En (Ei (Eh rfl rfl ?_))))))))
 rotate_left
 intro h3
 try rw [nnp] at h3
 refine Eo (Ec (Eb [2, 3] rfl (Ee (Ee (Eg (Ea (Ek rfl) (Ea (Ep rfl rfl rfl) (Ea (Ek rfl) (Ea (Ep rfl rfl rfl) (Ea (o_neq rfl rfl) (Ed ?_)))))))))))
 refine Ec (Eb [2, 3, 25] rfl ?_)
 first | refine Em rfl ?_ ?_ | refine Ej rfl ?_ ?_
 intro h4
 try rw [nnp] at h4
 refine Ee (Eg (Ea (Ef rfl) (Ed (Ec (Eb [4] rfl (En (Ei (Eh rfl rfl ?_))))))))
 rotate_left
 intro h4
 try rw [nnp] at h4
 refine Eo (Ec (Eb [2, 3] rfl (Ee (Ee (Eg (Ea (Ek rfl) (Ea (Ep rfl rfl rfl) (Ea (Ek rfl) (Ea (Ep rfl rfl rfl) (Ea (o_eqb rfl rfl) (Ed ?_)))))))))))
 refine Ec (Eb [2, 3, 30] rfl ?_)
 first | refine Eu rfl ?_ ?_ | refine Ej rfl ?_ ?_
 intro h5
 try rw [nnp] at h5
 refine Ee (Eg (Ea (Ef rfl) (Ed (Ec (Eb [4] rfl (En (Ei (Eh rfl rfl ?_))))))))
 rotate_left
 intro h5
 try rw [nnp] at h5
 refine Eo (Ec (Eb [2, 3] rfl (Ee (Ee (Eg (Ea (Ek rfl) (Ea (Ep rfl rfl rfl) (Ea (Ek rfl) (Ea (Ep rfl rfl rfl) (Ea (o_eqb rfl rfl) (Ed ?_)))))))))))
 refine Ec (Eb [35] rfl ?_)
 first | refine Eu rfl ?_ ?_ | refine Ej rfl ?_ ?_
 intro h6
 try rw [nnp] at h6
 refine Ee (Eg (Ea (Ef rfl) (Ed (Ec (Eb [4] rfl (En (Ei (Eh rfl rfl ?_))))))))
 rotate_left
 intro h6
 try rw [nnp] at h6
 refine Eo (Ec (Eb [] rfl (Ee (Eg (Ea (Ef rfl) (Ed (Ec (Eb [4] rfl (En (Eh rfl rfl ?_))))))))))
 rotate_left
 all_goals
  cases x; cases y; simp_all
def roundStep (c : Conf) (s : Int) (i : Nat) : Int := IntKind.wrap .i64 (s + IntKind.wrap .i64 (c.turn i * c.slot))
def Conf.round (c : Conf) : Int := if c.ok then (List.range c.masters.length).foldl (roundStep c) (IntKind.wrap .i64 (c.cost * c.masters.length)) else 0
def Conf.bound (c : Conf) (beats : Int) : Int := if c.ok && inB beats 1 8 then
 IntKind.wrap .i64 (IntKind.wrap .i64 (IntKind.wrap .i64 (2 * IntKind.wrap .i64 (IntKind.wrap .i64 (beats * IntKind.wrap .i64 (IntKind.wrap .i64 (IntKind.wrap .i64 (2 * c.round) + c.maxSplit) + c.cost)) + c.caps)) + IntKind.wrap .i64 (2 * c.slot)) + 10) else 0
theorem maxL2 (a b : Int) : maxL a [b] = max a b := by simp only [maxL]; omega
def Wrr.back (w : Wrr) (c : Conf) (who : Int) : Wrr := if w.ok c && decide (who = w.pos) then { w with credit := min (IntKind.wrap .i64 (w.credit + 1)) (c.turn who) } else w
theorem c_140 (x y : Wrr) : CV prg 140 [.agg x.r, .agg y.r] (fun res => res = .w (.bool (decide (x = y)))) := by
 refine cv_in g140 (Eb [0, 1] rfl (Ee (Eg (Ea (o_box rfl rfl rfl) (Ea (o_box rfl rfl rfl) (Ea (Ef rfl) (Ed (Ec (Eb [2, 3] rfl (Ee (Ee ?_)))))))))))
 refine Eg (Ea (Ek rfl) (Ea (Ep rfl rfl rfl) (Ea (Ek rfl) (Ea (Ep rfl rfl rfl) (Ea (o_neq rfl rfl) (Ed (Ec (Eb [2, 3, 9] rfl ?_))))))))
 first | refine Em rfl ?_ ?_ | refine Ej rfl ?_ ?_
 intro h1
 try rw [nnp] at h1
 refine Ee (Eg (Ea (Ef rfl) (Ed (Ec (Eb [4] rfl (En (Ei (Eh rfl rfl ?_))))))))
 rotate_left
 intro h1
 try rw [nnp] at h1
 refine Eo (Ec (Eb [2, 3] rfl (Ee (Ee (Eg (Ea (Ek rfl) (Ea (Ep rfl rfl rfl) (Ea (Ek rfl) (Ea (Ep rfl rfl rfl) (Ea (o_neq rfl rfl) (Ed ?_)))))))))))
 refine Ec (Eb [14] rfl ?_)
 first | refine Em rfl ?_ ?_ | refine Ej rfl ?_ ?_
 intro h2
 try rw [nnp] at h2
 refine Ee (Eg (Ea (Ef rfl) (Ed (Ec (Eb [4] rfl (En (Ei (Eh rfl rfl ?_))))))))
 rotate_left
 intro h2
 try rw [nnp] at h2
 refine Eo (Ec (Eb [] rfl (Ee (Eg (Ea (Ef rfl) (Ed (Ec (Eb [4] rfl (En (Eh rfl rfl ?_))))))))))
 rotate_left
 all_goals
  cases x; cases y; simp_all
def Post.small (x : Post) : Prop := x.req.small
def Post.sz (x : Post) : Nat := x.req.sz
theorem Post.small_of {x : Post} (h : x.sz ≤ 1048576) : x.small := Req.small_of (by unfold Post.sz at h; omega)
def Script.small (x : Script) : Prop := x.posts.length ≤ 1048576 ∧ (∀ y, y ∈ x.posts → Post.small y) ∧ x.waits.length ≤ 1048576 ∧ x.says.length ≤ 1048576
def Script.sz (x : Script) : Nat := x.posts.length + sumL Post.sz x.posts + x.waits.length + x.says.length
theorem Script.small_of {x : Script} (h : x.sz ≤ 1048576) : x.small := ⟨by unfold Script.sz at h; omega, fun y hy => Post.small_of (by have := sumL_mem Post.sz hy; unfold Script.sz at h; omega), by unfold Script.sz at h; omega, by unfold Script.sz at h; omega⟩
theorem c_125 (x y : Bucket) : CV prg 125 [.agg x.r, .agg y.r] (fun res => res = .w (.bool (decide (x = y)))) := by
 refine cv_in g125 (Eb [0, 1] rfl (Ee (Eg (Ea (o_box rfl rfl rfl) (Ea (o_box rfl rfl rfl) (Ea (Ef rfl) (Ed (Ec (Eb [2, 3] rfl (Ee (Ee ?_)))))))))))
 refine Eg (Ea (Ek rfl) (Ea (Ep rfl rfl rfl) (Ea (Ek rfl) (Ea (Ep rfl rfl rfl) (Ea (o_neq rfl rfl) (Ed (Ec (Eb [2, 3, 9] rfl ?_))))))))
 first | refine Em rfl ?_ ?_ | refine Ej rfl ?_ ?_
 intro h1
 try rw [nnp] at h1
 refine Ee (Eg (Ea (Ef rfl) (Ed (Ec (Eb [4] rfl (En (Ei (Eh rfl rfl ?_))))))))
 rotate_left
 intro h1
 try rw [nnp] at h1
 refine Eo (Ec (Eb [2, 3] rfl (Ee (Ee (Eg (Ea (Ek rfl) (Ea (Ep rfl rfl rfl) (Ea (Ek rfl) (Ea (Ep rfl rfl rfl) (Ea (o_neq rfl rfl) (Ed ?_)))))))))))
 refine Ec (Eb [14] rfl ?_)
 first | refine Em rfl ?_ ?_ | refine Ej rfl ?_ ?_
 intro h2
 try rw [nnp] at h2
 refine Ee (Eg (Ea (Ef rfl) (Ed (Ec (Eb [4] rfl (En (Ei (Eh rfl rfl ?_))))))))
 rotate_left
 intro h2
 try rw [nnp] at h2
 refine Eo (Ec (Eb [] rfl (Ee (Eg (Ea (Ef rfl) (Ed (Ec (Eb [4] rfl (En (Eh rfl rfl ?_))))))))))
 rotate_left
 all_goals
  cases x; cases y; simp_all
theorem c_126 (xs ys : List Bucket) (hl : xs.length ≤ 1048576) : CV prg 126 [.sl 2 (xs.map Bucket.r), .sl 2 (ys.map Bucket.r)] (fun res => res = .w (.bool (decide (xs = ys)))) := by
 refine cv_in g126 (Eb [0, 1] rfl (Ee (Eg (Ea (Ef rfl) (Ed (Ec (Eb [0, 1] rfl (Ee (Ee (Eg (Ea (Ef rfl) ?_)))))))))))
 first | refine Ea (o_lenM rfl) ?_ | refine Ea (o_len rfl) ?_
 refine Ea (Ef rfl) ?_
 first | refine Ea (o_lenM rfl) ?_ | refine Ea (o_len rfl) ?_
 refine Ea (o_neq rfl rfl) (Ed (Ec (Eb [0, 1, 10] rfl ?_)))
 first | refine Em rfl ?_ ?_ | refine Ej rfl ?_ ?_
 intro h1
 try rw [nnp] at h1
 refine Ee (Eg (Ea (Ef rfl) (Ed (Ec (Eb [4] rfl (En (Ei (Eh rfl rfl ?_))))))))
 rotate_left
 intro h1
 try rw [nnp] at h1
 refine Eo (Ec (Eb [0, 1] rfl (Ee (Ee (Eg (Ea (Ef rfl) (Ed (Ec (Eb [0, 1, 5] rfl (S_block (S_loop0 (ι := Nat) (fun i => i ≤ xs.length ∧ xs.take i = ys.take i ∧ xs.length = ys.length) (fun i => [(5, .w (.int .i64 (i : Int)))]) (fun i => xs.length - i) 0 ⟨by simp, by simp, by omega⟩ rfl ⟨rfl, trivial⟩ (fun _ _ => rfl) rfl ?_)))))))))))
 intro i hi
 refine Eb [0, 1, 5] rfl (Ee (Ee (Eg (Ea (Ef rfl) (Ea (Ef rfl) ?_)))))
 first | refine Ea (o_lenM rfl) ?_ | refine Ea (o_len rfl) ?_
 refine Ea (o_lss rfl rfl) (Ed (Ec (Eb [0, 1, 5, 14] rfl ?_)))
 first | refine Em rfl ?_ ?_ | refine Ej rfl ?_ ?_
 intro h2
 try rw [nnp] at h2
 refine Eo (Ec (Eb [0, 1, 5] rfl (Ee (S_block (Ee (Eg (Ea (Ef rfl) (Ea (Ef rfl) (s_iaM rfl rfl (by omega) ?_)))))))))
 intro y3 e3
 try simp only [Int.toNat_natCast, Int.toNat_zero] at e3
 refine Ea (o_ldn rfl rfl) (Ea (Ef rfl) (Ea (Ef rfl) (s_iaM rfl rfl (by omega) ?_)))
 intro y4 e4
 try simp only [Int.toNat_natCast, Int.toNat_zero] at e4
 refine Ea (o_ldn rfl rfl) ?_
 first | refine Et rfl rfl (c_125 _ _) ?_ | refine Er rfl rfl (by simp) (c_125 _ _) rfl ?_
 refine Ea (o_not rfl) (Ed (Ec (Eb [0, 1, 5, 26] rfl ?_)))
 first | refine Em rfl ?_ ?_ | refine s_condN rfl ?_ ?_ | refine Eu rfl ?_ ?_ | refine Ej rfl ?_ ?_
 intro h5
 try rw [nnp] at h5
 refine Ee (Eg (Ea (Ef rfl) (Ed (Ec (Eb [4] rfl (En (q_blkR (Ei (q_loopR (q_blkR (Ei ?_)))))))))))
 refine Eh rfl rfl ?_
 rotate_left
 intro h5
 try rw [nnp] at h5
 refine Eo (q_blkN (Ec (Eb [0, 1, 5] rfl (Eg (Ea (Ef rfl) ?_)))))
 first | refine Ea (o_addn rfl rfl (by omega)) ?_ | refine Ea (o_add rfl rfl) ?_
 refine Ea (Ef rfl) (Ed (q_loopN ?_))
 · refine ⟨i + 1, ⟨by omega, eq_take (by assumption) (by assumption) hi.2.1 ?_, hi.2.2⟩, by omega, hasOf ⟨rfl, trivial⟩ rfl⟩
   assumption
 intro h2
 try rw [nnp] at h2
 refine s_exit (q_seqX (q_loopX (q_blkH (Ec (Eb [] rfl (Ee (Eg (Ea (Ef rfl) (Ed (Ec (Eb [4] rfl ?_)))))))))))
 refine En (Eh rfl rfl ?_)
 rotate_left
 all_goals
  first | exact (decide_eq_false (ne_at (by assumption) (by assumption) (by assumption))).symm | exact (decide_eq_true (eq_end hi.2.1 (by omega) hi.2.2)).symm | exact (decide_eq_false (fun e => by subst e; simp_all)).symm
theorem c_124 (x y : Beat) : CV prg 124 [.agg x.r, .agg y.r] (fun res => res = .w (.bool (decide (x = y)))) := by
 refine cv_in g124 (Eb [0, 1] rfl (Ee (Eg (Ea (o_box rfl rfl rfl) (Ea (o_box rfl rfl rfl) (Ea (Ef rfl) (Ed (Ec (Eb [2, 3] rfl (Ee (Ee ?_)))))))))))
 refine Eg (Ea (Ek rfl) (Ea (Ep rfl rfl rfl) (Ea (Ek rfl) (Ea (Ep rfl rfl rfl) (Ea (o_eqb rfl rfl) (Ed (Ec (Eb [2, 3, 9] rfl ?_))))))))
 first | refine Eu rfl ?_ ?_ | refine Ej rfl ?_ ?_
 intro h1
 try rw [nnp] at h1
 refine Ee (Eg (Ea (Ef rfl) (Ed (Ec (Eb [4] rfl (En (Ei (Eh rfl rfl ?_))))))))
 rotate_left
 intro h1
 try rw [nnp] at h1
 refine Eo (Ec (Eb [2, 3] rfl (Ee (Ee (Eg (Ea (Ek rfl) (Ea (Ep rfl rfl rfl) (Ea (Ek rfl) (Ea (Ep rfl rfl rfl) (Ea (o_neq rfl rfl) (Ed ?_)))))))))))
 refine Ec (Eb [2, 3, 14] rfl ?_)
 first | refine Em rfl ?_ ?_ | refine Ej rfl ?_ ?_
 intro h2
 try rw [nnp] at h2
 refine Ee (Eg (Ea (Ef rfl) (Ed (Ec (Eb [4] rfl (En (Ei (Eh rfl rfl ?_))))))))
 rotate_left
 intro h2
 try rw [nnp] at h2
 refine Eo (Ec (Eb [2, 3] rfl (Ee (Ee (Eg (Ea (Ek rfl) (Ea (Ep rfl rfl rfl) (Ea (Ek rfl) (Ea (Ep rfl rfl rfl) (Ea (o_neq rfl rfl) (Ed ?_)))))))))))
 refine Ec (Eb [2, 3, 19] rfl ?_)
 first | refine Em rfl ?_ ?_ | refine Ej rfl ?_ ?_
 intro h3
 try rw [nnp] at h3
 refine Ee (Eg (Ea (Ef rfl) (Ed (Ec (Eb [4] rfl (En (Ei (Eh rfl rfl ?_))))))))
 rotate_left
 intro h3
 try rw [nnp] at h3
 refine Eo (Ec (Eb [2, 3] rfl (Ee (Ee (Eg (Ea (Ek rfl) (Ea (Ep rfl rfl rfl) (Ea (Ek rfl) (Ea (Ep rfl rfl rfl) (Ea (o_eqb rfl rfl) (Ed ?_)))))))))))
 refine Ec (Eb [2, 3, 24] rfl ?_)
 first | refine Eu rfl ?_ ?_ | refine Ej rfl ?_ ?_
 intro h4
 try rw [nnp] at h4
 refine Ee (Eg (Ea (Ef rfl) (Ed (Ec (Eb [4] rfl (En (Ei (Eh rfl rfl ?_))))))))
 rotate_left
 intro h4
 try rw [nnp] at h4
 refine Eo (Ec (Eb [2, 3] rfl (Ee (Ee (Eg (Ea (Ek rfl) (Ea (Ep rfl rfl rfl) (Ea (Ek rfl) (Ea (Ep rfl rfl rfl) (Ea (o_neq rfl rfl) (Ed ?_)))))))))))
 refine Ec (Eb [2, 3, 29] rfl ?_)
 first | refine Em rfl ?_ ?_ | refine Ej rfl ?_ ?_
 intro h5
 try rw [nnp] at h5
 refine Ee (Eg (Ea (Ef rfl) (Ed (Ec (Eb [4] rfl (En (Ei (Eh rfl rfl ?_))))))))
 rotate_left
 intro h5
 try rw [nnp] at h5
 refine Eo (Ec (Eb [2, 3] rfl (Ee (Ee (Eg (Ea (Ek rfl) (Ea (Ep rfl rfl rfl) (Ea (Ek rfl) (Ea (Ep rfl rfl rfl) (Ea (o_neq rfl rfl) (Ed ?_)))))))))))
 refine Ec (Eb [2, 3, 34] rfl ?_)
 first | refine Em rfl ?_ ?_ | refine Ej rfl ?_ ?_
 intro h6
 try rw [nnp] at h6
 refine Ee (Eg (Ea (Ef rfl) (Ed (Ec (Eb [4] rfl (En (Ei (Eh rfl rfl ?_))))))))
 rotate_left
 intro h6
 try rw [nnp] at h6
 refine Eo (Ec (Eb [2, 3] rfl (Ee (Ee (Eg (Ea (Ek rfl) (Ea (Ep rfl rfl rfl) (Ea (Ek rfl) (Ea (Ep rfl rfl rfl) (Ea (o_neq rfl rfl) (Ed ?_)))))))))))
 refine Ec (Eb [2, 3, 39] rfl ?_)
 first | refine Em rfl ?_ ?_ | refine Ej rfl ?_ ?_
 intro h7
 try rw [nnp] at h7
 refine Ee (Eg (Ea (Ef rfl) (Ed (Ec (Eb [4] rfl (En (Ei (Eh rfl rfl ?_))))))))
 rotate_left
 intro h7
 try rw [nnp] at h7
 refine Eo (Ec (Eb [2, 3] rfl (Ee (Ee (Eg (Ea (Ek rfl) (Ea (Ep rfl rfl rfl) (Ea (Ek rfl) (Ea (Ep rfl rfl rfl) (Ea (o_eqb rfl rfl) (Ed ?_)))))))))))
 refine Ec (Eb [44] rfl ?_)
 first | refine Eu rfl ?_ ?_ | refine Ej rfl ?_ ?_
 intro h8
 try rw [nnp] at h8
 refine Ee (Eg (Ea (Ef rfl) (Ed (Ec (Eb [4] rfl (En (Ei (Eh rfl rfl ?_))))))))
 rotate_left
 intro h8
 try rw [nnp] at h8
 refine Eo (Ec (Eb [] rfl (Ee (Eg (Ea (Ef rfl) (Ed (Ec (Eb [4] rfl (En (Eh rfl rfl ?_))))))))))
 rotate_left
 all_goals
  cases x; cases y; simp_all
def Dev.small (x : Dev) : Prop := x.regs.length ≤ 1048576 ∧ x.fifo.length ≤ 1048576
def Dev.sz (x : Dev) : Nat := x.regs.length + x.fifo.length
theorem Dev.small_of {x : Dev} (h : x.sz ≤ 1048576) : x.small := ⟨by unfold Dev.sz at h; omega, by unfold Dev.sz at h; omega⟩
def Model.small (x : Model) : Prop := x.ram.length ≤ 1048576 ∧ x.dev.small
def Model.sz (x : Model) : Nat := x.ram.length + x.dev.sz
theorem Model.small_of {x : Model} (h : x.sz ≤ 1048576) : x.small := ⟨by unfold Model.sz at h; omega, Dev.small_of (by unfold Model.sz at h; omega)⟩
theorem c_129 (x y : Dev) (hs : x.small) : CV prg 129 [.agg x.r, .agg y.r] (fun res => res = .w (.bool (decide (x = y)))) := by
 refine cv_in g129 (Eb [0, 1] rfl (Ee (Eg (Ea (o_box rfl rfl rfl) (Ea (o_box rfl rfl rfl) (Ea (Ef rfl) (Ed (Ec (Eb [2, 3] rfl (Ee (Ee ?_)))))))))))
 refine Eg (Ea (Ek rfl) (Ea (Ep rfl rfl rfl) (Ea (Ek rfl) (Ea (Ep rfl rfl rfl) ?_))))
 first | refine Et rfl rfl (by first | exact (c_132 _ _ hs.1) | exact (c_132 _ _ hs.2)) ?_ | refine Er rfl rfl (by simp) (by first | exact (c_132 _ _ hs.1) | exact (c_132 _ _ hs.2)) rfl ?_
 refine Ea (o_not rfl) (Ed (Ec (Eb [2, 3, 10] rfl ?_)))
 first | refine Em rfl ?_ ?_ | refine s_condN rfl ?_ ?_ | refine Eu rfl ?_ ?_ | refine Ej rfl ?_ ?_
 intro h1
 try rw [nnp] at h1
 refine Ee (Eg (Ea (Ef rfl) (Ed (Ec (Eb [4] rfl (En (Ei (Eh rfl rfl ?_))))))))
 rotate_left
 intro h1
 try rw [nnp] at h1
 refine Eo (Ec (Eb [2, 3] rfl (Ee (Ee (Eg (Ea (Ek rfl) (Ea (Ep rfl rfl rfl) (Ea (Ek rfl) (Ea (Ep rfl rfl rfl) (Ea (o_neq rfl rfl) (Ed ?_)))))))))))
 refine Ec (Eb [2, 3, 15] rfl ?_)
 first | refine Em rfl ?_ ?_ | refine Ej rfl ?_ ?_
 intro h2
 try rw [nnp] at h2
 refine Ee (Eg (Ea (Ef rfl) (Ed (Ec (Eb [4] rfl (En (Ei (Eh rfl rfl ?_))))))))
 rotate_left
 intro h2
 try rw [nnp] at h2
 refine Eo (Ec (Eb [2, 3] rfl (Ee (Ee (Eg (Ea (Ek rfl) (Ea (Ep rfl rfl rfl) (Ea (Ek rfl) (Ea (Ep rfl rfl rfl) ?_)))))))))
 first | refine Et rfl rfl (by first | exact (c_132 _ _ hs.1) | exact (c_132 _ _ hs.2)) ?_ | refine Er rfl rfl (by simp) (by first | exact (c_132 _ _ hs.1) | exact (c_132 _ _ hs.2)) rfl ?_
 refine Ea (o_not rfl) (Ed (Ec (Eb [21] rfl ?_)))
 first | refine Em rfl ?_ ?_ | refine s_condN rfl ?_ ?_ | refine Eu rfl ?_ ?_ | refine Ej rfl ?_ ?_
 intro h3
 try rw [nnp] at h3
 refine Ee (Eg (Ea (Ef rfl) (Ed (Ec (Eb [4] rfl (En (Ei (Eh rfl rfl ?_))))))))
 rotate_left
 intro h3
 try rw [nnp] at h3
 refine Eo (Ec (Eb [] rfl (Ee (Eg (Ea (Ef rfl) (Ed (Ec (Eb [4] rfl (En (Eh rfl rfl ?_))))))))))
 rotate_left
 all_goals
  cases x; cases y; simp_all
theorem c_135 (x y : Model) (hs : x.small) : CV prg 135 [.agg x.r, .agg y.r] (fun res => res = .w (.bool (decide (x = y)))) := by
 refine cv_in g135 (Eb [0, 1] rfl (Ee (Eg (Ea (o_box rfl rfl rfl) (Ea (o_box rfl rfl rfl) (Ea (Ef rfl) (Ed (Ec (Eb [2, 3] rfl (Ee (Ee ?_)))))))))))
 refine Eg (Ea (Ek rfl) (Ea (Ep rfl rfl rfl) (Ea (Ek rfl) (Ea (Ep rfl rfl rfl) ?_))))
 first | refine Et rfl rfl (c_132 _ _ hs.1) ?_ | refine Er rfl rfl (by simp) (c_132 _ _ hs.1) rfl ?_
 refine Ea (o_not rfl) (Ed (Ec (Eb [2, 3, 10] rfl ?_)))
 first | refine Em rfl ?_ ?_ | refine s_condN rfl ?_ ?_ | refine Eu rfl ?_ ?_ | refine Ej rfl ?_ ?_
 intro h1
 try rw [nnp] at h1
 refine Ee (Eg (Ea (Ef rfl) (Ed (Ec (Eb [4] rfl (En (Ei (Eh rfl rfl ?_))))))))
 rotate_left
 intro h1
 try rw [nnp] at h1
 refine Eo (Ec (Eb [2, 3] rfl (Ee (Ee (Eg (Ea (Ek rfl) (Ea (o_ldnC rfl rfl rfl) (Ea (Ek rfl) (Ea (o_ldnC rfl rfl rfl) ?_)))))))))
 first | refine Et rfl rfl (c_129 _ _ hs.2) ?_ | refine Er rfl rfl (by simp) (c_129 _ _ hs.2) rfl ?_
 refine Ea (o_not rfl) (Ed (Ec (Eb [16] rfl ?_)))
 first | refine Em rfl ?_ ?_ | refine s_condN rfl ?_ ?_ | refine Eu rfl ?_ ?_ | refine Ej rfl ?_ ?_
 intro h2
 try rw [nnp] at h2
 refine Ee (Eg (Ea (Ef rfl) (Ed (Ec (Eb [4] rfl (En (Ei (Eh rfl rfl ?_))))))))
 rotate_left
 intro h2
 try rw [nnp] at h2
 refine Eo (Ec (Eb [] rfl (Ee (Eg (Ea (Ef rfl) (Ed (Ec (Eb [4] rfl (En (Eh rfl rfl ?_))))))))))
 rotate_left
 all_goals
  cases x; cases y; simp_all
theorem c_137 (xs ys : List Mst) (hl : xs.length ≤ 1048576) (hx : ∀ y, y ∈ xs → Mst.small y) : CV prg 137 [.sl 6 (xs.map Mst.r), .sl 6 (ys.map Mst.r)] (fun res => res = .w (.bool (decide (xs = ys)))) := by
 refine cv_in g137 (Eb [0, 1] rfl (Ee (Eg (Ea (Ef rfl) (Ed (Ec (Eb [0, 1] rfl (Ee (Ee (Eg (Ea (Ef rfl) ?_)))))))))))
 first | refine Ea (o_lenM rfl) ?_ | refine Ea (o_len rfl) ?_
 refine Ea (Ef rfl) ?_
 first | refine Ea (o_lenM rfl) ?_ | refine Ea (o_len rfl) ?_
 refine Ea (o_neq rfl rfl) (Ed (Ec (Eb [0, 1, 10] rfl ?_)))
 first | refine Em rfl ?_ ?_ | refine Ej rfl ?_ ?_
 intro h1
 try rw [nnp] at h1
 refine Ee (Eg (Ea (Ef rfl) (Ed (Ec (Eb [4] rfl (En (Ei (Eh rfl rfl ?_))))))))
 rotate_left
 intro h1
 try rw [nnp] at h1
 refine Eo (Ec (Eb [0, 1] rfl (Ee (Ee (Eg (Ea (Ef rfl) (Ed (Ec (Eb [0, 1, 5] rfl (S_block (S_loop0 (ι := Nat) (fun i => i ≤ xs.length ∧ xs.take i = ys.take i ∧ xs.length = ys.length) (fun i => [(5, .w (.int .i64 (i : Int)))]) (fun i => xs.length - i) 0 ⟨by simp, by simp, by omega⟩ rfl ⟨rfl, trivial⟩ (fun _ _ => rfl) rfl ?_)))))))))))
 intro i hi
 refine Eb [0, 1, 5] rfl (Ee (Ee (Eg (Ea (Ef rfl) (Ea (Ef rfl) ?_)))))
 first | refine Ea (o_lenM rfl) ?_ | refine Ea (o_len rfl) ?_
 refine Ea (o_lss rfl rfl) (Ed (Ec (Eb [0, 1, 5, 14] rfl ?_)))
 first | refine Em rfl ?_ ?_ | refine Ej rfl ?_ ?_
 intro h2
 try rw [nnp] at h2
 refine Eo (Ec (Eb [0, 1, 5] rfl (Ee (S_block (Ee (Eg (Ea (Ef rfl) (Ea (Ef rfl) (s_iaM rfl rfl (by omega) ?_)))))))))
 intro y3 e3
 try simp only [Int.toNat_natCast, Int.toNat_zero] at e3
 refine Ea (o_ldn rfl rfl) (Ea (Ef rfl) (Ea (Ef rfl) (s_iaM rfl rfl (by omega) ?_)))
 intro y4 e4
 try simp only [Int.toNat_natCast, Int.toNat_zero] at e4
 refine Ea (o_ldn rfl rfl) ?_
 first | refine Et rfl rfl (c_136 _ _ (hx _ (List.mem_of_getElem? (by assumption)))) ?_ | refine Er rfl rfl (by simp) (c_136 _ _ (hx _ (List.mem_of_getElem? (by assumption)))) rfl ?_
 refine Ea (o_not rfl) (Ed (Ec (Eb [0, 1, 5, 26] rfl ?_)))
 first | refine Em rfl ?_ ?_ | refine s_condN rfl ?_ ?_ | refine Eu rfl ?_ ?_ | refine Ej rfl ?_ ?_
 intro h5
 try rw [nnp] at h5
 refine Ee (Eg (Ea (Ef rfl) (Ed (Ec (Eb [4] rfl (En (q_blkR (Ei (q_loopR (q_blkR (Ei ?_)))))))))))
 refine Eh rfl rfl ?_
 rotate_left
 intro h5
 try rw [nnp] at h5
 refine Eo (q_blkN (Ec (Eb [0, 1, 5] rfl (Eg (Ea (Ef rfl) ?_)))))
 first | refine Ea (o_addn rfl rfl (by omega)) ?_ | refine Ea (o_add rfl rfl) ?_
 refine Ea (Ef rfl) (Ed (q_loopN ?_))
 · refine ⟨i + 1, ⟨by omega, eq_take (by assumption) (by assumption) hi.2.1 ?_, hi.2.2⟩, by omega, hasOf ⟨rfl, trivial⟩ rfl⟩
   assumption
 intro h2
 try rw [nnp] at h2
 refine s_exit (q_seqX (q_loopX (q_blkH (Ec (Eb [] rfl (Ee (Eg (Ea (Ef rfl) (Ed (Ec (Eb [4] rfl ?_)))))))))))
 refine En (Eh rfl rfl ?_)
 rotate_left
 all_goals
  first | exact (decide_eq_false (ne_at (by assumption) (by assumption) (by assumption))).symm | exact (decide_eq_true (eq_end hi.2.1 (by omega) hi.2.2)).symm | exact (decide_eq_false (fun e => by subst e; simp_all)).symm
def Bus.small (x : Bus) : Prop := x.conf.small ∧ x.ms.length ≤ 1048576 ∧ (∀ y, y ∈ x.ms → Mst.small y) ∧ x.buckets.length ≤ 1048576 ∧ x.splits.length ≤ 1048576 ∧ x.model.small ∧ x.log.length ≤ 1048576
def Bus.sz (x : Bus) : Nat := x.conf.sz + x.ms.length + sumL Mst.sz x.ms + x.buckets.length + x.splits.length + x.model.sz + x.log.length
theorem Bus.small_of {x : Bus} (h : x.sz ≤ 1048576) : x.small := ⟨Conf.small_of (by unfold Bus.sz at h; omega), by unfold Bus.sz at h; omega, fun y hy => Mst.small_of (by have := sumL_mem Mst.sz hy; unfold Bus.sz at h; omega), by unfold Bus.sz at h; omega, by unfold Bus.sz at h; omega, Model.small_of (by unfold Bus.sz at h; omega), by unfold Bus.sz at h; omega⟩
theorem c_127 (x y : Bus) (hs : x.small) : CV prg 127 [.agg x.r, .agg y.r] (fun res => res = .w (.bool (decide (x = y)))) := by
 refine cv_in g127 (Eb [0, 1] rfl (Ee (Eg (Ea (o_box rfl rfl rfl) (Ea (o_box rfl rfl rfl) (Ea (Ef rfl) (Ed (Ec (Eb [2, 3] rfl (Ee (Ee ?_)))))))))))
 refine Eg (Ea (Ek rfl) (Ea (o_ldnC rfl rfl rfl) (Ea (Ek rfl) (Ea (o_ldnC rfl rfl rfl) ?_))))
 first | refine Et rfl rfl (c_128 _ _ hs.1) ?_ | refine Er rfl rfl (by simp) (c_128 _ _ hs.1) rfl ?_
 refine Ea (o_not rfl) (Ed (Ec (Eb [2, 3, 10] rfl ?_)))
 first | refine Em rfl ?_ ?_ | refine s_condN rfl ?_ ?_ | refine Eu rfl ?_ ?_ | refine Ej rfl ?_ ?_
 intro h1
 try rw [nnp] at h1
 refine Ee (Eg (Ea (Ef rfl) (Ed (Ec (Eb [4] rfl (En (Ei (Eh rfl rfl ?_))))))))
 rotate_left
 intro h1
 try rw [nnp] at h1
 refine Eo (Ec (Eb [2, 3] rfl (Ee (Ee (Eg (Ea (Ek rfl) (Ea (Ep rfl rfl rfl) (Ea (Ek rfl) (Ea (Ep rfl rfl rfl) (Ea (o_neq rfl rfl) (Ed ?_)))))))))))
 refine Ec (Eb [2, 3, 15] rfl ?_)
 first | refine Em rfl ?_ ?_ | refine Ej rfl ?_ ?_
 intro h2
 try rw [nnp] at h2
 refine Ee (Eg (Ea (Ef rfl) (Ed (Ec (Eb [4] rfl (En (Ei (Eh rfl rfl ?_))))))))
 rotate_left
 intro h2
 try rw [nnp] at h2
 refine Eo (Ec (Eb [2, 3] rfl (Ee (Ee (Eg (Ea (Ek rfl) (Ea (Ep rfl rfl rfl) (Ea (Ek rfl) (Ea (Ep rfl rfl rfl) ?_)))))))))
 first | refine Et rfl rfl (c_137 _ _ hs.2.1 hs.2.2.1) ?_ | refine Er rfl rfl (by simp) (c_137 _ _ hs.2.1 hs.2.2.1) rfl ?_
 refine Ea (o_not rfl) (Ed (Ec (Eb [2, 3, 21] rfl ?_)))
 first | refine Em rfl ?_ ?_ | refine s_condN rfl ?_ ?_ | refine Eu rfl ?_ ?_ | refine Ej rfl ?_ ?_
 intro h3
 try rw [nnp] at h3
 refine Ee (Eg (Ea (Ef rfl) (Ed (Ec (Eb [4] rfl (En (Ei (Eh rfl rfl ?_))))))))
 rotate_left
 intro h3
 try rw [nnp] at h3
 refine Eo (Ec (Eb [2, 3] rfl (Ee (Ee (Eg (Ea (Ek rfl) (Ea (o_ldnC rfl rfl rfl) (Ea (Ek rfl) (Ea (o_ldnC rfl rfl rfl) ?_)))))))))
 first | refine Et rfl rfl (c_140 _ _) ?_ | refine Er rfl rfl (by simp) (c_140 _ _) rfl ?_
 refine Ea (o_not rfl) (Ed (Ec (Eb [2, 3, 27] rfl ?_)))
 first | refine Em rfl ?_ ?_ | refine s_condN rfl ?_ ?_ | refine Eu rfl ?_ ?_ | refine Ej rfl ?_ ?_
 intro h4
 try rw [nnp] at h4
 refine Ee (Eg (Ea (Ef rfl) (Ed (Ec (Eb [4] rfl (En (Ei (Eh rfl rfl ?_))))))))
 rotate_left
 intro h4
 try rw [nnp] at h4
 refine Eo (Ec (Eb [2, 3] rfl (Ee (Ee (Eg (Ea (Ek rfl) (Ea (Ep rfl rfl rfl) (Ea (Ek rfl) (Ea (Ep rfl rfl rfl) ?_)))))))))
 first | refine Et rfl rfl (c_126 _ _ hs.2.2.2.1) ?_ | refine Er rfl rfl (by simp) (c_126 _ _ hs.2.2.2.1) rfl ?_
 refine Ea (o_not rfl) (Ed (Ec (Eb [2, 3, 33] rfl ?_)))
 first | refine Em rfl ?_ ?_ | refine s_condN rfl ?_ ?_ | refine Eu rfl ?_ ?_ | refine Ej rfl ?_ ?_
 intro h5
 try rw [nnp] at h5
 refine Ee (Eg (Ea (Ef rfl) (Ed (Ec (Eb [4] rfl (En (Ei (Eh rfl rfl ?_))))))))
 rotate_left
 intro h5
 try rw [nnp] at h5
 refine Eo (Ec (Eb [2, 3] rfl (Ee (Ee (Eg (Ea (Ek rfl) (Ea (Ep rfl rfl rfl) (Ea (Ek rfl) (Ea (Ep rfl rfl rfl) ?_)))))))))
 first | refine Et rfl rfl (c_132 _ _ hs.2.2.2.2.1) ?_ | refine Er rfl rfl (by simp) (c_132 _ _ hs.2.2.2.2.1) rfl ?_
 refine Ea (o_not rfl) (Ed (Ec (Eb [2, 3, 39] rfl ?_)))
 first | refine Em rfl ?_ ?_ | refine s_condN rfl ?_ ?_ | refine Eu rfl ?_ ?_ | refine Ej rfl ?_ ?_
 intro h6
 try rw [nnp] at h6
 refine Ee (Eg (Ea (Ef rfl) (Ed (Ec (Eb [4] rfl (En (Ei (Eh rfl rfl ?_))))))))
 rotate_left
 intro h6
 try rw [nnp] at h6
 refine Eo (Ec (Eb [2, 3] rfl (Ee (Ee (Eg (Ea (Ek rfl) (Ea (Ep rfl rfl rfl) (Ea (Ek rfl) (Ea (Ep rfl rfl rfl) (Ea (o_neq rfl rfl) (Ed ?_)))))))))))
 refine Ec (Eb [2, 3, 44] rfl ?_)
 first | refine Em rfl ?_ ?_ | refine Ej rfl ?_ ?_
 intro h7
 try rw [nnp] at h7
 refine Ee (Eg (Ea (Ef rfl) (Ed (Ec (Eb [4] rfl (En (Ei (Eh rfl rfl ?_))))))))
 rotate_left
 intro h7
 try rw [nnp] at h7
 refine Eo (Ec (Eb [2, 3] rfl (Ee (Ee (Eg (Ea (Ek rfl) (Ea (Ep rfl rfl rfl) (Ea (Ek rfl) (Ea (Ep rfl rfl rfl) (Ea (o_neq rfl rfl) (Ed ?_)))))))))))
 refine Ec (Eb [2, 3, 49] rfl ?_)
 first | refine Em rfl ?_ ?_ | refine Ej rfl ?_ ?_
 intro h8
 try rw [nnp] at h8
 refine Ee (Eg (Ea (Ef rfl) (Ed (Ec (Eb [4] rfl (En (Ei (Eh rfl rfl ?_))))))))
 rotate_left
 intro h8
 try rw [nnp] at h8
 refine Eo (Ec (Eb [2, 3] rfl (Ee (Ee (Eg (Ea (Ek rfl) (Ea (Ep rfl rfl rfl) (Ea (Ek rfl) (Ea (Ep rfl rfl rfl) (Ea (o_neq rfl rfl) (Ed ?_)))))))))))
 refine Ec (Eb [2, 3, 54] rfl ?_)
 first | refine Em rfl ?_ ?_ | refine Ej rfl ?_ ?_
 intro h9
 try rw [nnp] at h9
 refine Ee (Eg (Ea (Ef rfl) (Ed (Ec (Eb [4] rfl (En (Ei (Eh rfl rfl ?_))))))))
 rotate_left
 intro h9
 try rw [nnp] at h9
 refine Eo (Ec (Eb [2, 3] rfl (Ee (Ee (Eg (Ea (Ek rfl) (Ea (o_ldnC rfl rfl rfl) (Ea (Ek rfl) (Ea (o_ldnC rfl rfl rfl) ?_)))))))))
 first | refine Et rfl rfl (c_124 _ _) ?_ | refine Er rfl rfl (by simp) (c_124 _ _) rfl ?_
 refine Ea (o_not rfl) (Ed (Ec (Eb [2, 3, 60] rfl ?_)))
 first | refine Em rfl ?_ ?_ | refine s_condN rfl ?_ ?_ | refine Eu rfl ?_ ?_ | refine Ej rfl ?_ ?_
 intro h10
 try rw [nnp] at h10
 refine Ee (Eg (Ea (Ef rfl) (Ed (Ec (Eb [4] rfl (En (Ei (Eh rfl rfl ?_))))))))
 rotate_left
 intro h10
 try rw [nnp] at h10
 refine Eo (Ec (Eb [2, 3] rfl (Ee (Ee (Eg (Ea (Ek rfl) (Ea (o_ldnC rfl rfl rfl) (Ea (Ek rfl) (Ea (o_ldnC rfl rfl rfl) ?_)))))))))
 first | refine Et rfl rfl (c_124 _ _) ?_ | refine Er rfl rfl (by simp) (c_124 _ _) rfl ?_
 refine Ea (o_not rfl) (Ed (Ec (Eb [2, 3, 66] rfl ?_)))
 first | refine Em rfl ?_ ?_ | refine s_condN rfl ?_ ?_ | refine Eu rfl ?_ ?_ | refine Ej rfl ?_ ?_
 intro h11
 try rw [nnp] at h11
 refine Ee (Eg (Ea (Ef rfl) (Ed (Ec (Eb [4] rfl (En (Ei (Eh rfl rfl ?_))))))))
 rotate_left
 intro h11
 try rw [nnp] at h11
 refine Eo (Ec (Eb [2, 3] rfl (Ee (Ee (Eg (Ea (Ek rfl) (Ea (o_ldnC rfl rfl rfl) (Ea (Ek rfl) (Ea (o_ldnC rfl rfl rfl) ?_)))))))))
 first | refine Et rfl rfl (c_135 _ _ hs.2.2.2.2.2.1) ?_ | refine Er rfl rfl (by simp) (c_135 _ _ hs.2.2.2.2.2.1) rfl ?_
 refine Ea (o_not rfl) (Ed (Ec (Eb [2, 3, 72] rfl ?_)))
 first | refine Em rfl ?_ ?_ | refine s_condN rfl ?_ ?_ | refine Eu rfl ?_ ?_ | refine Ej rfl ?_ ?_
 intro h12
 try rw [nnp] at h12
 refine Ee (Eg (Ea (Ef rfl) (Ed (Ec (Eb [4] rfl (En (Ei (Eh rfl rfl ?_))))))))
 rotate_left
 intro h12
 try rw [nnp] at h12
 refine Eo (Ec (Eb [2, 3] rfl (Ee (Ee (Eg (Ea (Ek rfl) (Ea (Ep rfl rfl rfl) (Ea (Ek rfl) (Ea (Ep rfl rfl rfl) (Ea (o_neq rfl rfl) (Ed ?_)))))))))))
 refine Ec (Eb [2, 3, 77] rfl ?_)
 first | refine Em rfl ?_ ?_ | refine Ej rfl ?_ ?_
 intro h13
 try rw [nnp] at h13
 refine Ee (Eg (Ea (Ef rfl) (Ed (Ec (Eb [4] rfl (En (Ei (Eh rfl rfl ?_))))))))
 rotate_left
 intro h13
 try rw [nnp] at h13
 refine Eo (Ec (Eb [2, 3] rfl (Ee (Ee (Eg (Ea (Ek rfl) (Ea (Ep rfl rfl rfl) (Ea (Ek rfl) (Ea (Ep rfl rfl rfl) ?_)))))))))
 first | refine Et rfl rfl (c_131 _ _ hs.2.2.2.2.2.2) ?_ | refine Er rfl rfl (by simp) (c_131 _ _ hs.2.2.2.2.2.2) rfl ?_
 refine Ea (o_not rfl) (Ed (Ec (Eb [83] rfl ?_)))
 first | refine Em rfl ?_ ?_ | refine s_condN rfl ?_ ?_ | refine Eu rfl ?_ ?_ | refine Ej rfl ?_ ?_
 intro h14
 try rw [nnp] at h14
 refine Ee (Eg (Ea (Ef rfl) (Ed (Ec (Eb [4] rfl (En (Ei (Eh rfl rfl ?_))))))))
 rotate_left
 intro h14
 try rw [nnp] at h14
 refine Eo (Ec (Eb [] rfl (Ee (Eg (Ea (Ef rfl) (Ed (Ec (Eb [4] rfl (En (Eh rfl rfl ?_))))))))))
 rotate_left
 all_goals
  cases x; cases y; simp_all
def MConf.beq (x y : MConf) : Bool := ((x.weight == y.weight) && ((x.prio == y.prio) && ((x.every == y.every) && ((x.cap == y.cap) && true))))
def Bucket.beq (x y : Bucket) : Bool := ((x.tokens == y.tokens) && ((x.count == y.count) && true))
def Beat.beq (x y : Beat) : Bool := ((x.live == y.live) && ((x.who == y.who) && ((x.num == y.num) && ((x.first == y.first) && ((x.via == y.via) && ((x.left == y.left) && ((x.resp == y.resp) && ((x.second == y.second) && true))))))))
def Wrr.beq (x y : Wrr) : Bool := ((x.pos == y.pos) && ((x.credit == y.credit) && true))
structure Bus.parts (x y : Bus) : Prop where
 conf : x.conf = y.conf
 now : x.now = y.now
 ms : x.ms = y.ms
 arb : x.arb = y.arb
 buckets : x.buckets = y.buckets
 splits : x.splits = y.splits
 holder : x.holder = y.holder
 kept : x.kept = y.kept
 last : x.last = y.last
 addr : x.addr = y.addr
 data : x.data = y.data
 model : x.model = y.model
 picks : x.picks = y.picks
 log : x.log = y.log
def bytes (size : Int) : Int := if inB size 0 2 then (if size = 0 then 1 else if size = 1 then 2 else 4) else 0
def limit (size : Int) : Int := if inB size 0 2 then (if size = 0 then 256 else if size = 1 then 65536 else 4294967296) else 0
def beatsN (b : Int) : Int := if b = 0 then 1 else if b = 3 then 8 else 4
def beats (b : Int) : Int := if inB b 0 3 then beatsN b else 0
def aligned (a size : Int) : Bool := inB size 0 2 && decide (0 ≤ a) && decide (a.tmod (bytes size) = 0)
def nextA (a size burst : Int) : Int :=
 if aligned a size && decide (a < 512) && decide (beats burst ≠ 0) then
  (if burst = 2 ∧ (a + bytes size).tmod (4 * bytes size) = 0 then a + bytes size - 4 * bytes size else a + bytes size)
 else -1
def bl (s b : Int) : Nat → Int → Option (List Int)
 | 0, _ => some []
 | n + 1, a => if nextA a s b < 0 then none else (bl s b n (nextA a s b)).map (a :: ·)
def burstL (a s b : Int) : List Int := (bl s b (beats b).toNat a).getD []
def onPage (l : List Int) (x : Int) : Bool := decide (IntKind.wrap .i64 (x.tdiv 64) = IntKind.wrap .i64 (((l[0]?).getD 0).tdiv 64))
def burstOk (a s b : Int) : Bool := (burstL a s b).all (onPage (burstL a s b)) && decide (0 < (burstL a s b).length)
def Req.ok (x : Req) : Bool := burstOk x.addr x.size x.burst && decide ((x.data.length : Int) = if x.write then beats x.burst else 0) && x.data.all fun v => inB v 0 (limit x.size - 1)
def Mst.beats (m : Mst) : Int := match m.queue[0]? with | some r => AL.beats r.burst | none => 0
def Mst.right (m : Mst) : Bool := decide (m.queue.length ≤ 4) && decide (0 ≤ m.tries) && m.queue.all Req.ok &&
 (if m.queue.length = 0 then decide (m.beat = 0) && decide (m.done = 0) && decide (m.tries = 0) && !m.parted && !m.broken else inB m.done 0 (m.beats - 1) && inB m.beat m.done (min (m.done + 2) m.beats))
def okAt (c : Conf) (s : Script) (i : Nat) : Bool := match s.posts[i]? with
 | some p => inB p.moment 0 4000 && inB p.who 0 (c.masters.length - 1) && p.req.ok && (match i with
   | 0 => true
   | j + 1 => match s.posts[j]? with
     | some q => decide (q.moment ≤ p.moment)
     | none => true)
 | none => true
def Script.ok (s : Script) (c : Conf) : Bool := c.ok && decide (s.posts.length ≤ 20) && decide (s.waits.length ≤ 20) && decide (s.says.length ≤ 20) && (List.range s.posts.length).all (okAt c s)
def markI (k : Int) (i : Nat) : Int := k + 1 * i
def markD1 (k : Int) : Done := ⟨k, k + 1, decide ((k + 1 + 1).tmod 3 = 0), k + 1 + 1 + 1, k + 1 + 1 + 1 + 1, k + 1 + 1 + 1 + 1 + 1, k + 1 + 1 + 1 + 1 + 1 + 1⟩
def markD (k : Int) (i : Nat) : Done := markD1 (k + 7 * i)
theorem sets2 {α : Type} (rows : List α) (i : Nat) (x y : α) : (rows.set i x).set i y = rows.set i y := List.set_set ..
theorem cg_337 (xs : List Int) (k : Int) (hl : xs.length ≤ 1048576) (hk : 0 ≤ k ∧ k ≤ 1099511627776) : GV prg 337 [.arr 1 (xs.map iR)] [.ls 0 xs.length, .w (.int .i64 k)] (fun u L1 => u = .w (.int .i64 (k + 1 * xs.length)) ∧ L1 = [.arr 1 (((List.range xs.length).map (markI k)).map iR)]) := by
 refine gv_in g337 (Eb [0, 1] rfl (Ee (Eg (Ea (Ef rfl) (Ed (Ec (Eb [0, 1] rfl (Ee (Ee (Eg (Ea (Ef rfl) ?_)))))))))))
 refine Ed (Ec (Eb [0, 1, 5] rfl (S_block (S_loop (ι := Nat) (fun i => i ≤ xs.length) (fun i => [(5, .w (.int .i64 (i : Int))), (1, .w (.int .i64 (k + 1 * (i : Int))))]) (fun i => [.arr 1 (mix iR (markI k) xs i)]) (fun i => xs.length - i) 1 0 (by simp) rfl (hasOf ⟨rfl, congrArg (fun b => some (V.w (.int .i64 b))) (by simp), trivial⟩ (by rw [mix_zero]; rfl)) rfl (fun _ _ => rfl) (fun _ _ => ⟨rfl, rfl⟩) ?_))))
 intro i hi
 obtain ⟨y0, hy0⟩ : ∃ y, i < xs.length → xs[i]? = some y := by
  by_cases h : i < xs.length
  · exact ⟨xs[i], fun _ => List.getElem?_eq_getElem h⟩
  · exact ⟨markI k 0, fun h2 => absurd h2 h⟩
 refine Eb [0, 1, 5] rfl (Ee (Ee (Eg (Ea (Ef rfl) (Ea (Ef rfl) (Ea (o_lenL rfl rfl (by (try simp only [Int.toNat_natCast, List.length_set]); first | exact List.length_map .. | exact Ev _ _ _ _ hi)) (Ea (o_lss rfl rfl) (Ed (Ec (Eb [0, 1, 5, 9] rfl ?_))))))))))
 first | refine Em rfl ?_ ?_ | refine Ej rfl ?_ ?_
 intro h1
 try rw [nnp] at h1
 refine Eo (Ec (Eb [0, 1, 5] rfl (Ee (S_block (Ee (Eg (Ea (Ef rfl) (Ea (Ef rfl) (Ea (Ef rfl) (Ea (o_iaL rfl rfl (by (try simp only [Int.toNat_natCast, List.length_set]); first | exact List.length_map .. | exact Ev _ _ _ _ hi) rfl (by omega)) (s_opN (o_stA rfl rfl rfl rfl (by (try simp only [Int.toNat_natCast, List.length_set]); first | exact List.length_map .. | exact Ev _ _ _ _ hi) (by (try rw [Int.toNat_natCast]); first | exact set_at (by (try simp only [List.length_set]); rw [Ev _ _ _ _ hi]; omega) | exact mix_at _ _ (hy0 (by omega))) rfl rfl) ?_)))))))))))
 refine Ed (Ec (Eb [0, 1, 5] rfl (Eg (Ea (Ef rfl) ?_))))
 first | refine Ea (o_addn rfl rfl (by omega)) ?_ | refine Ea (o_add rfl rfl) ?_
 refine Ea (Ef rfl) (Ed (q_blkN (Ec (Eb [0, 1, 5] rfl (Eg (Ea (Ef rfl) ?_))))))
 first | refine Ea (o_addn rfl rfl (by omega)) ?_ | refine Ea (o_add rfl rfl) ?_
 refine Ea (Ef rfl) (Ed (q_loopN ?_))
 · refine ⟨i + 1, by omega, by omega, hasOf ⟨rfl, congrArg (fun b => some (V.w (.int .i64 b))) (by omega), trivial⟩ ?_⟩
   simp only [Int.toNat_natCast]
   rw [← mix_set _ _ (by assumption)]; rfl
 intro h1
 try rw [nnp] at h1
 refine s_exit (q_seqX (q_loopX (q_blkH (Ec (Eb [1] rfl (Ee (Eg (Ea (Ef rfl) (Ea (Ef rfl) (Ed (Ec ?_)))))))))))
 refine Eb [4] rfl (En ?_)
 · refine retG_leaf [] (.inr rfl) rfl rfl rfl rfl (show (List.range 1 ++ []).Nodup by decide) ?_
   exact ⟨by rw [show (i : Int) = xs.length by omega], by rw [mix_end _ _ _ (by assumption) hi]⟩
theorem c_380 (n : Nat) (k : Int) (hl : n ≤ 1048576) (hk : 0 ≤ k ∧ k ≤ 1099511627776) : CV prg 380 [.sl 1 (((List.range n).map (markI k)).map iR), .w (.int .i64 k)] (fun res => res = .w (.int .i64 (k + 1 * n))) := by
 have hln : ((List.range n).map (markI k)).length = n := by simp
 refine cv_in g380 (Eb [0, 1] rfl (Ee (Eg (Ea (Ef rfl) (Ed (Ec (Eb [0, 1] rfl (Ee (Ee (Eg (Ea (Ef rfl) ?_)))))))))))
 refine Ed (Ec (Eb [0, 1, 5] rfl (S_block (S_loop0 (ι := Nat) (fun i => i ≤ n) (fun i => [(5, .w (.int .i64 (i : Int))), (1, .w (.int .i64 (k + 1 * (i : Int))))]) (fun i => n - i) 0 (by simp) rfl ⟨rfl, congrArg (fun b => some (V.w (.int .i64 b))) (by simp), trivial⟩ (fun _ _ => rfl) rfl ?_))))
 intro i hi
 refine Eb [0, 1, 5] rfl (Ee (Ee (Eg (Ea (Ef rfl) (Ea (Ef rfl) ?_)))))
 first | refine Ea (o_lenM rfl) ?_ | refine Ea (o_len rfl) ?_
 refine Ea (o_lss rfl rfl) (Ed (Ec (Eb [0, 1, 5, 9] rfl ?_)))
 first | refine Em rfl ?_ ?_ | refine Ej rfl ?_ ?_
 intro h1
 try rw [nnp] at h1
 refine Eo (Ec (Eb [0, 1, 5] rfl (Ee (S_block (Ee (Ee (Eg (Ea (Ef rfl) (Ea (Ef rfl) (s_iaM rfl rfl (by omega) ?_))))))))))
 intro y2 e2
 simp only [Int.toNat_natCast] at e2; obtain rfl := mks_at e2
 refine Ea (o_ld rfl rfl) (Ea (Ef rfl) (Ea (o_neq rfl rfl) (Ed (Ec (Eb [0, 1, 5, 17] rfl ?_)))))
 first | refine Em rfl ?_ ?_ | refine Ej rfl ?_ ?_
 intro h3
 try rw [nnp] at h3
 refine Ee (Eg (Ea (Ef rfl) (Ed (Ec (Eb [4] rfl (En (Ei (q_blkR (Ei (q_loopR (q_blkR ?_)))))))))))
 refine Ei (Eq rfl rfl ?_)
 rotate_left
 intro h3
 try rw [nnp] at h3
 refine Eo (Ec (Eb [0, 1, 5] rfl (Eg (Ea (Ef rfl) ?_))))
 first | refine Ea (o_addn rfl rfl (by omega)) ?_ | refine Ea (o_add rfl rfl) ?_
 refine Ea (Ef rfl) (Ed (q_blkN (Ec (Eb [0, 1, 5] rfl (Eg (Ea (Ef rfl) ?_))))))
 first | refine Ea (o_addn rfl rfl (by omega)) ?_ | refine Ea (o_add rfl rfl) ?_
 refine Ea (Ef rfl) (Ed (q_loopN ?_))
 · exact ⟨i + 1, by omega, by omega, hasOf ⟨rfl, congrArg (fun b => some (V.w (.int .i64 b))) (by omega), trivial⟩ rfl⟩
 intro h1
 try rw [nnp] at h1
 refine s_exit (q_seqX (q_loopX (q_blkH (Ec (Eb [1] rfl (Ee (Eg (Ea (Ef rfl) (Ea (Ef rfl) (Ed (Ec ?_)))))))))))
 refine Eb [4] rfl (En (Eq rfl rfl ?_))
 rotate_left
 all_goals
  first | (rw [show (i : Int) = n by omega]; done) | (exfalso; first | exact absurd rfl (by assumption) | (simp_all [markI]; done) | (simp_all [markI, markD1]; done))
theorem cg_142 (xs : List Done) (k : Int) (hl : xs.length ≤ 1048576) (hk : 0 ≤ k ∧ k ≤ 1099511627776) : GV prg 142 [.arr 7 (xs.map Done.r)] [.ls 0 xs.length, .w (.int .i64 k)] (fun u L1 => u = .w (.int .i64 (k + 7 * xs.length)) ∧ L1 = [.arr 7 (((List.range xs.length).map (markD k)).map Done.r)]) := by
 refine gv_in g142 (Eb [0, 1] rfl (Ee (Eg (Ea (Ef rfl) (Ed (Ec (Eb [0, 1] rfl (Ee (Ee (Eg (Ea (Ef rfl) ?_)))))))))))
 refine Ed (Ec (Eb [0, 1, 5] rfl (S_block (S_loop (ι := Nat) (fun i => i ≤ xs.length) (fun i => [(5, .w (.int .i64 (i : Int))), (1, .w (.int .i64 (k + 7 * (i : Int))))]) (fun i => [.arr 7 (mix Done.r (markD k) xs i)]) (fun i => xs.length - i) 1 0 (by simp) rfl (hasOf ⟨rfl, congrArg (fun b => some (V.w (.int .i64 b))) (by simp), trivial⟩ (by rw [mix_zero]; rfl)) rfl (fun _ _ => rfl) (fun _ _ => ⟨rfl, rfl⟩) ?_))))
 intro i hi
 obtain ⟨y0, hy0⟩ : ∃ y, i < xs.length → xs[i]? = some y := by
  by_cases h : i < xs.length
  · exact ⟨xs[i], fun _ => List.getElem?_eq_getElem h⟩
  · exact ⟨markD k 0, fun h2 => absurd h2 h⟩
 refine Eb [0, 1, 5] rfl (Ee (Ee (Eg (Ea (Ef rfl) (Ea (Ef rfl) (Ea (o_lenL rfl rfl (by (try simp only [Int.toNat_natCast, List.length_set]); first | exact List.length_map .. | exact Ev _ _ _ _ hi)) (Ea (o_lss rfl rfl) (Ed (Ec (Eb [0, 1, 5, 9] rfl ?_))))))))))
 first | refine Em rfl ?_ ?_ | refine Ej rfl ?_ ?_
 intro h1
 try rw [nnp] at h1
 refine Eo (Ec (Eb [0, 1, 5] rfl (Ee (S_block (Ee (Eg (Ea (Ef rfl) (Ea (Ef rfl) (Ea (Ef rfl) (Ea (o_iaL rfl rfl (by (try simp only [Int.toNat_natCast, List.length_set]); first | exact List.length_map .. | exact Ev _ _ _ _ hi) rfl (by omega)) (Ea (o_faA rfl rfl (by (try simp only [Int.toNat_natCast, List.length_set]); first | exact List.length_map .. | exact Ev _ _ _ _ hi)) ?_)))))))))))
 refine s_opN (o_stA rfl rfl rfl rfl (by (try simp only [Int.toNat_natCast, List.length_set]); first | exact List.length_map .. | exact Ev _ _ _ _ hi) (by (try rw [Int.toNat_natCast]); first | exact set_at (by (try simp only [List.length_set]); rw [Ev _ _ _ _ hi]; omega) | exact mix_at _ _ (hy0 (by omega))) rfl rfl) (Ed (Ec (Eb [0, 1, 5] rfl (Ee (Eg (Ea (Ef rfl) ?_))))))
 first | refine Ea (o_addn rfl rfl (by omega)) ?_ | refine Ea (o_add rfl rfl) ?_
 refine Ea (Ef rfl) (Ed (Ec (Eb [0, 1, 5] rfl (Ee (Eg (Ea (Ef rfl) (Ea (Ef rfl) (Ea (Ef rfl) (Ea (o_iaL rfl rfl (by (try simp only [Int.toNat_natCast, List.length_set]); first | exact List.length_map .. | exact Ev _ _ _ _ hi) rfl (by omega)) (Ea (o_faA rfl rfl (by (try simp only [Int.toNat_natCast, List.length_set]); first | exact List.length_map .. | exact Ev _ _ _ _ hi)) (s_opN (o_stA rfl rfl rfl rfl (by (try simp only [Int.toNat_natCast, List.length_set]); first | exact List.length_map .. | exact Ev _ _ _ _ hi) (by (try rw [Int.toNat_natCast]); first | exact set_at (by (try simp only [List.length_set]); rw [Ev _ _ _ _ hi]; omega) | exact mix_at _ _ (hy0 (by omega))) rfl rfl) ?_)))))))))))
 refine Ed (Ec (Eb [0, 1, 5] rfl (Ee (Eg (Ea (Ef rfl) ?_)))))
 first | refine Ea (o_addn rfl rfl (by omega)) ?_ | refine Ea (o_add rfl rfl) ?_
 refine Ea (Ef rfl) (Ed (Ec (Eb [0, 1, 5] rfl (Ee (Eg (Ea (Ef rfl) (Ea (Ef rfl) (Ea (Ef rfl) ?_))))))))
 first | refine Ea (o_rem rfl rfl (by decide)) ?_ | refine Ea (o_rem rfl rfl (by omega)) ?_
 refine Ea (o_eql rfl rfl) (Ea (o_iaL rfl rfl (by (try simp only [Int.toNat_natCast, List.length_set]); first | exact List.length_map .. | exact Ev _ _ _ _ hi) rfl (by omega)) (Ea (o_faA rfl rfl (by (try simp only [Int.toNat_natCast, List.length_set]); first | exact List.length_map .. | exact Ev _ _ _ _ hi)) (s_opN (o_stA rfl rfl rfl rfl (by (try simp only [Int.toNat_natCast, List.length_set]); first | exact List.length_map .. | exact Ev _ _ _ _ hi) (by (try rw [Int.toNat_natCast]); first | exact set_at (by (try simp only [List.length_set]); rw [Ev _ _ _ _ hi]; omega) | exact mix_at _ _ (hy0 (by omega))) rfl rfl) (Ed (Ec (Eb [0, 1, 5] rfl (Ee (Eg (Ea (Ef rfl) ?_)))))))))
 first | refine Ea (o_addn rfl rfl (by omega)) ?_ | refine Ea (o_add rfl rfl) ?_
 refine Ea (Ef rfl) (Ed (Ec (Eb [0, 1, 5] rfl (Ee (Eg (Ea (Ef rfl) (Ea (Ef rfl) (Ea (Ef rfl) (Ea (o_iaL rfl rfl (by (try simp only [Int.toNat_natCast, List.length_set]); first | exact List.length_map .. | exact Ev _ _ _ _ hi) rfl (by omega)) (Ea (o_faA rfl rfl (by (try simp only [Int.toNat_natCast, List.length_set]); first | exact List.length_map .. | exact Ev _ _ _ _ hi)) (s_opN (o_stA rfl rfl rfl rfl (by (try simp only [Int.toNat_natCast, List.length_set]); first | exact List.length_map .. | exact Ev _ _ _ _ hi) (by (try rw [Int.toNat_natCast]); first | exact set_at (by (try simp only [List.length_set]); rw [Ev _ _ _ _ hi]; omega) | exact mix_at _ _ (hy0 (by omega))) rfl rfl) ?_)))))))))))
 refine Ed (Ec (Eb [0, 1, 5] rfl (Ee (Eg (Ea (Ef rfl) ?_)))))
 first | refine Ea (o_addn rfl rfl (by omega)) ?_ | refine Ea (o_add rfl rfl) ?_
 refine Ea (Ef rfl) (Ed (Ec (Eb [0, 1, 5] rfl (Ee (Eg (Ea (Ef rfl) (Ea (Ef rfl) (Ea (Ef rfl) (Ea (o_iaL rfl rfl (by (try simp only [Int.toNat_natCast, List.length_set]); first | exact List.length_map .. | exact Ev _ _ _ _ hi) rfl (by omega)) (Ea (o_faA rfl rfl (by (try simp only [Int.toNat_natCast, List.length_set]); first | exact List.length_map .. | exact Ev _ _ _ _ hi)) (s_opN (o_stA rfl rfl rfl rfl (by (try simp only [Int.toNat_natCast, List.length_set]); first | exact List.length_map .. | exact Ev _ _ _ _ hi) (by (try rw [Int.toNat_natCast]); first | exact set_at (by (try simp only [List.length_set]); rw [Ev _ _ _ _ hi]; omega) | exact mix_at _ _ (hy0 (by omega))) rfl rfl) ?_)))))))))))
 refine Ed (Ec (Eb [0, 1, 5] rfl (Ee (Eg (Ea (Ef rfl) ?_)))))
 first | refine Ea (o_addn rfl rfl (by omega)) ?_ | refine Ea (o_add rfl rfl) ?_
 refine Ea (Ef rfl) (Ed (Ec (Eb [0, 1, 5] rfl (Ee (Eg (Ea (Ef rfl) (Ea (Ef rfl) (Ea (Ef rfl) (Ea (o_iaL rfl rfl (by (try simp only [Int.toNat_natCast, List.length_set]); first | exact List.length_map .. | exact Ev _ _ _ _ hi) rfl (by omega)) (Ea (o_faA rfl rfl (by (try simp only [Int.toNat_natCast, List.length_set]); first | exact List.length_map .. | exact Ev _ _ _ _ hi)) (s_opN (o_stA rfl rfl rfl rfl (by (try simp only [Int.toNat_natCast, List.length_set]); first | exact List.length_map .. | exact Ev _ _ _ _ hi) (by (try rw [Int.toNat_natCast]); first | exact set_at (by (try simp only [List.length_set]); rw [Ev _ _ _ _ hi]; omega) | exact mix_at _ _ (hy0 (by omega))) rfl rfl) ?_)))))))))))
 refine Ed (Ec (Eb [0, 1, 5] rfl (Ee (Eg (Ea (Ef rfl) ?_)))))
 first | refine Ea (o_addn rfl rfl (by omega)) ?_ | refine Ea (o_add rfl rfl) ?_
 refine Ea (Ef rfl) (Ed (Ec (Eb [0, 1, 5] rfl (Ee (Eg (Ea (Ef rfl) (Ea (Ef rfl) (Ea (Ef rfl) (Ea (o_iaL rfl rfl (by (try simp only [Int.toNat_natCast, List.length_set]); first | exact List.length_map .. | exact Ev _ _ _ _ hi) rfl (by omega)) (Ea (o_faA rfl rfl (by (try simp only [Int.toNat_natCast, List.length_set]); first | exact List.length_map .. | exact Ev _ _ _ _ hi)) (s_opN (o_stA rfl rfl rfl rfl (by (try simp only [Int.toNat_natCast, List.length_set]); first | exact List.length_map .. | exact Ev _ _ _ _ hi) (by (try rw [Int.toNat_natCast]); first | exact set_at (by (try simp only [List.length_set]); rw [Ev _ _ _ _ hi]; omega) | exact mix_at _ _ (hy0 (by omega))) rfl rfl) ?_)))))))))))
 refine Ed (Ec (Eb [0, 1, 5] rfl (Eg (Ea (Ef rfl) ?_))))
 first | refine Ea (o_addn rfl rfl (by omega)) ?_ | refine Ea (o_add rfl rfl) ?_
 refine Ea (Ef rfl) (Ed (q_blkN (Ec (Eb [0, 1, 5] rfl (Eg (Ea (Ef rfl) ?_))))))
 first | refine Ea (o_addn rfl rfl (by omega)) ?_ | refine Ea (o_add rfl rfl) ?_
 refine Ea (Ef rfl) (Ed (q_loopN ?_))
 · refine ⟨i + 1, by omega, by omega, hasOf ⟨rfl, congrArg (fun b => some (V.w (.int .i64 b))) (by omega), trivial⟩ ?_⟩
   simp only [Int.toNat_natCast, sets2]
   rw [← mix_set _ _ (by assumption)]; rfl
 intro h1
 try rw [nnp] at h1
 refine s_exit (q_seqX (q_loopX (q_blkH (Ec (Eb [1] rfl (Ee (Eg (Ea (Ef rfl) (Ea (Ef rfl) (Ed (Ec ?_)))))))))))
 refine Eb [4] rfl (En ?_)
 · refine retG_leaf [] (.inr rfl) rfl rfl rfl rfl (show (List.range 1 ++ []).Nodup by decide) ?_
   exact ⟨by rw [show (i : Int) = xs.length by omega], by rw [mix_end _ _ _ (by assumption) hi]⟩
theorem c_141 (n : Nat) (k : Int) (hl : n ≤ 1048576) (hk : 0 ≤ k ∧ k ≤ 1099511627776) : CV prg 141 [.sl 7 (((List.range n).map (markD k)).map Done.r), .w (.int .i64 k)] (fun res => res = .w (.int .i64 (k + 7 * n))) := by
 have hln : ((List.range n).map (markD k)).length = n := by simp
 refine cv_in g141 (Eb [0, 1] rfl (Ee (Eg (Ea (Ef rfl) (Ed (Ec (Eb [0, 1] rfl (Ee (Ee (Eg (Ea (Ef rfl) ?_)))))))))))
 refine Ed (Ec (Eb [0, 1, 5] rfl (S_block (S_loop0 (ι := Nat) (fun i => i ≤ n) (fun i => [(5, .w (.int .i64 (i : Int))), (1, .w (.int .i64 (k + 7 * (i : Int))))]) (fun i => n - i) 0 (by simp) rfl ⟨rfl, congrArg (fun b => some (V.w (.int .i64 b))) (by simp), trivial⟩ (fun _ _ => rfl) rfl ?_))))
 intro i hi
 refine Eb [0, 1, 5] rfl (Ee (Ee (Eg (Ea (Ef rfl) (Ea (Ef rfl) ?_)))))
 first | refine Ea (o_lenM rfl) ?_ | refine Ea (o_len rfl) ?_
 refine Ea (o_lss rfl rfl) (Ed (Ec (Eb [0, 1, 5, 9] rfl ?_)))
 first | refine Em rfl ?_ ?_ | refine Ej rfl ?_ ?_
 intro h1
 try rw [nnp] at h1
 refine Eo (Ec (Eb [0, 1, 5] rfl (Ee (S_block (Ee (Ee (Eg (Ea (Ef rfl) (Ea (Ef rfl) (s_iaM rfl rfl (by omega) ?_))))))))))
 intro y2 e2
 simp only [Int.toNat_natCast] at e2; obtain rfl := mks_at e2
 refine Ea (o_fa rfl) (Ea (o_ld rfl rfl) (Ea (Ef rfl) (Ea (o_neq rfl rfl) (Ed (Ec (Eb [0, 1, 5, 18] rfl ?_))))))
 first | refine Em rfl ?_ ?_ | refine Ej rfl ?_ ?_
 intro h3
 try rw [nnp] at h3
 refine Ee (Eg (Ea (Ef rfl) (Ed (Ec (Eb [4] rfl (En (Ei (q_blkR (Ei (q_loopR (q_blkR ?_)))))))))))
 refine Ei (Eq rfl rfl ?_)
 rotate_left
 intro h3
 try rw [nnp] at h3
 refine Eo (Ec (Eb [0, 1, 5] rfl (Ee (Eg (Ea (Ef rfl) ?_)))))
 first | refine Ea (o_addn rfl rfl (by omega)) ?_ | refine Ea (o_add rfl rfl) ?_
 refine Ea (Ef rfl) (Ed (Ec (Eb [0, 1, 5] rfl (Ee (Ee (Eg (Ea (Ef rfl) (Ea (Ef rfl) (s_iaM rfl rfl (by omega) ?_)))))))))
 intro y4 e4
 simp only [Int.toNat_natCast] at e4; obtain rfl := mks_at e4
 refine Ea (o_fa rfl) (Ea (o_ld rfl rfl) (Ea (Ef rfl) (Ea (o_neq rfl rfl) (Ed (Ec (Eb [0, 1, 5, 27] rfl ?_))))))
 first | refine Em rfl ?_ ?_ | refine Ej rfl ?_ ?_
 intro h5
 try rw [nnp] at h5
 refine Ee (Eg (Ea (Ef rfl) (Ed (Ec (Eb [4] rfl (En (Ei (q_blkR (Ei (q_loopR (q_blkR ?_)))))))))))
 refine Ei (Eq rfl rfl ?_)
 rotate_left
 intro h5
 try rw [nnp] at h5
 refine Eo (Ec (Eb [0, 1, 5] rfl (Ee (Eg (Ea (Ef rfl) ?_)))))
 first | refine Ea (o_addn rfl rfl (by omega)) ?_ | refine Ea (o_add rfl rfl) ?_
 refine Ea (Ef rfl) (Ed (Ec (Eb [0, 1, 5] rfl (Ee (Ee (Eg (Ea (Ef rfl) (Ea (Ef rfl) (s_iaM rfl rfl (by omega) ?_)))))))))
 intro y6 e6
 simp only [Int.toNat_natCast] at e6; obtain rfl := mks_at e6
 refine Ea (o_fa rfl) (Ea (o_ld rfl rfl) (Ea (Ef rfl) ?_))
 first | refine Ea (o_rem rfl rfl (by decide)) ?_ | refine Ea (o_rem rfl rfl (by omega)) ?_
 refine Ea (o_eql rfl rfl) (Ea (o_eqb rfl rfl) (Ed (Ec (Eb [0, 1, 5, 38] rfl ?_))))
 first | refine Eu rfl ?_ ?_ | refine Ej rfl ?_ ?_
 intro h7
 try rw [nnp] at h7
 refine Ee (Eg (Ea (Ef rfl) (Ed (Ec (Eb [4] rfl (En (Ei (q_blkR (Ei (q_loopR (q_blkR ?_)))))))))))
 refine Ei (Eq rfl rfl ?_)
 rotate_left
 intro h7
 try rw [nnp] at h7
 refine Eo (Ec (Eb [0, 1, 5] rfl (Ee (Eg (Ea (Ef rfl) ?_)))))
 first | refine Ea (o_addn rfl rfl (by omega)) ?_ | refine Ea (o_add rfl rfl) ?_
 refine Ea (Ef rfl) (Ed (Ec (Eb [0, 1, 5] rfl (Ee (Ee (Eg (Ea (Ef rfl) (Ea (Ef rfl) (s_iaM rfl rfl (by omega) ?_)))))))))
 intro y8 e8
 simp only [Int.toNat_natCast] at e8; obtain rfl := mks_at e8
 refine Ea (o_fa rfl) (Ea (o_ld rfl rfl) (Ea (Ef rfl) (Ea (o_neq rfl rfl) (Ed (Ec (Eb [0, 1, 5, 47] rfl ?_))))))
 first | refine Em rfl ?_ ?_ | refine Ej rfl ?_ ?_
 intro h9
 try rw [nnp] at h9
 refine Ee (Eg (Ea (Ef rfl) (Ed (Ec (Eb [4] rfl (En (Ei (q_blkR (Ei (q_loopR (q_blkR ?_)))))))))))
 refine Ei (Eq rfl rfl ?_)
 rotate_left
 intro h9
 try rw [nnp] at h9
 refine Eo (Ec (Eb [0, 1, 5] rfl (Ee (Eg (Ea (Ef rfl) ?_)))))
 first | refine Ea (o_addn rfl rfl (by omega)) ?_ | refine Ea (o_add rfl rfl) ?_
 refine Ea (Ef rfl) (Ed (Ec (Eb [0, 1, 5] rfl (Ee (Ee (Eg (Ea (Ef rfl) (Ea (Ef rfl) (s_iaM rfl rfl (by omega) ?_)))))))))
 intro y10 e10
 simp only [Int.toNat_natCast] at e10; obtain rfl := mks_at e10
 refine Ea (o_fa rfl) (Ea (o_ld rfl rfl) (Ea (Ef rfl) (Ea (o_neq rfl rfl) (Ed (Ec (Eb [0, 1, 5, 56] rfl ?_))))))
 first | refine Em rfl ?_ ?_ | refine Ej rfl ?_ ?_
 intro h11
 try rw [nnp] at h11
 refine Ee (Eg (Ea (Ef rfl) (Ed (Ec (Eb [4] rfl (En (Ei (q_blkR (Ei (q_loopR (q_blkR ?_)))))))))))
 refine Ei (Eq rfl rfl ?_)
 rotate_left
 intro h11
 try rw [nnp] at h11
 refine Eo (Ec (Eb [0, 1, 5] rfl (Ee (Eg (Ea (Ef rfl) ?_)))))
 first | refine Ea (o_addn rfl rfl (by omega)) ?_ | refine Ea (o_add rfl rfl) ?_
 refine Ea (Ef rfl) (Ed (Ec (Eb [0, 1, 5] rfl (Ee (Ee (Eg (Ea (Ef rfl) (Ea (Ef rfl) (s_iaM rfl rfl (by omega) ?_)))))))))
 intro y12 e12
 simp only [Int.toNat_natCast] at e12; obtain rfl := mks_at e12
 refine Ea (o_fa rfl) (Ea (o_ld rfl rfl) (Ea (Ef rfl) (Ea (o_neq rfl rfl) (Ed (Ec (Eb [0, 1, 5, 65] rfl ?_))))))
 first | refine Em rfl ?_ ?_ | refine Ej rfl ?_ ?_
 intro h13
 try rw [nnp] at h13
 refine Ee (Eg (Ea (Ef rfl) (Ed (Ec (Eb [4] rfl (En (Ei (q_blkR (Ei (q_loopR (q_blkR ?_)))))))))))
 refine Ei (Eq rfl rfl ?_)
 rotate_left
 intro h13
 try rw [nnp] at h13
 refine Eo (Ec (Eb [0, 1, 5] rfl (Ee (Eg (Ea (Ef rfl) ?_)))))
 first | refine Ea (o_addn rfl rfl (by omega)) ?_ | refine Ea (o_add rfl rfl) ?_
 refine Ea (Ef rfl) (Ed (Ec (Eb [0, 1, 5] rfl (Ee (Ee (Eg (Ea (Ef rfl) (Ea (Ef rfl) (s_iaM rfl rfl (by omega) ?_)))))))))
 intro y14 e14
 simp only [Int.toNat_natCast] at e14; obtain rfl := mks_at e14
 refine Ea (o_fa rfl) (Ea (o_ld rfl rfl) (Ea (Ef rfl) (Ea (o_neq rfl rfl) (Ed (Ec (Eb [0, 1, 5, 74] rfl ?_))))))
 first | refine Em rfl ?_ ?_ | refine Ej rfl ?_ ?_
 intro h15
 try rw [nnp] at h15
 refine Ee (Eg (Ea (Ef rfl) (Ed (Ec (Eb [4] rfl (En (Ei (q_blkR (Ei (q_loopR (q_blkR ?_)))))))))))
 refine Ei (Eq rfl rfl ?_)
 rotate_left
 intro h15
 try rw [nnp] at h15
 refine Eo (Ec (Eb [0, 1, 5] rfl (Eg (Ea (Ef rfl) ?_))))
 first | refine Ea (o_addn rfl rfl (by omega)) ?_ | refine Ea (o_add rfl rfl) ?_
 refine Ea (Ef rfl) (Ed (q_blkN (Ec (Eb [0, 1, 5] rfl (Eg (Ea (Ef rfl) ?_))))))
 first | refine Ea (o_addn rfl rfl (by omega)) ?_ | refine Ea (o_add rfl rfl) ?_
 refine Ea (Ef rfl) (Ed (q_loopN ?_))
 · exact ⟨i + 1, by omega, by omega, hasOf ⟨rfl, congrArg (fun b => some (V.w (.int .i64 b))) (by omega), trivial⟩ rfl⟩
 intro h1
 try rw [nnp] at h1
 refine s_exit (q_seqX (q_loopX (q_blkH (Ec (Eb [1] rfl (Ee (Eg (Ea (Ef rfl) (Ea (Ef rfl) (Ed (Ec ?_)))))))))))
 refine Eb [4] rfl (En (Eq rfl rfl ?_))
 rotate_left
 all_goals
  first | (rw [show (i : Int) = n by omega]; done) | (exfalso; first | exact absurd rfl (by assumption) | (simp_all [markD]; done) | (simp_all [markD, markD1]; done))
theorem words_map {α : Type} (k : Nat) {r : α → List V} (xs : List α) (h : ∀ y v, v ∈ r y → ∃ x, v = .w x) : (LB.arr k (xs.map r)).words := by
 intro row hrow v hv
 obtain ⟨y, _, rfl⟩ := List.mem_map.1 hrow
 exact h y v hv
def Wrr.hit (w : Wrr) (req : List Bool) (i : Nat) : Bool := (req[((w.pos + ((i : Int) + 1)).tmod req.length).toNat]?).getD false
def Wrr.pick (w : Wrr) (c : Conf) (req : List Bool) : Wrr × Int := if w.ok c && decide (req.length = c.masters.length) then
    (if decide (0 < w.credit) && (req[w.pos.toNat]?).getD false then (⟨w.pos, IntKind.wrap .i64 (w.credit - 1)⟩, w.pos)
     else match (List.range req.length).find? (w.hit req) with
      | some i => (⟨(w.pos + ((i : Int) + 1)).tmod req.length, IntKind.wrap .i64 (c.turn ((w.pos + ((i : Int) + 1)).tmod req.length) - 1)⟩, (w.pos + ((i : Int) + 1)).tmod req.length)
      | none => (⟨w.pos, 0⟩, -1))
 else (w, -1)
def cur (code : List Int) (i h : Int) : LB := .cell [.sl 1 (code.map uR), .w (.int .i64 i), .w (.int .i64 h)]
def Bucket.ok (b : Bucket) (m : MConf) : Bool := if m.prio then inB b.tokens 0 m.cap && decide (0 ≤ b.count) && decide (b.count < m.every) else decide (b.tokens = 0) && decide (b.count = 0)
def MConf.newB (m : MConf) : Bucket := if m.prio then ⟨max 0 m.cap, 0⟩ else ⟨0, 0⟩
def Bucket.take (b : Bucket) (m : MConf) : Bucket × Bool := if m.prio && b.ok m && decide (b.tokens ≠ 0) then (⟨b.tokens - 1, b.count⟩, true) else (b, false)
def Bucket.back (b : Bucket) (m : MConf) : Bucket := if m.prio && b.ok m && decide (b.tokens < m.cap) then ⟨b.tokens + 1, b.count⟩ else b
def MConf.most (m : MConf) (n : Int) : Int := if m.prio = true ∧ 1 ≤ m.every ∧ 0 ≤ m.cap ∧ inB n 0 4000 = true then m.cap + n.tdiv m.every + 1 else 0
theorem c_25 (m : MConf) : CV prg 25 [.agg m.r] (fun res => res = .agg (m.newB).r) := by
 refine cv_in g25 (Eb [0] rfl (Ee (Eg (Ea (o_box rfl rfl rfl) (Ea (o_new rfl rfl) (Ed (Ec (Eb [1, 2] rfl (Ee (Ee (Eg ?_)))))))))))
 refine Ea (Ek rfl) (Ea (Ep rfl rfl rfl) (Ea (o_not rfl) (Ed (Ec (Eb [1, 2, 5] rfl ?_)))))
 first | refine Em rfl ?_ ?_ | refine s_condN rfl ?_ ?_ | refine Eu rfl ?_ ?_ | refine Ej rfl ?_ ?_
 intro h1
 try rw [nnp] at h1
 refine Ee (Eg (Ea (o_bd rfl rfl) (s_opN (o_stnC rfl rfl rfl rfl rfl rfl rfl) (Ed (Ec (Eb [2] rfl (En (Ei (ret_leafR rfl rfl ?_)))))))))
 rotate_left
 intro h1
 try rw [nnp] at h1
 refine Eo (Ec (Eb [1, 2] rfl (Ee (Eg (Ea (Ek rfl) (Ea (Ep rfl rfl rfl) (Ea (o_mx rfl) (Ea (o_bd rfl rfl) (s_opN (o_stnC rfl rfl rfl rfl rfl rfl rfl) (Ed (Ec ?_)))))))))))
 refine Eb [2] rfl (En (ret_leafR rfl rfl ?_))
 rotate_left
 all_goals
  first | (simp_all [MConf.newB, Bucket.r, maxL2, Int.max_comm]; done) | (simp_all [MConf.newB, Bucket.r, maxL2]; omega)
theorem c_175 (m : MConf) : CV prg 175 [.agg m.r] (fun res => res = .agg (m.newB).r) := by
 refine cv_in g175 (Eb [0] rfl (Ee (Eg (Ea (o_box rfl rfl rfl) (Ea (o_new rfl rfl) (Ed (Ec (Eb [1, 2] rfl (Ee (Ee (Eg ?_)))))))))))
 refine Ea (Ek rfl) (Ea (Ep rfl rfl rfl) (Ea (o_not rfl) (Ed (Ec (Eb [1, 2, 5] rfl ?_)))))
 first | refine Em rfl ?_ ?_ | refine s_condN rfl ?_ ?_ | refine Eu rfl ?_ ?_ | refine Ej rfl ?_ ?_
 intro h1
 try rw [nnp] at h1
 refine Ee (Eg (Ea (o_bd rfl rfl) (s_opN (o_stnC rfl rfl rfl rfl rfl rfl rfl) (Ed (Ec (Eb [2] rfl (En (Ei (ret_leafR rfl rfl ?_)))))))))
 rotate_left
 intro h1
 try rw [nnp] at h1
 refine Eo (Ec (Eb [1, 2] rfl (Ee (Eg (Ea (Ek rfl) (Ea (Ep rfl rfl rfl) (Ea (o_mx rfl) (Ea (o_bd rfl rfl) (s_opN (o_stnC rfl rfl rfl rfl rfl rfl rfl) (Ed (Ec ?_)))))))))))
 refine Eb [2] rfl (En (ret_leafR rfl rfl ?_))
 rotate_left
 all_goals
  first | (simp_all [MConf.newB, Bucket.r, maxL2, Int.max_comm]; done) | (simp_all [MConf.newB, Bucket.r, maxL2]; omega)
def Script.fit (s : Script) : Prop := s.posts.length ≤ 6 ∧ (∀ p, p ∈ s.posts → p.req.data.length ≤ 16) ∧ (s.waits.length ≤ 6 ∧ ∀ y, y ∈ s.waits → 0 ≤ y ∧ y ≤ 16) ∧ s.says.length ≤ 6 ∧ ∀ y, y ∈ s.says → 0 ≤ y ∧ y ≤ 16
def byteB (v : Int) : Bool := inB v 0 255
def wordB (v : Int) : Bool := inB v 0 (limit 2 - 1)
def Dev.ok (d : Dev) : Bool := decide ((d.regs.length : Int) = 4) && decide ((d.fifo.length : Int) ≤ 4) && d.regs.all wordB && d.fifo.all wordB && wordB d.timer
def Model.ok (m : Model) : Bool := decide ((m.ram.length : Int) = 192) && m.ram.all byteB && m.dev.ok
def liveL (b : Bus) : List Beat := [b.addr, b.data].filter (fun x => x.live)
def Beat.none : Beat := ⟨false, 0, 0, false, 0, 0, 0, false⟩
def cntW (l : List Beat) (i : Nat) : Int := ((l.filter (fun x : Beat => decide (x.who = (i : Int)))).length : Int)
def fl (b : Bus) (j : Nat) : List (List V) := (List.range b.ms.length).map (fun i => iR (cntW ((liveL b).take j) i))
def Mst.backC (m : Mst) : Bool := m.right && decide (m.beat ≠ m.done)
def Mst.back (m : Mst) : Mst × Bool := if m.backC then (⟨m.queue, m.beat - 1, m.done, m.tries, m.parted, m.broken⟩, true) else (m, false)
def Mst.finC (m : Mst) : Bool := m.right && decide (m.beat ≠ m.done)
def Mst.fin (m : Mst) : Mst × Bool := if m.finC then (if m.done + 1 = m.beats then (⟨m.queue.drop 1, 0, 0, 0, false, false⟩, true) else (⟨m.queue, m.beat, m.done + 1, 0, false, m.broken⟩, true)) else (m, false)
def Mst.postC (m : Mst) (x : Req) : Bool := m.right && x.ok && decide (¬ (m.queue.length : Int) = 4)
def Mst.post (m : Mst) (x : Req) : Mst × Bool := if m.postC x then (⟨m.queue ++ [x], m.beat, m.done, m.tries, m.parted, m.broken⟩, true) else (m, false)
def Mst.fit (m : Mst) : Prop := m.queue.length ≤ 4 ∧ ∀ x, x ∈ m.queue → x.data.length ≤ 16
def Mst.fit5 (m : Mst) : Prop := m.queue.length ≤ 5 ∧ ∀ x, x ∈ m.queue → x.data.length ≤ 16
theorem Mst.fit.to5 {m : Mst} (h : m.fit) : m.fit5 := ⟨Nat.le_trans h.1 (by decide), h.2⟩
theorem Mst.fit5.small {m : Mst} (h : m.fit5) : m.small := ⟨Nat.le_trans h.1 (by decide), fun x hx => Nat.le_trans (h.2 x hx) (by decide)⟩
theorem Mst.fit.small {m : Mst} (h : m.fit) : m.small := h.to5.small
theorem Mst.fit.back {m : Mst} (h : m.fit) : m.back.1.fit := by
 unfold Mst.back
 split
 · exact h
 · exact h
theorem Mst.fit.fin {m : Mst} (h : m.fit) : m.fin.1.fit := by
 unfold Mst.fin
 split
 · split
   · exact ⟨by simp only [List.length_drop]; have := h.1; omega, fun x hx => h.2 x (List.mem_of_mem_drop hx)⟩
   · exact h
 · exact h
theorem Mst.fit.post {m : Mst} (h : m.fit) {x : Req} (hx : x.data.length ≤ 16) : (m.post x).1.fit := by
 unfold Mst.post
 split
 · rename_i hc
   unfold Mst.postC at hc
   simp only [Bool.and_eq_true, decide_eq_true_eq] at hc
   refine ⟨by simp only [List.length_append, List.length_cons, List.length_nil]; have := h.1; omega, fun y hy => ?_⟩
   rcases List.mem_append.1 hy with hy | hy
   · exact h.2 y hy
   · rw [List.mem_singleton.1 hy]; exact hx
 · exact h
def markC1 (k : Int) : MConf := ⟨k, decide ((k + 1).tmod 3 = 0), k + 1 + 1, k + 1 + 1 + 1⟩
def markC (k : Int) (i : Nat) : MConf := markC1 (k + 4 * i)
def markB1 (k : Int) : Bucket := ⟨k, k + 1⟩
def markB (k : Int) (i : Nat) : Bucket := markB1 (k + 2 * i)
def mst0 : Mst := ⟨[], 0, 0, 0, false, false⟩
def Mst.n (x : Mst) : List V := [.w (.slice none 0 0), .w (.int .i64 x.beat), .w (.int .i64 x.done), .w (.int .i64 x.tries), .w (.bool x.parted), .w (.bool x.broken)]
def markM1 (k : Int) : Mst := ⟨[], k, k + 1, k + 1 + 1, decide ((k + 1 + 1 + 1).tmod 3 = 0), decide ((k + 1 + 1 + 1 + 1).tmod 3 = 0)⟩
def markM (k : Int) (i : Nat) : Mst := markM1 (k + 5 * i)
end Go.Proofs.Ytdialnejieoelaa.AL
