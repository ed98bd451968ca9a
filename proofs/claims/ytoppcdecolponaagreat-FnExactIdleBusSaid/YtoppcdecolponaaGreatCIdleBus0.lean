/- What functions do with plain data, each by the form of its code. Printed by program. -/
import Derived.Test.YtoppcdecolponaaGreatSpec0
import Derived.Test.YtoppcdecolponaaGreatIrIdleBus
import Derived.Test.YtoppcdecolponaaGreatVA
namespace Go.Proofs.YtoppcdecolponaaGreat.AL
open Go
set_option linter.unusedVariables false
set_option linter.unusedSimpArgs false
set_option maxRecDepth 4096
theorem Fy (a b c : Int) : CV prg 230 [.w (.int .i64 a), .w (.int .i64 b), .w (.int .i64 c)] (fun res => res = .w (.bool (inB a b c))) := by
 refine Fo g230 (Eb [0, 1, 2] rfl (Eh (En (Ea (Ef rfl) (Ed (Ec (Eb [0, 1, 2] rfl (Eh (En (Ea (Ef rfl) (Ea (Ef rfl) ?_)))))))))))
 refine Ea (o_geq rfl rfl) (Ea (Ef rfl) ?_)
 first | refine Ff rfl ?_ ?_ | refine Fe rfl ?_ ?_
 intro h1
 try rw [nnp] at h1
 refine Ea (Ef rfl) (Ei rfl (Ea (Ef rfl) (Ei rfl (Ea (o_leq rfl rfl) (Ea (Em rfl rfl) (Ea (Ef rfl) (Ed (Ec (Eb [6] rfl (Ep (Eg rfl rfl ?_)))))))))))
 rotate_left
 intro h1
 try rw [nnp] at h1
 refine Ee rfl (Ee rfl (Ee rfl (Ea (Ej rfl rfl) (Ea (Ef rfl) (Ed (Ec (Eb [6] rfl (Ep (Eg rfl rfl ?_)))))))))
 rotate_left
 all_goals
  simp_all [inB] <;> omega
theorem c_103 (a b c : Int) : CV prg 103 [.w (.int .i64 a), .w (.int .i64 b), .w (.int .i64 c)] (fun res => res = .w (.bool (inB a b c))) := by
 refine Fo g103 (Eb [0, 1, 2] rfl (Eh (En (Ea (Ef rfl) (Ed (Ec (Eb [0, 1, 2] rfl (Eh (En (Ea (Ef rfl) (Ea (Ef rfl) ?_)))))))))))
 refine Ea (o_leq rfl rfl) (Ea (Ef rfl) ?_)
 first | refine Ff rfl ?_ ?_ | refine Fe rfl ?_ ?_
 intro h1
 try rw [nnp] at h1
 refine Ea (Ef rfl) (Ei rfl (Ea (Ef rfl) (Ei rfl (Ea (o_leq rfl rfl) (Ea (Em rfl rfl) (Ea (Ef rfl) (Ed (Ec (Eb [6] rfl (Ep (Eg rfl rfl ?_)))))))))))
 rotate_left
 intro h1
 try rw [nnp] at h1
 refine Ee rfl (Ee rfl (Ee rfl (Ea (Ej rfl rfl) (Ea (Ef rfl) (Ed (Ec (Eb [6] rfl (Ep (Eg rfl rfl ?_)))))))))
 rotate_left
 all_goals
  simp_all [inB] <;> omega
theorem cost_leaf {x : Conf} (h1 : inB x.maxRetry 0 3 = true) (h2 : inB x.maxWait 0 3 = true) : IntKind.wrap .i64 (IntKind.wrap .i64 (x.maxRetry + 2) * IntKind.wrap .i64 (x.maxWait + 6)) = x.cost := by
 unfold Conf.cost
 rw [h1, h2]
 simp only [inB, Bool.and_eq_true, decide_eq_true_eq] at h1 h2
 have hr : x.maxRetry = 0 ∨ x.maxRetry = 1 ∨ x.maxRetry = 2 ∨ x.maxRetry = 3 := by omega
 rw [wrap_in (x.maxRetry + 2) (by omega), wrap_in (x.maxWait + 6) (by omega), wrap_in]
 · rfl
 · rcases hr with h | h | h | h <;> rw [h] <;> omega
theorem c_186 (x : Conf) : CV prg 186 [.agg x.r] (fun res => res = .w (.int .i64 x.cost)) := by
 refine Fo g186 (Eb [0] rfl (Eh (En (Ea (o_box rfl rfl rfl) (Ea (Ef rfl) (Ed (Ec (Eb [1] rfl (Eh (Eh (En ?_)))))))))))
 refine Ea (Ek rfl) (Ea (Eo rfl rfl rfl) ?_)
 first | refine Ez rfl rfl (Fy ..) ?_ | refine Ew rfl rfl (by simp) (Fy ..) rfl ?_
 refine Ea (Fg rfl) (Ea (Ef rfl) ?_)
 first | refine Fq rfl ?_ ?_ | refine Fr rfl ?_ ?_ | refine s_gNF rfl ?_ ?_ | refine Fe rfl ?_ ?_
 intro h1
 try rw [nnp] at h1
 refine Ea (Ek rfl) (Ei rfl (Ea (Eo rfl rfl rfl) (Ei rfl ?_)))
 first | refine Ez rfl rfl (Fy ..) ?_ | refine Ew rfl rfl (by simp) (Fy ..) rfl ?_
 refine Ei rfl (Ea (Fg rfl) (Ea (Ej rfl rfl) (Ed (Ec (Eb [1, 12] rfl ?_)))))
 first | refine Ey rfl ?_ ?_ | refine Fp rfl ?_ ?_ | refine Fh rfl ?_ ?_ | refine Ev rfl ?_ ?_
 intro h2
 try rw [nnp] at h2
 refine Eh (En (Ea (Ef rfl) (Ed (Ec (Eb [2] rfl (Ep (Eu (Fc rfl rfl ?_))))))))
 rotate_left
 intro h2
 try rw [nnp] at h2
 refine Fa (Ec (Eb [1] rfl (Eh (En (Ea (Ek rfl) (Ea (Eo rfl rfl rfl) (Ea (o_add rfl rfl) (Ea (Ek rfl) (Ea (Eo rfl rfl rfl) (Ea (o_add rfl rfl) (Ea (o_mul rfl rfl) ?_)))))))))))
 refine Ea (Ef rfl) (Ed (Ec (Eb [2] rfl (Ep (Fc rfl rfl ?_)))))
 rotate_left
 intro h1
 try rw [nnp] at h1
 refine Ee rfl (Ee rfl (Ee rfl (Ee rfl (Ea (Em rfl rfl) (Ed (Ec (Eb [1, 12] rfl (Fi rfl (Eh (En (Ea (Ef rfl) ?_)))))))))))
 refine Ed (Ec (Eb [2] rfl (Ep (Eu (Fc rfl rfl ?_)))))
 rotate_left
 all_goals
  first | exact cost_leaf (by assumption) (by assumption) | simp_all [Conf.cost]
theorem c_37 (x : Conf) : CV prg 37 [.agg x.r] (fun res => res = .w (.int .i64 x.cost)) := by
 refine Fo g37 (Eb [0] rfl (Eh (En (Ea (o_box rfl rfl rfl) (Ea (Ef rfl) (Ed (Ec (Eb [1] rfl (Eh (Eh (En ?_)))))))))))
 refine Ea (Ek rfl) (Ea (Eo rfl rfl rfl) ?_)
 first | refine Ez rfl rfl (c_103 ..) ?_ | refine Ew rfl rfl (by simp) (c_103 ..) rfl ?_
 refine Ea (Fg rfl) (Ea (Ef rfl) ?_)
 first | refine Fq rfl ?_ ?_ | refine Fr rfl ?_ ?_ | refine s_gNF rfl ?_ ?_ | refine Fe rfl ?_ ?_
 intro h1
 try rw [nnp] at h1
 refine Ea (Ek rfl) (Ei rfl (Ea (Eo rfl rfl rfl) (Ei rfl ?_)))
 first | refine Ez rfl rfl (c_103 ..) ?_ | refine Ew rfl rfl (by simp) (c_103 ..) rfl ?_
 refine Ei rfl (Ea (Fg rfl) (Ea (Ej rfl rfl) (Ed (Ec (Eb [1, 12] rfl ?_)))))
 first | refine Ey rfl ?_ ?_ | refine Fp rfl ?_ ?_ | refine Fh rfl ?_ ?_ | refine Ev rfl ?_ ?_
 intro h2
 try rw [nnp] at h2
 refine Eh (En (Ea (Ef rfl) (Ed (Ec (Eb [2] rfl (Ep (Eu (Fc rfl rfl ?_))))))))
 rotate_left
 intro h2
 try rw [nnp] at h2
 refine Fa (Ec (Eb [1] rfl (Eh (En (Ea (Ek rfl) (Ea (Eo rfl rfl rfl) (Ea (o_add rfl rfl) (Ea (Ek rfl) (Ea (Eo rfl rfl rfl) (Ea (o_add rfl rfl) (Ea (o_mul rfl rfl) ?_)))))))))))
 refine Ea (Ef rfl) (Ed (Ec (Eb [2] rfl (Ep (Fc rfl rfl ?_)))))
 rotate_left
 intro h1
 try rw [nnp] at h1
 refine Ee rfl (Ee rfl (Ee rfl (Ee rfl (Ea (Em rfl rfl) (Ed (Ec (Eb [1, 12] rfl (Fi rfl (Eh (En (Ea (Ef rfl) ?_)))))))))))
 refine Ed (Ec (Eb [2] rfl (Ep (Eu (Fc rfl rfl ?_)))))
 rotate_left
 all_goals
  first | exact cost_leaf (by assumption) (by assumption) | simp_all [Conf.cost]
theorem c_214 (x : Conf) : CV prg 214 [.agg x.r] (fun res => res = .w (.int .i64 x.slot)) := by
 have hc := x.cost_bd
 refine Fo g214 (Eb [0] rfl (Eh (En (Ea (o_box rfl rfl rfl) (Ea (Ef rfl) (Ed (Ec (Eb [1] rfl (Eh (Eh (En ?_)))))))))))
 refine Ea (Fm rfl rfl rfl) ?_
 first | refine Ez rfl rfl (c_186 ..) ?_ | refine Ew rfl rfl (by simp) (c_186 ..) rfl ?_
 refine Ea (Fv rfl rfl) (Ea (Ef rfl) ?_)
 first | refine Fq rfl ?_ ?_ | refine Fe rfl ?_ ?_
 intro h1
 try rw [nnp] at h1
 try have h1' := Et h1
 refine Ea (Ek rfl) (Ei rfl (Ea (Eo rfl rfl rfl) (Ei rfl ?_)))
 first | refine Ez rfl rfl (Fy ..) ?_ | refine Ew rfl rfl (by simp) (Fy ..) rfl ?_
 refine Ei rfl (Ea (Fg rfl) (Ea (Ej rfl rfl) (Ed (Ec (Eb [1, 11] rfl ?_)))))
 first | refine Ey rfl ?_ ?_ | refine Fp rfl ?_ ?_ | refine Fh rfl ?_ ?_ | refine Ev rfl ?_ ?_
 intro h2
 try rw [nnp] at h2
 try have h2' := Et h2
 refine Eh (En (Ea (Ef rfl) (Ed (Ec (Eb [2] rfl (Ep (Eu (Fc rfl rfl ?_))))))))
 rotate_left
 intro h2
 try rw [nnp] at h2
 try have h2' := Et h2
 refine Fa (Ec (Eb [1] rfl (Eh (En (Ea (Fm rfl rfl rfl) ?_)))))
 first | refine Ez rfl rfl (c_186 ..) ?_ | refine Ew rfl rfl (by simp) (c_186 ..) rfl ?_
 first | refine Ea (o_muln rfl rfl (by omega)) ?_ | refine Ea (o_mul rfl rfl) ?_
 refine Ea (Ek rfl) (Ea (Eo rfl rfl rfl) ?_)
 first | refine Ea (Fs rfl rfl (by omega)) ?_ | refine Ea (o_add rfl rfl) ?_
 refine Ea (Ef rfl) (Ed (Ec (Eb [2] rfl (Ep (Fc rfl rfl ?_)))))
 rotate_left
 intro h1
 try rw [nnp] at h1
 try have h1' := Et h1
 refine Ee rfl (Ee rfl (Ee rfl (Ee rfl (Ea (Em rfl rfl) (Ed (Ec (Eb [1, 11] rfl (Fi rfl (Eh (En (Ea (Ef rfl) ?_)))))))))))
 refine Ed (Ec (Eb [2] rfl (Ep (Eu (Fc rfl rfl ?_)))))
 rotate_left
 all_goals
  first | (simp_all [Conf.slot]; done) | (simp_all [Conf.slot, inB]; omega)
theorem c_74 (x : Conf) : CV prg 74 [.agg x.r] (fun res => res = .w (.int .i64 x.slot)) := by
 have hc := x.cost_bd
 refine Fo g74 (Eb [0] rfl (Eh (En (Ea (o_box rfl rfl rfl) (Ea (Ef rfl) (Ed (Ec (Eb [1] rfl (Eh (Eh (En ?_)))))))))))
 refine Ea (Fm rfl rfl rfl) ?_
 first | refine Ez rfl rfl (c_37 ..) ?_ | refine Ew rfl rfl (by simp) (c_37 ..) rfl ?_
 refine Ea (Fv rfl rfl) (Ea (Ef rfl) ?_)
 first | refine Fq rfl ?_ ?_ | refine Fe rfl ?_ ?_
 intro h1
 try rw [nnp] at h1
 try have h1' := Et h1
 refine Ea (Ek rfl) (Ei rfl (Ea (Eo rfl rfl rfl) (Ei rfl ?_)))
 first | refine Ez rfl rfl (c_103 ..) ?_ | refine Ew rfl rfl (by simp) (c_103 ..) rfl ?_
 refine Ei rfl (Ea (Fg rfl) (Ea (Ej rfl rfl) (Ed (Ec (Eb [1, 11] rfl ?_)))))
 first | refine Ey rfl ?_ ?_ | refine Fp rfl ?_ ?_ | refine Fh rfl ?_ ?_ | refine Ev rfl ?_ ?_
 intro h2
 try rw [nnp] at h2
 try have h2' := Et h2
 refine Eh (En (Ea (Ef rfl) (Ed (Ec (Eb [2] rfl (Ep (Eu (Fc rfl rfl ?_))))))))
 rotate_left
 intro h2
 try rw [nnp] at h2
 try have h2' := Et h2
 refine Fa (Ec (Eb [1] rfl (Eh (En (Ea (Fm rfl rfl rfl) ?_)))))
 first | refine Ez rfl rfl (c_37 ..) ?_ | refine Ew rfl rfl (by simp) (c_37 ..) rfl ?_
 first | refine Ea (o_muln rfl rfl (by omega)) ?_ | refine Ea (o_mul rfl rfl) ?_
 refine Ea (Ek rfl) (Ea (Eo rfl rfl rfl) ?_)
 first | refine Ea (Fs rfl rfl (by omega)) ?_ | refine Ea (o_add rfl rfl) ?_
 refine Ea (Ef rfl) (Ed (Ec (Eb [2] rfl (Ep (Fc rfl rfl ?_)))))
 rotate_left
 intro h1
 try rw [nnp] at h1
 try have h1' := Et h1
 refine Ee rfl (Ee rfl (Ee rfl (Ee rfl (Ea (Em rfl rfl) (Ed (Ec (Eb [1, 11] rfl (Fi rfl (Eh (En (Ea (Ef rfl) ?_)))))))))))
 refine Ed (Ec (Eb [2] rfl (Ep (Eu (Fc rfl rfl ?_)))))
 rotate_left
 all_goals
  first | (simp_all [Conf.slot]; done) | (simp_all [Conf.slot, inB]; omega)
theorem c_245 (x : Conf) : CV prg 245 [.agg x.r] (fun res => res = .w (.bool (inB x.quantum 1 4 && decide (0 < x.cost) && inB x.maxSplit 1 12 && inB x.lockMost 1 40))) := by
 refine Fo g245 (Eb [0] rfl (Eh (En (Ea (o_box rfl rfl rfl) (Ea (Ef rfl) (Ed (Ec (Eb [1] rfl (Eh (En (Ea (Ek rfl) ?_)))))))))))
 refine Ea (Eo rfl rfl rfl) ?_
 first | refine Ez rfl rfl (Fy ..) ?_ | refine Ew rfl rfl (by simp) (Fy ..) rfl ?_
 refine Ea (Ef rfl) ?_
 first | refine Ff rfl ?_ ?_ | refine Ft rfl ?_ ?_ | refine s_gNT rfl ?_ ?_ | refine Fe rfl ?_ ?_
 intro h1
 try rw [nnp] at h1
 refine Ea (Fm rfl rfl rfl) (Ei rfl ?_)
 first | refine Ez rfl rfl (c_186 ..) ?_ | refine Ew rfl rfl (by simp) (c_186 ..) rfl ?_
 refine Ei rfl (Ea (o_gtr rfl rfl) (Ea (Em rfl rfl) (Ea (Ef rfl) ?_)))
 first | refine Ff rfl ?_ ?_ | refine Fe rfl ?_ ?_
 intro h2
 try rw [nnp] at h2
 refine Ea (Ek rfl) (Ei rfl (Ea (Eo rfl rfl rfl) (Ei rfl ?_)))
 first | refine Ez rfl rfl (Fy ..) ?_ | refine Ew rfl rfl (by simp) (Fy ..) rfl ?_
 refine Ea (Em rfl rfl) (Ea (Ef rfl) (Er (is := [1, 16]) rfl ?_))
 first | refine Ff rfl ?_ ?_ | refine Ft rfl ?_ ?_ | refine s_gNT rfl ?_ ?_ | refine Fe rfl ?_ ?_
 intro h3
 try rw [nnp] at h3
 refine Ea (Ek rfl) (Ei rfl (Ea (Eo rfl rfl rfl) (Ei rfl ?_)))
 first | refine Ez rfl rfl (Fy ..) ?_ | refine Ew rfl rfl (by simp) (Fy ..) rfl ?_
 refine Ea (Em rfl rfl) (Ea (Ef rfl) (Ed (Ec (Eb [2] rfl (Ep (Eg rfl rfl ?_))))))
 rotate_left
 intro h3
 try rw [nnp] at h3
 refine Ee rfl (Ee rfl (Ee rfl (Ea (Ej rfl rfl) (Ea (Ef rfl) (Ed (Ec (Eb [2] rfl (Ep (Eg rfl rfl ?_)))))))))
 rotate_left
 intro h2
 try rw [nnp] at h2
 refine Ee rfl (Ee rfl (Ee rfl (Ea (Ej rfl rfl) (Ea (Ef rfl) (Er (is := [1, 16]) rfl (Ee rfl (Ee rfl (Ee rfl (Ea (Ej rfl rfl) (Ea (Ef rfl) (Ed ?_)))))))))))
 refine Ec (Eb [2] rfl (Ep (Eg rfl rfl ?_)))
 rotate_left
 intro h1
 try rw [nnp] at h1
 refine Ee rfl (Ee rfl (Ee rfl (Ea (Ej rfl rfl) (Ea (Ef rfl) (Ee rfl (Ee rfl (Ee rfl (Ea (Ej rfl rfl) (Ea (Ef rfl) (Er (is := [1, 16]) rfl (Ee rfl ?_)))))))))))
 refine Ee rfl (Ee rfl (Ea (Ej rfl rfl) (Ea (Ef rfl) (Ed (Ec (Eb [2] rfl (Ep (Eg rfl rfl ?_))))))))
 rotate_left
 all_goals
  simp_all <;> omega
theorem prios_step {xs : List MConf} {i : Nat} {y : MConf} (h : xs[i]? = some y) : priosOf (xs.take (i + 1)) = priosOf (xs.take i) + if y.prio then 1 else 0 := by
 rw [take_get h, priosOf, List.countP_append]; simp [priosOf, List.countP_cons]
theorem prios_i (xs : List MConf) (i : Nat) : priosOf (xs.take i) ≤ i := by
 have := priosOf_le (xs.take i); rw [List.length_take] at this; omega
theorem prios_end {xs : List MConf} {i : Nat} (h : ¬ (i : Int) < xs.length) : priosOf (xs.take i) = priosOf xs := by rw [take_end (by omega)]
theorem c_101 (x : Conf) (hl : x.masters.length ≤ 1048576) : CV prg 101 [.agg x.r] (fun res => res = .w (.int .i64 (priosOf x.masters : Int))) := by
 refine Fo g101 (Eb [0] rfl (Eh (En (Ea (o_box rfl rfl rfl) (Ea (Ef rfl) (Ed (Ec (Eb [1] rfl (Eh (En (Ea (Ef rfl) ?_)))))))))))
 refine Ed (Ec (Eb [1, 3] rfl (Eh (Eh (En (Ea (Ek rfl) (Ea (Eo rfl rfl rfl) ?_)))))))
 first | refine Ea (Fk rfl) ?_ | refine Ea (Fu rfl) ?_ | refine Ea (o_lenL rfl rfl rfl) ?_ | refine Ea (o_lenN rfl) ?_
 refine Ea (Ef rfl) (Ed (Ec (Eb [3, 7, 8, 9] rfl (Fj (S_loop0 (ι := Nat) (fun i => i ≤ x.masters.length) (fun i => [(9, .w (.int .i64 (i : Int))), (3, .w (.int .i64 (priosOf (x.masters.take i) : Int)))]) (fun i => x.masters.length - i) 0 (by simp) rfl ⟨rfl, rfl, trivial⟩ (fun _ _ => rfl) rfl ?_)))))
 intro i hi
 have hp := prios_i x.masters i
 refine Eb [3, 7, 8, 9] rfl (Eh (En (Ea (o_lss rfl rfl) (Ed (Ec (Eb [3, 7, 8, 9, 10] rfl (Eh ?_)))))))
 first | refine Ey rfl ?_ ?_ | refine Ev rfl ?_ ?_
 intro h1
 try rw [nnp] at h1
 refine Fa (Ec (Eb [3, 7, 8, 9] rfl (Eh (Fj (Eh (En (s_iaM rfl rfl (by simp at *; omega) ?_)))))))
 intro y2 e2
 try simp only [Int.toNat_natCast, Int.toNat_zero] at e2
 refine Ea (o_ldn rfl rfl) (Ea (o_new rfl rfl) (Fx (o_stnC rfl rfl rfl rfl rfl rfl rfl) (Ed (Ec (Eb [3, 5, 7, 8, 9] rfl (Eh (En (Ea (Ek rfl) (Ea (Eo rfl rfl rfl) (Ed (Ec ?_)))))))))))
 refine Eb [3, 7, 8, 9, 14] rfl ?_
 first | refine Ey rfl ?_ ?_ | refine Fp rfl ?_ ?_ | refine Fh rfl ?_ ?_ | refine Ev rfl ?_ ?_
 intro h3
 try rw [nnp] at h3
 refine En (Ea (Ef rfl) ?_)
 first | refine Ea (Fs rfl rfl (by omega)) ?_ | refine Ea (o_add rfl rfl) ?_
 refine Ea (Ef rfl) (Ed (q_blkN (Ec (Eb [3, 7, 8, 9] rfl (En ?_)))))
 first | refine Ea (Fs rfl rfl (by omega)) ?_ | refine Ea (o_add rfl rfl) ?_
 refine Ea (Ef rfl) (Ed (q_loopN ?_))
 · refine ⟨i + 1, by omega, by omega, hasOf ⟨rfl, ?_, trivial⟩ rfl⟩
   rw [prios_step (by assumption)]; simp_all; rfl
 intro h3
 try rw [nnp] at h3
 refine Fa (q_blkN (Ec (Eb [3, 7, 8, 9] rfl (En ?_))))
 first | refine Ea (Fs rfl rfl (by omega)) ?_ | refine Ea (o_add rfl rfl) ?_
 refine Ea (Ef rfl) (Ed (q_loopN ?_))
 · refine ⟨i + 1, by omega, by omega, hasOf ⟨rfl, ?_, trivial⟩ rfl⟩
   rw [prios_step (by assumption)]; simp_all; rfl
 intro h1
 try rw [nnp] at h1
 refine s_exit (q_seqX (q_loopX (q_blkH (Ec (Eb [3] rfl (Eh (En (Ea (Ef rfl) (Ea (Ef rfl) (Ed (Ec ?_)))))))))))
 refine Eb [2] rfl (Ep (Fc rfl rfl ?_))
 rotate_left
 all_goals
  rw [prios_end (by assumption)]
theorem least_a {x : Conf} (hl : x.masters.length ≤ 1048576) : IntKind.wrap .i64 (IntKind.wrap .i64 (2 * x.slot) * (priosOf x.masters : Int)) = x.least := by
 have h1 := x.slot_bd
 have h2 := priosOf_le x.masters
 rw [wrap_in (2 * x.slot) (by omega)]
 have h3 : 0 ≤ 2 * x.slot * (priosOf x.masters : Int) := Int.mul_nonneg (by omega) (by omega)
 have h4 : 2 * x.slot * (priosOf x.masters : Int) ≤ 260 * 1048576 := Int.mul_le_mul (by omega) (by omega) (by omega) (by omega)
 rw [wrap_in _ (by omega)]; rfl
theorem least_b {x : Conf} (hl : x.masters.length ≤ 1048576) : IntKind.wrap .i64 (IntKind.wrap .i64 (2 * (priosOf x.masters : Int)) * x.slot) = x.least := by
 rw [← least_a hl]
 have h1 := x.slot_bd
 have h2 := priosOf_le x.masters
 rw [wrap_in (2 * x.slot) (by omega), wrap_in (2 * (priosOf x.masters : Int)) (by omega), Int.mul_right_comm]
theorem c_50 (x : Conf) (hl : x.masters.length ≤ 1048576) : CV prg 50 [.agg x.r] (fun res => res = .w (.int .i64 x.least)) := by
 refine Fo g50 (Eb [0] rfl (Eh (En (Ea (o_box rfl rfl rfl) (Ea (Ef rfl) (Ed (Ec (Eb [1] rfl (Eh (En (Ea (Fm rfl rfl rfl) ?_)))))))))))
 first | refine Ez rfl rfl (c_74 ..) ?_ | refine Ew rfl rfl (by simp) (c_74 ..) rfl ?_
 refine Ea (o_mul rfl rfl) (Ea (Fm rfl rfl rfl) ?_)
 first | refine Ez rfl rfl (c_101 _ (by assumption)) ?_ | refine Ew rfl rfl (by simp) (c_101 _ (by assumption)) rfl ?_
 refine Ea (o_mul rfl rfl) (Ea (Ef rfl) (Ed (Ec (Eb [2] rfl (Ep (Fc rfl rfl ?_))))))
 rotate_left
 all_goals
  exact least_a hl
theorem c_35 (m : MConf) (x : Conf) (hl : x.masters.length ≤ 1048576) : CV prg 35 [.agg m.r, .rp x.r 0] (fun res => res = .w (.bool (!MConf.ok x.least m))) := by
 refine Fo g35 (Eb [0, 1] rfl (Eh (En (Ea (o_box rfl rfl rfl) (Ea (Ef rfl) (Ed (Ec (Eb [1, 2] rfl (Eh (Fj (Eh ?_)))))))))))
 refine En (Ea (Ek rfl) (Ea (Eo rfl rfl rfl) ?_))
 first | refine Ez rfl rfl (c_103 ..) ?_ | refine Ew rfl rfl (by simp) (c_103 ..) rfl ?_
 refine Ea (Fg rfl) (Ea (Ef rfl) (Ed (Ec (Eb [1, 2, 4] rfl ?_))))
 first | refine Ey rfl ?_ ?_ | refine Fp rfl ?_ ?_ | refine Fh rfl ?_ ?_ | refine Ev rfl ?_ ?_
 intro h1
 try rw [nnp] at h1
 refine Eh (En (Ea (Ef rfl) (Ed (Ec (Eb [3] rfl (Ep (Fd (Eu (Eg rfl rfl ?_)))))))))
 rotate_left
 intro h1
 try rw [nnp] at h1
 refine Eh (En (Ea (Ek rfl) (Ea (Eo rfl rfl rfl) (Ea (Ef rfl) (Ed (Ec (Eb [1, 2, 9] rfl ?_)))))))
 first | refine Ey rfl ?_ ?_ | refine Fp rfl ?_ ?_ | refine Fh rfl ?_ ?_ | refine Ev rfl ?_ ?_
 intro h2
 try rw [nnp] at h2
 refine Eh (En (Ea (Ek rfl) (Ea (Eo rfl rfl rfl) (Ea (o_ldn rfl rfl) ?_))))
 first | refine Ez rfl rfl (c_50 _ (by assumption)) ?_ | refine Ew rfl rfl (by simp) (c_50 _ (by assumption)) rfl ?_
 first | refine Ez rfl rfl (c_103 ..) ?_ | refine Ew rfl rfl (by simp) (c_103 ..) rfl ?_
 refine Ea (Fg rfl) (Ea (Ef rfl) ?_)
 first | refine Fq rfl ?_ ?_ | refine Fr rfl ?_ ?_ | refine s_gNF rfl ?_ ?_ | refine Fe rfl ?_ ?_
 intro h3
 try rw [nnp] at h3
 refine Ea (Ek rfl) (Ei rfl (Ea (Eo rfl rfl rfl) (Ei rfl ?_)))
 first | refine Ez rfl rfl (c_103 ..) ?_ | refine Ew rfl rfl (by simp) (c_103 ..) rfl ?_
 refine Ei rfl (Ea (Fg rfl) (Ea (Ej rfl rfl) (Ea (Ef rfl) (Ed (Ec (Eb [3] rfl (Ep (Fd (Eu (Eg rfl rfl ?_))))))))))
 rotate_left
 intro h3
 try rw [nnp] at h3
 refine Ee rfl (Ee rfl (Ee rfl (Ee rfl (Ea (Em rfl rfl) (Ea (Ef rfl) (Ed (Ec (Eb [3] rfl (Ep (Fd (Eu ?_)))))))))))
 refine Eg rfl rfl ?_
 rotate_left
 intro h2
 try rw [nnp] at h2
 refine Fa (q_blkN (Ec (Eb [2] rfl (Eh (En (Ea (Ek rfl) (Ea (Eo rfl rfl rfl) (Ea (o_neq rfl rfl) (Ea (Ef rfl) ?_)))))))))
 first | refine Fq rfl ?_ ?_ | refine Fe rfl ?_ ?_
 intro h4
 try rw [nnp] at h4
 refine Ea (Ek rfl) (Ei rfl (Ea (Eo rfl rfl rfl) (Ei rfl (Ea (o_neq rfl rfl) (Ea (Ej rfl rfl) (Ea (Ef rfl) (Ed (Ec (Eb [3] rfl (Ep (Eg rfl rfl ?_)))))))))))
 rotate_left
 intro h4
 try rw [nnp] at h4
 refine Ee rfl (Ee rfl (Ee rfl (Ea (Em rfl rfl) (Ea (Ef rfl) (Ed (Ec (Eb [3] rfl (Ep (Eg rfl rfl ?_)))))))))
 rotate_left
 all_goals
  simp_all [MConf.ok]
theorem c_269 (xs : List MConf) (hl : xs.length ≤ 140737488355328) (f : Nat) (caps : List V) (hc : caps.all (V.fzV 5) = true) (p : MConf → Bool) (h : ∀ y, y ∈ xs → CV prg f (.agg (MConf.r y) :: caps) (fun v => v = .w (.bool (p y)))) : CV prg 269 [.sl 4 (xs.map MConf.r), .fn f caps] (fun res => res = .w (.int .i64 (idxOf p xs))) := by
 refine Fo g269 (Eb [0, 1] rfl (Eh (En (Ea (Ef rfl) (Ed (Ec (Eb [0, 1] rfl (Eh (Eh (En (Ea (Ef rfl) ?_)))))))))))
 first | refine Ea (Fk rfl) ?_ | refine Ea (Fu rfl) ?_
 refine Ea (Ef rfl) (Ed (Ec (Eb [0, 1, 7, 8] rfl (Fj (S_loop0 (ι := Nat) (fun i => i ≤ xs.length ∧ (xs.take i).any p = false) (fun i => [(8, .w (.int .i64 (i : Int)))]) (fun i => xs.length - i) 0 (by simp) rfl ⟨rfl, trivial⟩ (fun _ _ => rfl) rfl ?_)))))
 intro i hi
 refine Eb [0, 1, 7, 8] rfl (Eh (En (Ea (o_lss rfl rfl) (Ed (Ec (Eb [0, 1, 7, 8, 9] rfl (Eh ?_)))))))
 first | refine Ey rfl ?_ ?_ | refine Ev rfl ?_ ?_
 intro h1
 try rw [nnp] at h1
 refine Fa (Ec (Eb [0, 1, 7, 8] rfl (Eh (Fj (Eh (En (Ea (Ef rfl) (Ea (Ef rfl) (Ed (Ec (Eb [0, 1, 5, 7, 8] rfl ?_)))))))))))
 refine Eh (En (Ea (Ef rfl) (Ea (Ef rfl) (Ea (Ef rfl) (s_iaM rfl rfl (by simp at *; omega) ?_)))))
 intro y2 e2
 try simp only [Int.toNat_natCast, Int.toNat_zero] at e2
 refine Ea (o_ldn rfl rfl) (s_calli rfl rfl (fz1 rfl hc) (h _ (List.mem_of_getElem? (by assumption))) (Ed (Ec (Eb [0, 1, 5, 7, 8, 16] rfl ?_))))
 first | refine Ey rfl ?_ ?_ | refine Fp rfl ?_ ?_ | refine Fh rfl ?_ ?_ | refine Ev rfl ?_ ?_
 intro h3
 try rw [nnp] at h3
 refine Eh (En (Ea (Ef rfl) (Ea (Ef rfl) (Ed (Ec (Eb [4] rfl (Ep (Fd (Eu (Fw (Fd ?_)))))))))))
 refine Eu (Fc rfl rfl ?_)
 rotate_left
 intro h3
 try rw [nnp] at h3
 refine Fa (q_blkN (Ec (Eb [0, 1, 7, 8] rfl (En ?_))))
 first | refine Ea (Fs rfl rfl (by omega)) ?_ | refine Ea (o_add rfl rfl) ?_
 refine Ea (Ef rfl) (Ed (q_loopN ?_))
 · exact ⟨i + 1, ⟨by omega, any_take (by assumption) hi.2 (by assumption)⟩, by omega, hasOf ⟨rfl, trivial⟩ rfl⟩
 intro h1
 try rw [nnp] at h1
 refine s_exit (q_seqX (q_loopX (q_blkH (Ec (Eb [] rfl (Eh (En (Ea (Ef rfl) (Ed (Ec (Eb [4] rfl ?_)))))))))))
 refine Ep (Fc rfl rfl ?_)
 rotate_left
 all_goals
  first | exact (idxOf_at (by assumption) hi.2 (by assumption)).symm | exact (idxOf_no (any_end hi.2 (by omega))).symm
theorem c_258 (xs : List MConf) (hl : xs.length ≤ 140737488355328) (f : Nat) (caps : List V) (hc : caps.all (V.fzV 5) = true) (p : MConf → Bool) (h : ∀ y, y ∈ xs → CV prg f (.agg (MConf.r y) :: caps) (fun v => v = .w (.bool (p y)))) : CV prg 258 [.sl 4 (xs.map MConf.r), .fn f caps] (fun res => res = .w (.bool (xs.any p))) := by
 refine Fo g258 (Eb [0, 1] rfl (Eh (En (Ea (Ef rfl) (Ed (Ec (Eb [0, 1] rfl (Eh (En (Ea (Ef rfl) (Ea (Ef rfl) ?_)))))))))))
 refine Ez rfl (fz2 rfl hc) (c_269 _ (by assumption) _ _ hc _ h) (Ea (o_geq rfl rfl) (Ea (Ef rfl) (Ed (Ec (Eb [4] rfl (Ep (Eg rfl rfl ?_)))))))
 rotate_left
 all_goals
  exact idxOf_any p xs
theorem ok_not (l : Int) (xs : List MConf) : (!xs.any (fun m => !MConf.ok l m)) = xs.all (MConf.ok l) := by
 induction xs with
 | nil => rfl
 | cons m xs ih => simp only [List.any_cons, List.all_cons, Bool.not_or, Bool.not_not, ih]
theorem c_34 (x : Conf) (hl : x.masters.length ≤ 1048576) : CV prg 34 [.agg x.r] (fun res => res = .w (.bool x.ok)) := by
 refine Fo g34 (Eb [0] rfl (Eh (En (Ea (o_box rfl rfl rfl) (Ea (Ef rfl) (Ed (Ec (Eb [1] rfl (Eh (Eh (En ?_)))))))))))
 refine Ea (Ek rfl) (Ea (Eo rfl rfl rfl) ?_)
 first | refine Ea (Fk rfl) ?_ | refine Ea (Fu rfl) ?_ | refine Ea (o_lenL rfl rfl rfl) ?_ | refine Ea (o_lenN rfl) ?_
 refine Ez rfl rfl (c_103 ..) (Ea (Fg rfl) (Ea (Ef rfl) ?_))
 first | refine Fq rfl ?_ ?_ | refine Fr rfl ?_ ?_ | refine s_gNF rfl ?_ ?_ | refine Fe rfl ?_ ?_
 intro h1
 try rw [nnp] at h1
 refine Ea (Ek rfl) (Ei rfl (Ea (Eo rfl rfl rfl) (Ei rfl ?_)))
 first | refine Ez rfl rfl (c_103 ..) ?_ | refine Ew rfl rfl (by simp) (c_103 ..) rfl ?_
 refine Ei rfl (Ea (Fg rfl) (Ea (Ej rfl rfl) (Ea (Ef rfl) ?_)))
 first | refine Fq rfl ?_ ?_ | refine Fr rfl ?_ ?_ | refine s_gNF rfl ?_ ?_ | refine Fe rfl ?_ ?_
 intro h2
 try rw [nnp] at h2
 refine Ea (Ek rfl) (Ei rfl (Ea (Eo rfl rfl rfl) (Er (is := [1, 14, 16]) rfl (Ei rfl ?_))))
 first | refine Ez rfl rfl (c_103 ..) ?_ | refine Ew rfl rfl (by simp) (c_103 ..) rfl ?_
 refine Ei rfl (Ea (Fg rfl) (Ea (Ej rfl rfl) (Ea (Ef rfl) ?_)))
 first | refine Fq rfl ?_ ?_ | refine Fr rfl ?_ ?_ | refine s_gNF rfl ?_ ?_ | refine Fe rfl ?_ ?_
 intro h3
 try rw [nnp] at h3
 refine Ea (Fm rfl rfl rfl) (Ei rfl ?_)
 first | refine Ez rfl rfl (c_74 ..) ?_ | refine Ew rfl rfl (by simp) (c_74 ..) rfl ?_
 refine Ei rfl (Ea (Fv rfl rfl) (Ea (Ej rfl rfl) (Ed (Ec (Eb [1, 24] rfl ?_)))))
 first | refine Ey rfl ?_ ?_ | refine Ev rfl ?_ ?_
 intro h4
 try rw [nnp] at h4
 refine Eh (En (Ea (Ef rfl) (Ed (Ec (Eb [2] rfl (Ep (Eu (Eg rfl rfl ?_))))))))
 rotate_left
 intro h4
 try rw [nnp] at h4
 refine Fa (Ec (Eb [1] rfl (Eh (En (Ea (Ek rfl) (Ea (Eo rfl rfl rfl) (Ea (o_fn rfl) (Ew rfl rfl (by simp) (c_258 _ (by omega) _ _ rfl (fun m => !MConf.ok x.least m) (fun y _ => c_35 y x hl)) rfl (Ea (Fg rfl) (Ea (Ef rfl) (Ed ?_)))))))))))
 refine Ec (Eb [2] rfl (Ep (Eg rfl rfl ?_)))
 rotate_left
 intro h3
 try rw [nnp] at h3
 refine Ee rfl (Ee rfl (Ee rfl (Ea (Em rfl rfl) (Ed (Ec (Eb [1, 24] rfl (Fi rfl (Eh (En (Ea (Ef rfl) (Ed ?_)))))))))))
 refine Ec (Eb [2] rfl (Ep (Eu (Eg rfl rfl ?_))))
 rotate_left
 intro h2
 try rw [nnp] at h2
 refine Ee rfl (Ee rfl (Er (is := [1, 14, 16]) rfl (Ee rfl (Ee rfl (Ea (Em rfl rfl) (Ea (Ef rfl) (Ee rfl (Ee rfl (Ee rfl (Ea (Em rfl rfl) (Ed ?_)))))))))))
 refine Ec (Eb [1, 24] rfl (Fi rfl (Eh (En (Ea (Ef rfl) (Ed (Ec (Eb [2] rfl (Ep (Eu (Eg rfl rfl ?_)))))))))))
 rotate_left
 intro h1
 try rw [nnp] at h1
 refine Ee rfl (Ee rfl (Ee rfl (Ee rfl (Ea (Em rfl rfl) (Ea (Ef rfl) (Ee rfl (Ee rfl (Er (is := [1, 14, 16]) rfl (Ee rfl (Ee rfl (Ea (Em rfl rfl) ?_)))))))))))
 refine Ea (Ef rfl) (Ee rfl (Ee rfl (Ee rfl (Ea (Em rfl rfl) (Ed (Ec (Eb [1, 24] rfl (Fi rfl (Eh (En (Ea (Ef rfl) ?_)))))))))))
 refine Ed (Ec (Eb [2] rfl (Ep (Eu (Eg rfl rfl ?_)))))
 rotate_left
 all_goals
  first | (rw [ok_not]; simp_all [Conf.ok]; done) | (simp_all [Conf.ok]; done)
theorem c_184 (x : Conf) (hl : x.masters.length ≤ 1048576) : CV prg 184 [.agg x.r] (fun res => res = .w (.bool x.ok)) := by
 have hL := least_b hl
 refine Fo g184 (Eb [0] rfl (Eh (En (Ea (o_box rfl rfl rfl) (Ea (Ef rfl) (Ed (Ec (Eb [1] rfl (Eh (En (Ea (Ef rfl) ?_)))))))))))
 refine Ed (Ec (Eb [1, 3] rfl (Eh (Eh (En (Ea (Ef rfl) (Ed (Ec (Eb [1, 3, 4] rfl (Fj (S_loop0 (ι := Nat) (fun i => i ≤ x.masters.length) (fun i => [(4, .w (.int .i64 (i : Int))), (3, .w (.int .i64 (priosOf (x.masters.take i) : Int)))]) (fun i => x.masters.length - i) 0 (by simp) rfl ⟨rfl, rfl, trivial⟩ (fun _ _ => rfl) rfl ?_)))))))))))
 intro i hi
 have hp := prios_i x.masters i
 refine Eb [1, 3, 4] rfl (Eh (Eh (En (Ea (Ef rfl) (Ea (Ek rfl) (Ea (Eo rfl rfl rfl) ?_))))))
 first | refine Ea (Fk rfl) ?_ | refine Ea (Fu rfl) ?_ | refine Ea (o_lenL rfl rfl rfl) ?_ | refine Ea (o_lenN rfl) ?_
 refine Ea (o_lss rfl rfl) (Ed (Ec (Eb [1, 3, 4, 11] rfl ?_)))
 first | refine Ey rfl ?_ ?_ | refine Ev rfl ?_ ?_
 intro h1
 try rw [nnp] at h1
 try rw [hL] at h1
 refine Fa (Ec (Eb [1, 3, 4] rfl (Eh (Fj (Eh (En (Ea (Ek rfl) (Ea (Eo rfl rfl rfl) (Ea (Ef rfl) (s_iaM rfl rfl (by simp at *; omega) ?_))))))))))
 intro y2 e2
 try simp only [Int.toNat_natCast, Int.toNat_zero] at e2
 refine Ea (o_fa rfl) (Ea (o_ld rfl rfl) (Ed (Ec (Eb [1, 3, 4, 19] rfl ?_))))
 first | refine Ey rfl ?_ ?_ | refine Fp rfl ?_ ?_ | refine Fh rfl ?_ ?_ | refine Ev rfl ?_ ?_
 intro h3
 try rw [nnp] at h3
 try rw [hL] at h3
 refine En (Ea (Ef rfl) ?_)
 first | refine Ea (Fs rfl rfl (by omega)) ?_ | refine Ea (o_add rfl rfl) ?_
 refine Ea (Ef rfl) (Ed (q_blkN (Ec (Eb [1, 3, 4] rfl (En (Ea (Ef rfl) ?_))))))
 first | refine Ea (Fs rfl rfl (by omega)) ?_ | refine Ea (o_add rfl rfl) ?_
 refine Ea (Ef rfl) (Ed (q_loopN ?_))
 · refine ⟨i + 1, by omega, by omega, hasOf ⟨rfl, ?_, trivial⟩ rfl⟩
   rw [prios_step (by assumption)]; simp_all; rfl
 intro h3
 try rw [nnp] at h3
 try rw [hL] at h3
 refine Fa (q_blkN (Ec (Eb [1, 3, 4] rfl (En (Ea (Ef rfl) ?_)))))
 first | refine Ea (Fs rfl rfl (by omega)) ?_ | refine Ea (o_add rfl rfl) ?_
 refine Ea (Ef rfl) (Ed (q_loopN ?_))
 · refine ⟨i + 1, by omega, by omega, hasOf ⟨rfl, ?_, trivial⟩ rfl⟩
   rw [prios_step (by assumption)]; simp_all; rfl
 intro h1
 try rw [nnp] at h1
 try rw [hL] at h1
 refine s_exit (q_seqX (q_loopX (q_blkH (Ec (Eb [1, 3] rfl (Eh (Eh (En (Ea (Ef rfl) (Ed (Ec ?_)))))))))))
 refine Eb [1, 3, 5] rfl (Fj (s_eqv 3 rfl (congrArg (fun n : Nat => V.w (.int .i64 (n : Int))) (by rw [take_end (by omega)])) (S_loop0 (ι := Nat) (fun i => i ≤ x.masters.length ∧ (x.masters.take i).all (MConf.ok x.least) = true) (fun i => [(5, .w (.int .i64 (i : Int)))]) (fun i => x.masters.length - i) 0 (by simp) rfl ⟨rfl, trivial⟩ (fun _ _ => rfl) rfl ?_)))
 intro i hi
 refine Eb [1, 3, 5] rfl (Eh (Eh (En (Ea (Ef rfl) (Ea (Ek rfl) (Ea (Eo rfl rfl rfl) ?_))))))
 first | refine Ea (Fk rfl) ?_ | refine Ea (Fu rfl) ?_ | refine Ea (o_lenL rfl rfl rfl) ?_ | refine Ea (o_lenN rfl) ?_
 refine Ea (o_lss rfl rfl) (Ed (Ec (Eb [1, 3, 5, 26] rfl ?_)))
 first | refine Ey rfl ?_ ?_ | refine Ev rfl ?_ ?_
 intro h4
 try rw [nnp] at h4
 try rw [hL] at h4
 refine Fa (Ec (Eb [1, 3, 5] rfl (Eh (Fj (Eh (En (Ea (Ek rfl) (Ea (Eo rfl rfl rfl) (Ea (Ef rfl) (s_iaM rfl rfl (by simp at *; omega) ?_))))))))))
 intro y5 e5
 try simp only [Int.toNat_natCast, Int.toNat_zero] at e5
 refine Ea (o_ldn rfl rfl) (Ea (o_new rfl rfl) (Fx (o_stnC rfl rfl rfl rfl rfl rfl rfl) (Ed (Ec (Eb [1, 3, 5, 6] rfl (Eh (En (Ea (Ek rfl) (Ea (Eo rfl rfl rfl) ?_)))))))))
 first | refine Ez rfl rfl (Fy ..) ?_ | refine Ew rfl rfl (by simp) (Fy ..) rfl ?_
 refine Ea (Fg rfl) (Ea (Ef rfl) ?_)
 first | refine Fq rfl ?_ ?_ | refine Fr rfl ?_ ?_ | refine s_gNF rfl ?_ ?_ | refine Fe rfl ?_ ?_
 intro h6
 try rw [nnp] at h6
 try rw [hL] at h6
 refine Ea (Ek rfl) (Ei rfl (Ea (Eo rfl rfl rfl) (Ei rfl (Ea (Fg rfl) (Ei rfl (Ea (Ef rfl) ?_))))))
 first | refine Ff rfl ?_ ?_ | refine Ft rfl ?_ ?_ | refine s_gNT rfl ?_ ?_ | refine Fe rfl ?_ ?_
 intro h7
 try rw [nnp] at h7
 try rw [hL] at h7
 refine Ea (Ek rfl) (Ei rfl (Ea (Eo rfl rfl rfl) (Ei rfl (Ea (o_neq rfl rfl) (Ei rfl (Ea (Ef rfl) ?_))))))
 first | refine Fq rfl ?_ ?_ | refine Fe rfl ?_ ?_
 intro h8
 try rw [nnp] at h8
 try rw [hL] at h8
 refine Ea (Ek rfl) (Er (is := [1, 3, 5, 6, 38, 39, 40, 41, 42, 43, 44, 45, 46, 47]) rfl (Ei rfl (Ea (Eo rfl rfl rfl) (Ei rfl (Ea (o_neq rfl rfl) (Ei rfl (Ea (Ej rfl rfl) (Ei rfl (Ea (Em rfl rfl) (Ea (Ej rfl rfl) (Ea (Ef rfl) ?_)))))))))))
 first | refine Fq rfl ?_ ?_ | refine Fe rfl ?_ ?_
 intro h9
 try rw [nnp] at h9
 try rw [hL] at h9
 refine Ea (Ek rfl) (Ei rfl (Ea (Eo rfl rfl rfl) (Ei rfl (Ea (Ef rfl) ?_))))
 first | refine Ff rfl ?_ ?_ | refine Ft rfl ?_ ?_ | refine s_gNT rfl ?_ ?_ | refine Fe rfl ?_ ?_
 intro h10
 try rw [nnp] at h10
 try rw [hL] at h10
 refine Ea (Ek rfl) (Ei rfl (Ea (Eo rfl rfl rfl) (Ei rfl (Ea (Ef rfl) (Ei rfl (Ea (o_mul rfl rfl) (Ei rfl (Ea (Fm rfl rfl rfl) (Er (is := [1, 3, 5, 6, 39, 40, 41, 42, 43, 44, 45, 46, 47, 48, 49, 50, 51, 53, 54, 55, 56, 57, 58, 59, 60, 61]) rfl (Ei rfl ?_))))))))))
 first | refine Ez rfl rfl (c_214 ..) ?_ | refine Ew rfl rfl (by simp) (c_214 ..) rfl ?_
 refine Ei rfl (Ea (o_mul rfl rfl) (Ei rfl ?_))
 first | refine Ez rfl rfl (Fy ..) ?_ | refine Ew rfl rfl (by simp) (Fy ..) rfl ?_
 refine Ei rfl (Ea (Fg rfl) (Ei rfl (Ea (Ef rfl) ?_)))
 first | refine Fq rfl ?_ ?_ | refine Fr rfl ?_ ?_ | refine s_gNF rfl ?_ ?_ | refine Fe rfl ?_ ?_
 intro h11
 try rw [nnp] at h11
 try rw [hL] at h11
 refine Ea (Ek rfl) (Ei rfl (Ea (Eo rfl rfl rfl) (Ei rfl ?_)))
 first | refine Ez rfl rfl (Fy ..) ?_ | refine Ew rfl rfl (by simp) (Fy ..) rfl ?_
 refine Ei rfl (Ea (Fg rfl) (Ei rfl (Ea (Ej rfl rfl) (Ei rfl (Ea (Em rfl rfl) (Ea (Ej rfl rfl) (Ed (Ec (Eb [1, 3, 5, 39, 40, 41, 42, 43, 44, 45, 46, 47, 48, 49, 50, 51, 54, 55, 56, 57, 58, 59, 60, 61, 62, 63, 64, 65, 66, 67, 68, 69, 70, 71, 72, 73] rfl ?_)))))))))
 first | refine Ey rfl ?_ ?_ | refine Fp rfl ?_ ?_ | refine Fh rfl ?_ ?_ | refine Ev rfl ?_ ?_
 intro h12
 try rw [nnp] at h12
 try rw [hL] at h12
 refine Eh (En (Ea (Ef rfl) (Ed (Ec (Eb [2] rfl (Ep (Fd (Eu (Fw (Fd (Eu ?_)))))))))))
 refine Eg rfl rfl ?_
 rotate_left
 intro h12
 try rw [nnp] at h12
 try rw [hL] at h12
 refine Fa (q_blkN (Ec (Eb [1, 3, 5, 39, 40, 41, 42, 43, 44, 45, 46, 47, 48, 49, 50, 51, 54, 55, 56, 57, 58, 59, 60, 61, 62, 63, 64, 65, 66, 67, 68, 69, 70, 71, 72] rfl (En (Ea (Ef rfl) ?_)))))
 first | refine Ea (Fs rfl rfl (by omega)) ?_ | refine Ea (o_add rfl rfl) ?_
 refine Ea (Ef rfl) (Ed (q_loopN ?_))
 · refine ⟨i + 1, ⟨by omega, all_take (by assumption) hi.2 ?_⟩, by omega, hasOf ⟨rfl, trivial⟩ rfl⟩
   clear hi
   simp_all [MConf.ok]
 intro h11
 try rw [nnp] at h11
 try rw [hL] at h11
 refine Ee rfl (Ee rfl (Ee rfl (Ee rfl (Ei rfl (Ea (Em rfl rfl) (Ei rfl (Ea (Em rfl rfl) (Ea (Ej rfl rfl) (Ed (Ec (Eb [1, 3, 5, 39, 40, 41, 42, 43, 44, 45, 46, 47, 48, 49, 50, 51, 54, 55, 56, 57, 58, 59, 60, 61, 62, 63, 64, 65, 66, 67, 68, 69, 70, 71, 72, 73] rfl ?_)))))))))))
 refine Fi rfl (Eh (En (Ea (Ef rfl) (Ed (Ec (Eb [2] rfl (Ep (Fd (Eu (Fw (Fd ?_)))))))))))
 refine Eu (Eg rfl rfl ?_)
 rotate_left
 intro h10
 try rw [nnp] at h10
 try rw [hL] at h10
 refine Ee rfl (Ee rfl (Ee rfl (Ee rfl (Ee rfl (Er (is := [1, 3, 5, 6, 39, 40, 41, 42, 43, 44, 45, 46, 47, 48, 49, 50, 51, 53, 54, 55, 56, 57, 58, 59, 60, 61]) rfl (Ee rfl (Ee rfl (Ee rfl (Ee rfl (Ee rfl (Fb rfl ?_)))))))))))
 refine Fb rfl (Fb rfl (Fb rfl (Ee rfl (Ei rfl (Ea (Ej rfl rfl) (Ea (Ej rfl rfl) (Ed (Ec (Eb [1, 3, 5, 39, 40, 41, 42, 43, 44, 45, 46, 47, 48, 49, 50, 51, 54, 55, 56, 57, 58, 59, 60, 61, 62, 63, 64, 65, 66, 67, 68, 69, 70, 71, 72, 73] rfl (s_condF rfl (Fa ?_)))))))))))
 refine q_blkN (Ec (Eb [1, 3, 5, 39, 40, 41, 42, 43, 44, 45, 46, 47, 48, 49, 50, 51, 54, 55, 56, 57, 58, 59, 60, 61, 62, 63, 64, 65, 66, 67, 68, 69, 70, 71, 72] rfl (En (Ea (Ef rfl) ?_))))
 first | refine Ea (Fs rfl rfl (by omega)) ?_ | refine Ea (o_add rfl rfl) ?_
 refine Ea (Ef rfl) (Ed (q_loopN ?_))
 · refine ⟨i + 1, ⟨by omega, all_take (by assumption) hi.2 ?_⟩, by omega, hasOf ⟨rfl, trivial⟩ rfl⟩
   clear hi
   simp_all [MConf.ok]
 intro h9
 try rw [nnp] at h9
 try rw [hL] at h9
 refine Ee rfl (Ee rfl (Ee rfl (Fb rfl (Fb rfl (Fb rfl (Fb rfl (Fb rfl (Er (is := [1, 3, 5, 6, 39, 40, 41, 42, 43, 44, 45, 46, 47, 48, 49, 50, 51, 53, 54, 55, 56, 57, 58, 59, 60, 61]) rfl ?_))))))))
 iterate 10 refine Fb rfl ?_
 refine Ee rfl (Ea (Em rfl rfl) (Ed (Ec (Eb [1, 3, 5, 39, 40, 41, 42, 43, 44, 45, 46, 47, 48, 49, 50, 51, 54, 55, 56, 57, 58, 59, 60, 61, 62, 63, 64, 65, 66, 67, 68, 69, 70, 71, 72, 73] rfl (Fi rfl (Eh (En (Ea (Ef rfl) (Ed (Ec (Eb [2] rfl ?_)))))))))))
 refine Ep (Fd (Eu (Fw (Fd (Eu (Eg rfl rfl ?_))))))
 rotate_left
 intro h8
 try rw [nnp] at h8
 try rw [hL] at h8
 refine Ee rfl (Er (is := [1, 3, 5, 6, 38, 39, 40, 41, 42, 43, 44, 45, 46, 47]) rfl (Ee rfl (Ee rfl (Ei rfl (Ea (Em rfl rfl) (Ei rfl (Ea (Em rfl rfl) (Ea (Ej rfl rfl) (Ea (Ef rfl) (Ee rfl (Ee rfl ?_)))))))))))
 refine Ee rfl (Fb rfl (Fb rfl (Fb rfl (Fb rfl (Fb rfl (Er (is := [1, 3, 5, 6, 39, 40, 41, 42, 43, 44, 45, 46, 47, 48, 49, 50, 51, 53, 54, 55, 56, 57, 58, 59, 60, 61]) rfl ?_))))))
 iterate 10 refine Fb rfl ?_
 refine Ee rfl (Ea (Em rfl rfl) (Ed (Ec (Eb [1, 3, 5, 39, 40, 41, 42, 43, 44, 45, 46, 47, 48, 49, 50, 51, 54, 55, 56, 57, 58, 59, 60, 61, 62, 63, 64, 65, 66, 67, 68, 69, 70, 71, 72, 73] rfl (Fi rfl (Eh (En (Ea (Ef rfl) (Ed (Ec (Eb [2] rfl ?_)))))))))))
 refine Ep (Fd (Eu (Fw (Fd (Eu (Eg rfl rfl ?_))))))
 rotate_left
 intro h7
 try rw [nnp] at h7
 try rw [hL] at h7
 refine Ee rfl (Ee rfl (Ee rfl (Ee rfl (Fb rfl (Er (is := [1, 3, 5, 6, 38, 39, 40, 41, 42, 43, 44, 45, 46, 47]) rfl (Fb rfl (Fb rfl (Ee rfl (Ei rfl (Ea (Ej rfl rfl) (Ea (Ej rfl rfl) ?_)))))))))))
 refine Ea (Ef rfl) (Ei rfl (Ea (Ek rfl) (Ei rfl (Ea (Eo rfl rfl rfl) (Ei rfl (Ea (Ef rfl) ?_))))))
 first | refine Ff rfl ?_ ?_ | refine Ft rfl ?_ ?_ | refine s_gNT rfl ?_ ?_ | refine Fe rfl ?_ ?_
 intro h13
 try rw [nnp] at h13
 try rw [hL] at h13
 refine Ea (Ek rfl) (Ei rfl (Ea (Eo rfl rfl rfl) (Ei rfl (Ea (Ef rfl) (Ei rfl (Ea (o_mul rfl rfl) (Ei rfl (Ea (Fm rfl rfl rfl) (Er (is := [1, 3, 5, 6, 39, 40, 41, 42, 43, 44, 45, 46, 47, 48, 49, 50, 51, 53, 54, 55, 56, 57, 58, 59, 60, 61]) rfl (Ei rfl ?_))))))))))
 first | refine Ez rfl rfl (c_214 ..) ?_ | refine Ew rfl rfl (by simp) (c_214 ..) rfl ?_
 refine Ei rfl (Ea (o_mul rfl rfl) (Ei rfl ?_))
 first | refine Ez rfl rfl (Fy ..) ?_ | refine Ew rfl rfl (by simp) (Fy ..) rfl ?_
 refine Ei rfl (Ea (Fg rfl) (Ei rfl (Ea (Ef rfl) ?_)))
 first | refine Fq rfl ?_ ?_ | refine Fr rfl ?_ ?_ | refine s_gNF rfl ?_ ?_ | refine Fe rfl ?_ ?_
 intro h14
 try rw [nnp] at h14
 try rw [hL] at h14
 refine Ea (Ek rfl) (Ei rfl (Ea (Eo rfl rfl rfl) (Ei rfl ?_)))
 first | refine Ez rfl rfl (Fy ..) ?_ | refine Ew rfl rfl (by simp) (Fy ..) rfl ?_
 refine Ei rfl (Ea (Fg rfl) (Ei rfl (Ea (Ej rfl rfl) (Ei rfl (Ea (Em rfl rfl) (Ea (Ej rfl rfl) (Ed (Ec (Eb [1, 3, 5, 39, 40, 41, 42, 43, 44, 45, 46, 47, 48, 49, 50, 51, 54, 55, 56, 57, 58, 59, 60, 61, 62, 63, 64, 65, 66, 67, 68, 69, 70, 71, 72, 73] rfl ?_)))))))))
 first | refine Ey rfl ?_ ?_ | refine Fp rfl ?_ ?_ | refine Fh rfl ?_ ?_ | refine Ev rfl ?_ ?_
 intro h15
 try rw [nnp] at h15
 try rw [hL] at h15
 refine Eh (En (Ea (Ef rfl) (Ed (Ec (Eb [2] rfl (Ep (Fd (Eu (Fw (Fd (Eu ?_)))))))))))
 refine Eg rfl rfl ?_
 rotate_left
 intro h15
 try rw [nnp] at h15
 try rw [hL] at h15
 refine Fa (q_blkN (Ec (Eb [1, 3, 5, 39, 40, 41, 42, 43, 44, 45, 46, 47, 48, 49, 50, 51, 54, 55, 56, 57, 58, 59, 60, 61, 62, 63, 64, 65, 66, 67, 68, 69, 70, 71, 72] rfl (En (Ea (Ef rfl) ?_)))))
 first | refine Ea (Fs rfl rfl (by omega)) ?_ | refine Ea (o_add rfl rfl) ?_
 refine Ea (Ef rfl) (Ed (q_loopN ?_))
 · refine ⟨i + 1, ⟨by omega, all_take (by assumption) hi.2 ?_⟩, by omega, hasOf ⟨rfl, trivial⟩ rfl⟩
   clear hi
   simp_all [MConf.ok]
 intro h14
 try rw [nnp] at h14
 try rw [hL] at h14
 refine Ee rfl (Ee rfl (Ee rfl (Ee rfl (Ei rfl (Ea (Em rfl rfl) (Ei rfl (Ea (Em rfl rfl) (Ea (Ej rfl rfl) (Ed (Ec (Eb [1, 3, 5, 39, 40, 41, 42, 43, 44, 45, 46, 47, 48, 49, 50, 51, 54, 55, 56, 57, 58, 59, 60, 61, 62, 63, 64, 65, 66, 67, 68, 69, 70, 71, 72, 73] rfl ?_)))))))))))
 refine Fi rfl (Eh (En (Ea (Ef rfl) (Ed (Ec (Eb [2] rfl (Ep (Fd (Eu (Fw (Fd ?_)))))))))))
 refine Eu (Eg rfl rfl ?_)
 rotate_left
 intro h13
 try rw [nnp] at h13
 try rw [hL] at h13
 refine Ee rfl (Ee rfl (Ee rfl (Ee rfl (Ee rfl (Er (is := [1, 3, 5, 6, 39, 40, 41, 42, 43, 44, 45, 46, 47, 48, 49, 50, 51, 53, 54, 55, 56, 57, 58, 59, 60, 61]) rfl (Ee rfl (Ee rfl (Ee rfl (Ee rfl (Ee rfl (Fb rfl ?_)))))))))))
 refine Fb rfl (Fb rfl (Fb rfl (Ee rfl (Ei rfl (Ea (Ej rfl rfl) (Ea (Ej rfl rfl) (Ed (Ec (Eb [1, 3, 5, 39, 40, 41, 42, 43, 44, 45, 46, 47, 48, 49, 50, 51, 54, 55, 56, 57, 58, 59, 60, 61, 62, 63, 64, 65, 66, 67, 68, 69, 70, 71, 72, 73] rfl (s_condF rfl (Fa ?_)))))))))))
 refine q_blkN (Ec (Eb [1, 3, 5, 39, 40, 41, 42, 43, 44, 45, 46, 47, 48, 49, 50, 51, 54, 55, 56, 57, 58, 59, 60, 61, 62, 63, 64, 65, 66, 67, 68, 69, 70, 71, 72] rfl (En (Ea (Ef rfl) ?_))))
 first | refine Ea (Fs rfl rfl (by omega)) ?_ | refine Ea (o_add rfl rfl) ?_
 refine Ea (Ef rfl) (Ed (q_loopN ?_))
 · refine ⟨i + 1, ⟨by omega, all_take (by assumption) hi.2 ?_⟩, by omega, hasOf ⟨rfl, trivial⟩ rfl⟩
   clear hi
   simp_all [MConf.ok]
 intro h6
 try rw [nnp] at h6
 try rw [hL] at h6
 refine Ee rfl (Ee rfl (Ee rfl (Ee rfl (Fb rfl (Fb rfl (Fb rfl (Fb rfl (Fb rfl (Er (is := [1, 3, 5, 6, 38, 39, 40, 41, 42, 43, 44, 45, 46, 47]) rfl (Fb rfl (Fb rfl ?_)))))))))))
 refine Fb rfl (Ee rfl (Ea (Em rfl rfl) (Ea (Ef rfl) (Ee rfl (Ee rfl (Ee rfl (Fb rfl (Fb rfl (Fb rfl (Fb rfl (Fb rfl ?_)))))))))))
 refine Er (is := [1, 3, 5, 6, 39, 40, 41, 42, 43, 44, 45, 46, 47, 48, 49, 50, 51, 53, 54, 55, 56, 57, 58, 59, 60, 61]) rfl ?_
 iterate 10 refine Fb rfl ?_
 refine Ee rfl (Ea (Em rfl rfl) (Ed (Ec (Eb [1, 3, 5, 39, 40, 41, 42, 43, 44, 45, 46, 47, 48, 49, 50, 51, 54, 55, 56, 57, 58, 59, 60, 61, 62, 63, 64, 65, 66, 67, 68, 69, 70, 71, 72, 73] rfl (Fi rfl (Eh (En (Ea (Ef rfl) (Ed (Ec (Eb [2] rfl ?_)))))))))))
 refine Ep (Fd (Eu (Fw (Fd (Eu (Eg rfl rfl ?_))))))
 rotate_left
 intro h4
 try rw [nnp] at h4
 try rw [hL] at h4
 refine s_exit (q_seqX (q_loopX (q_blkH (Ec (Eb [1] rfl (Eh (En (Ea (Ek rfl) (Ea (Eo rfl rfl rfl) ?_)))))))))
 first | refine Ea (Fk rfl) ?_ | refine Ea (Fu rfl) ?_ | refine Ea (o_lenL rfl rfl rfl) ?_ | refine Ea (o_lenN rfl) ?_
 refine Ez rfl rfl (Fy ..) (Ea (Ef rfl) ?_)
 first | refine Ff rfl ?_ ?_ | refine Ft rfl ?_ ?_ | refine s_gNT rfl ?_ ?_ | refine Fe rfl ?_ ?_
 intro h16
 try rw [nnp] at h16
 try rw [hL] at h16
 refine Ea (Fm rfl rfl rfl) (Ei rfl ?_)
 first | refine Ez rfl rfl (c_245 ..) ?_ | refine Ew rfl rfl (by simp) (c_245 ..) rfl ?_
 refine Ea (Em rfl rfl) (Ea (Ef rfl) (Ed (Ec (Eb [2] rfl (Ep (Eg rfl rfl ?_))))))
 rotate_left
 intro h16
 try rw [nnp] at h16
 try rw [hL] at h16
 refine Ee rfl (Ee rfl (Ea (Ej rfl rfl) (Ea (Ef rfl) (Ed (Ec (Eb [2] rfl (Ep (Eg rfl rfl ?_))))))))
 rotate_left
 all_goals
  first | (refine ok_no (by assumption) ?_; clear hi; simp_all [MConf.ok]; done) | (rw [ok_is (all_end hi.2 (by omega))]; clear hi; simp_all; done)
def Conf.small (x : Conf) : Prop := x.masters.length ≤ 1048576
def Conf.sz (x : Conf) : Nat := x.masters.length
theorem Conf.small_of {x : Conf} (h : x.sz ≤ 1048576) : x.small := by unfold Conf.small; unfold Conf.sz at h; omega
theorem c_133 (x y : MConf) : CV prg 133 [.agg x.r, .agg y.r] (fun res => res = .w (.bool (decide (x = y)))) := by
 refine Fo g133 (Eb [0, 1] rfl (Eh (En (Ea (o_box rfl rfl rfl) (Ea (o_box rfl rfl rfl) (Ea (Ef rfl) (Ed (Ec (Eb [2, 3] rfl (Eh (Eh ?_)))))))))))
 refine En (Ea (Ek rfl) (Ea (Eo rfl rfl rfl) (Ea (Ek rfl) (Ea (Eo rfl rfl rfl) (Ea (o_neq rfl rfl) (Ed (Ec (Eb [2, 3, 9] rfl ?_))))))))
 first | refine Ey rfl ?_ ?_ | refine Ev rfl ?_ ?_
 intro h1
 try rw [nnp] at h1
 refine Eh (En (Ea (Ef rfl) (Ed (Ec (Eb [4] rfl (Ep (Eu (Eg rfl rfl ?_))))))))
 rotate_left
 intro h1
 try rw [nnp] at h1
 refine Fa (Ec (Eb [2, 3] rfl (Eh (Eh (En (Ea (Ek rfl) (Ea (Eo rfl rfl rfl) (Ea (Ek rfl) (Ea (Eo rfl rfl rfl) (Ea (o_eqb rfl rfl) (Ed ?_)))))))))))
 refine Ec (Eb [2, 3, 14] rfl ?_)
 first | refine Fh rfl ?_ ?_ | refine Ev rfl ?_ ?_
 intro h2
 try rw [nnp] at h2
 refine Eh (En (Ea (Ef rfl) (Ed (Ec (Eb [4] rfl (Ep (Eu (Eg rfl rfl ?_))))))))
 rotate_left
 intro h2
 try rw [nnp] at h2
 refine Fa (Ec (Eb [2, 3] rfl (Eh (Eh (En (Ea (Ek rfl) (Ea (Eo rfl rfl rfl) (Ea (Ek rfl) (Ea (Eo rfl rfl rfl) (Ea (o_neq rfl rfl) (Ed ?_)))))))))))
 refine Ec (Eb [2, 3, 19] rfl ?_)
 first | refine Ey rfl ?_ ?_ | refine Ev rfl ?_ ?_
 intro h3
 try rw [nnp] at h3
 refine Eh (En (Ea (Ef rfl) (Ed (Ec (Eb [4] rfl (Ep (Eu (Eg rfl rfl ?_))))))))
 rotate_left
 intro h3
 try rw [nnp] at h3
 refine Fa (Ec (Eb [2, 3] rfl (Eh (Eh (En (Ea (Ek rfl) (Ea (Eo rfl rfl rfl) (Ea (Ek rfl) (Ea (Eo rfl rfl rfl) (Ea (o_neq rfl rfl) (Ed ?_)))))))))))
 refine Ec (Eb [24] rfl ?_)
 first | refine Ey rfl ?_ ?_ | refine Ev rfl ?_ ?_
 intro h4
 try rw [nnp] at h4
 refine Eh (En (Ea (Ef rfl) (Ed (Ec (Eb [4] rfl (Ep (Eu (Eg rfl rfl ?_))))))))
 rotate_left
 intro h4
 try rw [nnp] at h4
 refine Fa (Ec (Eb [] rfl (Eh (En (Ea (Ef rfl) (Ed (Ec (Eb [4] rfl (Ep (Eg rfl rfl ?_))))))))))
 rotate_left
 all_goals
  cases x; cases y; simp_all
theorem c_134 (xs ys : List MConf) (hl : xs.length ≤ 1048576) : CV prg 134 [.sl 4 (xs.map MConf.r), .sl 4 (ys.map MConf.r)] (fun res => res = .w (.bool (decide (xs = ys)))) := by
 refine Fo g134 (Eb [0, 1] rfl (Eh (En (Ea (Ef rfl) (Ed (Ec (Eb [0, 1] rfl (Eh (Eh (En (Ea (Ef rfl) ?_)))))))))))
 first | refine Ea (Fk rfl) ?_ | refine Ea (Fu rfl) ?_
 refine Ea (Ef rfl) ?_
 first | refine Ea (Fk rfl) ?_ | refine Ea (Fu rfl) ?_
 refine Ea (o_neq rfl rfl) (Ed (Ec (Eb [0, 1, 10] rfl ?_)))
 first | refine Ey rfl ?_ ?_ | refine Ev rfl ?_ ?_
 intro h1
 try rw [nnp] at h1
 refine Eh (En (Ea (Ef rfl) (Ed (Ec (Eb [4] rfl (Ep (Eu (Eg rfl rfl ?_))))))))
 rotate_left
 intro h1
 try rw [nnp] at h1
 refine Fa (Ec (Eb [0, 1] rfl (Eh (Eh (En (Ea (Ef rfl) (Ed (Ec (Eb [0, 1, 5] rfl (Fj (S_loop0 (ι := Nat) (fun i => i ≤ xs.length ∧ xs.take i = ys.take i ∧ xs.length = ys.length) (fun i => [(5, .w (.int .i64 (i : Int)))]) (fun i => xs.length - i) 0 ⟨by simp, by simp, by omega⟩ rfl ⟨rfl, trivial⟩ (fun _ _ => rfl) rfl ?_)))))))))))
 intro i hi
 refine Eb [0, 1, 5] rfl (Eh (Eh (En (Ea (Ef rfl) (Ea (Ef rfl) ?_)))))
 first | refine Ea (Fk rfl) ?_ | refine Ea (Fu rfl) ?_
 refine Ea (o_lss rfl rfl) (Ed (Ec (Eb [0, 1, 5, 14] rfl ?_)))
 first | refine Ey rfl ?_ ?_ | refine Ev rfl ?_ ?_
 intro h2
 try rw [nnp] at h2
 refine Fa (Ec (Eb [0, 1, 5] rfl (Eh (Fj (Eh (En (Ea (Ef rfl) (Ea (Ef rfl) (s_iaM rfl rfl (by omega) ?_)))))))))
 intro y3 e3
 try simp only [Int.toNat_natCast, Int.toNat_zero] at e3
 refine Ea (o_ldn rfl rfl) (Ea (Ef rfl) (Ea (Ef rfl) (s_iaM rfl rfl (by omega) ?_)))
 intro y4 e4
 try simp only [Int.toNat_natCast, Int.toNat_zero] at e4
 refine Ea (o_ldn rfl rfl) ?_
 first | refine Ez rfl rfl (c_133 _ _) ?_ | refine Ew rfl rfl (by simp) (c_133 _ _) rfl ?_
 refine Ea (Fg rfl) (Ed (Ec (Eb [0, 1, 5, 26] rfl ?_)))
 first | refine Ey rfl ?_ ?_ | refine Fp rfl ?_ ?_ | refine Fh rfl ?_ ?_ | refine Ev rfl ?_ ?_
 intro h5
 try rw [nnp] at h5
 refine Eh (En (Ea (Ef rfl) (Ed (Ec (Eb [4] rfl (Ep (Fd (Eu (Fw (Fd (Eu ?_)))))))))))
 refine Eg rfl rfl ?_
 rotate_left
 intro h5
 try rw [nnp] at h5
 refine Fa (q_blkN (Ec (Eb [0, 1, 5] rfl (En (Ea (Ef rfl) ?_)))))
 first | refine Ea (Fs rfl rfl (by omega)) ?_ | refine Ea (o_add rfl rfl) ?_
 refine Ea (Ef rfl) (Ed (q_loopN ?_))
 · refine ⟨i + 1, ⟨by omega, eq_take (by assumption) (by assumption) hi.2.1 ?_, hi.2.2⟩, by omega, hasOf ⟨rfl, trivial⟩ rfl⟩
   assumption
 intro h2
 try rw [nnp] at h2
 refine s_exit (q_seqX (q_loopX (q_blkH (Ec (Eb [] rfl (Eh (En (Ea (Ef rfl) (Ed (Ec (Eb [4] rfl ?_)))))))))))
 refine Ep (Eg rfl rfl ?_)
 rotate_left
 all_goals
  first | exact (decide_eq_false (ne_at (by assumption) (by assumption) (by assumption))).symm | exact (decide_eq_true (eq_end hi.2.1 (by omega) hi.2.2)).symm | exact (decide_eq_false (fun e => by subst e; simp_all)).symm
theorem c_128 (x y : Conf) (hs : x.small) : CV prg 128 [.agg x.r, .agg y.r] (fun res => res = .w (.bool (decide (x = y)))) := by
 refine Fo g128 (Eb [0, 1] rfl (Eh (En (Ea (o_box rfl rfl rfl) (Ea (o_box rfl rfl rfl) (Ea (Ef rfl) (Ed (Ec (Eb [2, 3] rfl (Eh (Eh ?_)))))))))))
 refine En (Ea (Ek rfl) (Ea (Eo rfl rfl rfl) (Ea (Ek rfl) (Ea (Eo rfl rfl rfl) ?_))))
 first | refine Ez rfl rfl (c_134 _ _ hs) ?_ | refine Ew rfl rfl (by simp) (c_134 _ _ hs) rfl ?_
 refine Ea (Fg rfl) (Ed (Ec (Eb [2, 3, 10] rfl ?_)))
 first | refine Ey rfl ?_ ?_ | refine Fp rfl ?_ ?_ | refine Fh rfl ?_ ?_ | refine Ev rfl ?_ ?_
 intro h1
 try rw [nnp] at h1
 refine Eh (En (Ea (Ef rfl) (Ed (Ec (Eb [4] rfl (Ep (Eu (Eg rfl rfl ?_))))))))
 rotate_left
 intro h1
 try rw [nnp] at h1
 refine Fa (Ec (Eb [2, 3] rfl (Eh (Eh (En (Ea (Ek rfl) (Ea (Eo rfl rfl rfl) (Ea (Ek rfl) (Ea (Eo rfl rfl rfl) (Ea (o_neq rfl rfl) (Ed ?_)))))))))))
 refine Ec (Eb [2, 3, 15] rfl ?_)
 first | refine Ey rfl ?_ ?_ | refine Ev rfl ?_ ?_
 intro h2
 try rw [nnp] at h2
 refine Eh (En (Ea (Ef rfl) (Ed (Ec (Eb [4] rfl (Ep (Eu (Eg rfl rfl ?_))))))))
 rotate_left
 intro h2
 try rw [nnp] at h2
 refine Fa (Ec (Eb [2, 3] rfl (Eh (Eh (En (Ea (Ek rfl) (Ea (Eo rfl rfl rfl) (Ea (Ek rfl) (Ea (Eo rfl rfl rfl) (Ea (o_neq rfl rfl) (Ed ?_)))))))))))
 refine Ec (Eb [2, 3, 20] rfl ?_)
 first | refine Ey rfl ?_ ?_ | refine Ev rfl ?_ ?_
 intro h3
 try rw [nnp] at h3
 refine Eh (En (Ea (Ef rfl) (Ed (Ec (Eb [4] rfl (Ep (Eu (Eg rfl rfl ?_))))))))
 rotate_left
 intro h3
 try rw [nnp] at h3
 refine Fa (Ec (Eb [2, 3] rfl (Eh (Eh (En (Ea (Ek rfl) (Ea (Eo rfl rfl rfl) (Ea (Ek rfl) (Ea (Eo rfl rfl rfl) (Ea (o_neq rfl rfl) (Ed ?_)))))))))))
 refine Ec (Eb [2, 3, 25] rfl ?_)
 first | refine Ey rfl ?_ ?_ | refine Ev rfl ?_ ?_
 intro h4
 try rw [nnp] at h4
 refine Eh (En (Ea (Ef rfl) (Ed (Ec (Eb [4] rfl (Ep (Eu (Eg rfl rfl ?_))))))))
 rotate_left
 intro h4
 try rw [nnp] at h4
 refine Fa (Ec (Eb [2, 3] rfl (Eh (Eh (En (Ea (Ek rfl) (Ea (Eo rfl rfl rfl) (Ea (Ek rfl) (Ea (Eo rfl rfl rfl) (Ea (o_neq rfl rfl) (Ed ?_)))))))))))
 refine Ec (Eb [2, 3, 30] rfl ?_)
 first | refine Ey rfl ?_ ?_ | refine Ev rfl ?_ ?_
 intro h5
 try rw [nnp] at h5
 refine Eh (En (Ea (Ef rfl) (Ed (Ec (Eb [4] rfl (Ep (Eu (Eg rfl rfl ?_))))))))
 rotate_left
 intro h5
 try rw [nnp] at h5
 refine Fa (Ec (Eb [2, 3] rfl (Eh (Eh (En (Ea (Ek rfl) (Ea (Eo rfl rfl rfl) (Ea (Ek rfl) (Ea (Eo rfl rfl rfl) (Ea (o_neq rfl rfl) (Ed ?_)))))))))))
 refine Ec (Eb [35] rfl ?_)
 first | refine Ey rfl ?_ ?_ | refine Ev rfl ?_ ?_
 intro h6
 try rw [nnp] at h6
 refine Eh (En (Ea (Ef rfl) (Ed (Ec (Eb [4] rfl (Ep (Eu (Eg rfl rfl ?_))))))))
 rotate_left
 intro h6
 try rw [nnp] at h6
 refine Fa (Ec (Eb [] rfl (Eh (En (Ea (Ef rfl) (Ed (Ec (Eb [4] rfl (Ep (Eg rfl rfl ?_))))))))))
 rotate_left
 all_goals
  cases x; cases y; simp_all
theorem c_164 (x : MConf) : CV prg 164 [.agg x.r] (fun res => res = .agg x.r) := by
 refine Fo g164 (Eb [0] rfl (Eh (En (Ea (o_box rfl rfl rfl) (Ea (o_new rfl rfl) (Ed (Ec (Eb [1, 2] rfl (Eh (En (Ea (o_new rfl rfl) ?_)))))))))))
 refine Ed (Ec (Eb [1, 2, 3] rfl (Eh (En (Ea (Ek rfl) (Ea (Eo rfl rfl rfl) (Ea (Ek rfl) (Fx (o_stC rfl rfl rfl rfl rfl rfl) (Ed (Ec (Eb [1, 2, 3] rfl ?_)))))))))))
 refine Eh (En (Ea (Ek rfl) (Ea (Eo rfl rfl rfl) (Ea (Ek rfl) (Fx (o_stC rfl rfl rfl rfl rfl rfl) (Ed (Ec (Eb [1, 2, 3] rfl (Eh (En (Ea (Ek rfl) ?_)))))))))))
 refine Ea (Eo rfl rfl rfl) (Ea (Ek rfl) (Fx (o_stC rfl rfl rfl rfl rfl rfl) (Ed (Ec (Eb [1, 2, 3] rfl (Eh (En (Ea (Ek rfl) (Ea (Eo rfl rfl rfl) (Ea (Ek rfl) (Fx (o_stC rfl rfl rfl rfl rfl rfl) ?_)))))))))))
 refine Ed (Ec (Eb [2, 3] rfl (Eh (En (Ea (Fm rfl rfl rfl) (Fx (o_stnC rfl rfl rfl rfl rfl rfl rfl) (Ed (Ec (Eb [2] rfl (Ep (ret_leafR rfl rfl ?_)))))))))))
 rotate_left
 all_goals
  rfl
theorem c_165 (xs : List MConf) (hl : xs.length ≤ 1048576) : CV prg 165 [.sl 4 (xs.map MConf.r)] (fun res => res = .sl 4 (xs.map MConf.r)) := by
 refine Fo g165 (Eb [0] rfl (Eh (En (Ea (Ef rfl) (Ed (Ec (Eb [0] rfl (Eh (En (Ea (Ef rfl) ?_))))))))))
 first | refine Ea (Fk rfl) ?_ | refine Ea (Fu rfl) ?_
 refine Ea (o_mk rfl rfl rfl rfl ⟨by omega, by unfold roomy; omega, by unfold roomy; omega⟩ rfl) (Ea (Ef rfl) (Ed (Ec (Eb [0, 3] rfl (Eh (Eh (En (Ea (Ef rfl) (Ed (Ec (Eb [0, 3, 4] rfl ?_)))))))))))
 refine Fj (S_loop (ι := Nat) (fun i => i ≤ xs.length) (fun i => [(4, .w (.int .i64 (i : Int)))]) (fun i => [.arr 4 (tabV MConf.r [.w (.int .i64 0), .w (.bool false), .w (.int .i64 0), .w (.int .i64 0)] xs i)]) (fun i => xs.length - i) 1 0 (by simp) rfl (hasOf ⟨rfl, trivial⟩ (by rw [tabV_zero]; rfl)) rfl (fun _ _ => rfl) (fun _ _ => ⟨rfl, rfl⟩) ?_)
 intro i hi
 refine Eb [0, 3, 4] rfl (Eh (Eh (En (Ea (Ef rfl) (Ea (Ef rfl) ?_)))))
 first | refine Ea (Fk rfl) ?_ | refine Ea (Fu rfl) ?_
 refine Ea (o_lss rfl rfl) (Ed (Ec (Eb [0, 3, 4, 11] rfl ?_)))
 first | refine Ey rfl ?_ ?_ | refine Ev rfl ?_ ?_
 intro h1
 try rw [nnp] at h1
 refine Fa (Ec (Eb [0, 3, 4] rfl (Eh (Fj (En (Ea (Ef rfl) (Ea (Ef rfl) (Ea (Ef rfl) (Ea (Ef rfl) (s_iaM rfl rfl (by first | omega | (rw [List.length_replicate]; omega)) ?_))))))))))
 intro y2 e2
 try simp only [Int.toNat_natCast, Int.toNat_zero] at e2
 refine Ea (o_ldn rfl rfl) ?_
 first | refine Ez rfl rfl (c_164 _) ?_ | refine Ew rfl rfl (by simp) (c_164 _) rfl ?_
 refine Ea (o_iaL rfl rfl (by rw [tabV_len _ _ _ _ (by omega), List.length_replicate]; rfl) rfl (by first | omega | (rw [List.length_replicate]; omega))) (Fx (o_stnA rfl rfl rfl rfl rfl (by rw [tabV_len _ _ _ _ (by omega), List.length_replicate]; rfl) (by rw [Int.toNat_natCast]; exact tabV_at _ _ (by omega)) rfl rfl) (Ed (q_blkN (Ec (Eb [0, 3, 4] rfl (En (Ea (Ef rfl) ?_)))))))
 first | refine Ea (Fs rfl rfl (by omega)) ?_ | refine Ea (o_add rfl rfl) ?_
 refine Ea (Ef rfl) (Ed (q_loopN ?_))
 · refine ⟨i + 1, by omega, by omega, hasOf ⟨rfl, trivial⟩ ?_⟩
   rw [← tabV_set MConf.r [.w (.int .i64 0), .w (.bool false), .w (.int .i64 0), .w (.int .i64 0)] (by assumption)]; rfl
 intro h1
 try rw [nnp] at h1
 refine s_exit (q_seqX (q_loopX (q_blkH (Ec (Eb [3] rfl (Eh (En (Ea (Ef rfl) (Ea (Ef rfl) (Ed (Ec ?_)))))))))))
 refine Eb [2] rfl (Ep (ret_leafA (.inr rfl) rfl rfl (by rw [tabV_len _ _ _ _ (by omega), List.length_replicate]; rfl) ?_))
 rotate_left
 all_goals
  rw [tabV_end _ _ _ (by omega)]
theorem c_159 (x : Conf) (hs : x.small) : CV prg 159 [.agg x.r] (fun res => res = .agg x.r) := by
 refine Fo g159 (Eb [0] rfl (Eh (En (Ea (o_box rfl rfl rfl) (Ea (o_new rfl rfl) (Ed (Ec (Eb [1, 2] rfl (Eh (En (Ea (o_new rfl rfl) ?_)))))))))))
 refine Ed (Ec (Eb [1, 2, 3] rfl (Eh (En (Ea (Ek rfl) (Ea (Eo rfl rfl rfl) ?_))))))
 first | refine Ez rfl rfl (c_165 _ hs) ?_ | refine Ew rfl rfl (by simp) (c_165 _ hs) rfl ?_
 refine Ea (Ek rfl) (Fx (o_stC rfl rfl rfl rfl rfl rfl) (Ed (Ec (Eb [1, 2, 3] rfl (Eh (En (Ea (Ek rfl) (Ea (Eo rfl rfl rfl) (Ea (Ek rfl) (Fx (o_stC rfl rfl rfl rfl rfl rfl) (Ed ?_)))))))))))
 refine Ec (Eb [1, 2, 3] rfl (Eh (En (Ea (Ek rfl) (Ea (Eo rfl rfl rfl) (Ea (Ek rfl) (Fx (o_stC rfl rfl rfl rfl rfl rfl) (Ed (Ec (Eb [1, 2, 3] rfl (Eh ?_)))))))))))
 refine En (Ea (Ek rfl) (Ea (Eo rfl rfl rfl) (Ea (Ek rfl) (Fx (o_stC rfl rfl rfl rfl rfl rfl) (Ed (Ec (Eb [1, 2, 3] rfl (Eh (En (Ea (Ek rfl) (Ea (Eo rfl rfl rfl) ?_)))))))))))
 refine Ea (Ek rfl) (Fx (o_stC rfl rfl rfl rfl rfl rfl) (Ed (Ec (Eb [1, 2, 3] rfl (Eh (En (Ea (Ek rfl) (Ea (Eo rfl rfl rfl) (Ea (Ek rfl) (Fx (o_stC rfl rfl rfl rfl rfl rfl) (Ed ?_)))))))))))
 refine Ec (Eb [2, 3] rfl (Eh (En (Ea (Fm rfl rfl rfl) (Fx (o_stnC rfl rfl rfl rfl rfl rfl rfl) (Ed (Ec (Eb [2] rfl (Ep (ret_leafR rfl rfl ?_))))))))))
 rotate_left
 all_goals
  rfl
theorem c_149 (xs : List MConf) (left : Int) (h : -1 ≤ left ∧ left ≤ 1048576) (hl : xs.length ≤ 140737488355328) : CV prg 149 [.sl 4 (xs.map MConf.r), .w (.int .i64 left)] (fun res => res = .w (.int .i64 (room left xs.length))) := by
 refine Fo g149 (Eb [0, 1] rfl (Eh (En (Ea (Ef rfl) (Ed (Ec (Eb [0, 1] rfl (Eh (En (Ea (Ef rfl) (Ea (Ef rfl) ?_)))))))))))
 first | refine Ea (Fk rfl) ?_ | refine Ea (Fu rfl) ?_
 first | refine Ea (o_subn rfl rfl (by omega)) ?_ | refine Ea (o_sub rfl rfl) ?_
 refine Ea (Ef rfl) (Ed (Ec (Eb [1] rfl (Eh (Eh (En (Ea (Ef rfl) (Ea (o_lss rfl rfl) (Ed (Ec (Eb [1, 10] rfl ?_)))))))))))
 first | refine Ey rfl ?_ ?_ | refine Ev rfl ?_ ?_
 intro h1
 try rw [nnp] at h1
 refine Eh (En (Ea (Ef rfl) (Ed (Ec (Eb [4] rfl (Ep (Eu (Fc rfl rfl ?_))))))))
 rotate_left
 intro h1
 try rw [nnp] at h1
 refine Fa (Ec (Eb [1] rfl (Eh (En (Ea (Ef rfl) (Ea (Ef rfl) (Ed (Ec (Eb [4] rfl (Ep (Fc rfl rfl ?_)))))))))))
 rotate_left
 all_goals
  (try unfold room); omega
theorem c_145 (x : Conf) (left : Int) (h : -1 ≤ left ∧ left ≤ 1048576) (hw : x.wf) : CV prg 145 [.agg x.r, .w (.int .i64 left)] (fun res => res = .w (.int .i64 (room left x.sz))) := by
 refine Fo g145 (Eb [0, 1] rfl (Eh (En (Ea (o_box rfl rfl rfl) (Ea (Ef rfl) (Ed (Ec (Eb [1, 2] rfl (Eh (En (Ea (Ek rfl) ?_)))))))))))
 refine Ea (Eo rfl rfl rfl) (Ea (Ef rfl) ?_)
 first | refine Ez rfl rfl (c_149 _ _ (by (try unfold room at *); omega) hw.1.1) ?_ | refine Ew rfl rfl (by simp) (c_149 _ _ (by (try unfold room at *); omega) hw.1.1) rfl ?_
 refine Ea (Ef rfl) (Ed (Ec (Eb [1] rfl (Eh (Eh (En (Ea (Ef rfl) (Ea (o_lss rfl rfl) (Ed (Ec (Eb [1, 10] rfl ?_)))))))))))
 first | refine Ey rfl ?_ ?_ | refine Ev rfl ?_ ?_
 intro h1
 try rw [nnp] at h1
 refine Eh (En (Ea (Ef rfl) (Ed (Ec (Eb [4] rfl (Ep (Eu (Fc rfl rfl ?_))))))))
 rotate_left
 intro h1
 try rw [nnp] at h1
 refine Fa (Ec (Eb [1] rfl (Eh (En (Ea (Ef rfl) (Ea (Ef rfl) (Ed (Ec (Eb [4] rfl (Ep (Fc rfl rfl ?_)))))))))))
 rotate_left
 all_goals
  unfold Conf.sz; (try unfold room at *); omega
theorem c_91 (x : Conf) (who : Int) (hl : x.masters.length ≤ 1048576) : CV prg 91 [.agg x.r, .w (.int .i64 who)] (fun res => res = .w (.bool (inB who 0 (x.masters.length - 1)))) := by
 refine Fo g91 (Eb [0, 1] rfl (Eh (En (Ea (o_box rfl rfl rfl) (Ea (Ef rfl) (Ed (Ec (Eb [1, 2] rfl (Eh (En (Ea (Ef rfl) ?_)))))))))))
 refine Ea (Ek rfl) (Ea (Eo rfl rfl rfl) ?_)
 first | refine Ea (Fk rfl) ?_ | refine Ea (Fu rfl) ?_ | refine Ea (o_lenL rfl rfl rfl) ?_ | refine Ea (o_lenN rfl) ?_
 first | refine Ea (o_subn rfl rfl (by omega)) ?_ | refine Ea (o_sub rfl rfl) ?_
 refine Ez rfl rfl (c_103 ..) (Ea (Ef rfl) (Ed (Ec (Eb [4] rfl (Ep (Eg rfl rfl ?_))))))
 rotate_left
 all_goals
  rfl
theorem c_77 (x : Conf) (who : Int) (hl : x.masters.length ≤ 1048576) : CV prg 77 [.agg x.r, .w (.int .i64 who)] (fun res => res = .w (.int .i64 (x.turn who))) := by
 refine Fo g77 (Eb [0, 1] rfl (Eh (En (Ea (o_box rfl rfl rfl) (Ea (Ef rfl) (Ed (Ec (Eb [1, 2] rfl (Eh (Eh (En ?_)))))))))))
 refine Ea (Fm rfl rfl rfl) ?_
 first | refine Ez rfl rfl (c_34 _ (by assumption)) ?_ | refine Ew rfl rfl (by simp) (c_34 _ (by assumption)) rfl ?_
 refine Ea (Fg rfl) (Ea (Ef rfl) ?_)
 first | refine Fq rfl ?_ ?_ | refine Fr rfl ?_ ?_ | refine s_gNF rfl ?_ ?_ | refine Fe rfl ?_ ?_
 intro h1
 try rw [nnp] at h1
 try have h1' := Et h1
 refine Ea (Fm rfl rfl rfl) (Ei rfl (Ea (Ef rfl) (Ei rfl ?_)))
 first | refine Ez rfl rfl (c_91 _ _ (by assumption)) ?_ | refine Ew rfl rfl (by simp) (c_91 _ _ (by assumption)) rfl ?_
 refine Ei rfl (Ea (Fg rfl) (Ea (Ej rfl rfl) (Ed (Ec (Eb [1, 2, 13] rfl ?_)))))
 first | refine Ey rfl ?_ ?_ | refine Fp rfl ?_ ?_ | refine Fh rfl ?_ ?_ | refine Ev rfl ?_ ?_
 intro h2
 try rw [nnp] at h2
 try have h2' := Et h2
 refine Eh (En (Ea (Ef rfl) (Ed (Ec (Eb [4] rfl (Ep (Eu (Fc rfl rfl ?_))))))))
 rotate_left
 intro h2
 try rw [nnp] at h2
 try have h2' := Et h2
 refine Fa (Ec (Eb [1, 2] rfl (Eh (En (Ea (Ek rfl) (Ea (Eo rfl rfl rfl) (Ea (Ef rfl) (s_iaM rfl rfl (by omega) ?_))))))))
 intro y3 e3
 try simp only [Int.toNat_natCast, Int.toNat_zero] at e3
 refine Ea (o_fa rfl) (Ea (o_ld rfl rfl) (Ea (Ek rfl) (Ea (Eo rfl rfl rfl) (Ea (o_mul rfl rfl) (Ea (Ef rfl) (Ed (Ec (Eb [4] rfl (Ep (Fc rfl rfl ?_))))))))))
 rotate_left
 intro h1
 try rw [nnp] at h1
 try have h1' := Et h1
 refine Ee rfl (Ee rfl (Ee rfl (Ee rfl (Ea (Em rfl rfl) (Ed (Ec (Eb [1, 2, 13] rfl (Fi rfl (Eh (En (Ea (Ef rfl) ?_)))))))))))
 refine Ed (Ec (Eb [4] rfl (Ep (Eu (Fc rfl rfl ?_)))))
 rotate_left
 all_goals
  simp_all [Conf.turn]
theorem c_215 (x : Conf) (who : Int) (hl : x.masters.length ≤ 1048576) : CV prg 215 [.agg x.r, .w (.int .i64 who)] (fun res => res = .w (.int .i64 (x.turn who))) := by
 refine Fo g215 (Eb [0, 1] rfl (Eh (En (Ea (o_box rfl rfl rfl) (Ea (Ef rfl) (Ed (Ec (Eb [1, 2] rfl (Eh (Eh (En ?_)))))))))))
 refine Ea (Fm rfl rfl rfl) ?_
 first | refine Ez rfl rfl (c_184 _ (by assumption)) ?_ | refine Ew rfl rfl (by simp) (c_184 _ (by assumption)) rfl ?_
 refine Ea (Fg rfl) (Ea (Ef rfl) ?_)
 first | refine Fq rfl ?_ ?_ | refine Fr rfl ?_ ?_ | refine s_gNF rfl ?_ ?_ | refine Fe rfl ?_ ?_
 intro h1
 try rw [nnp] at h1
 try have h1' := Et h1
 refine Ea (Ef rfl) (Ei rfl (Ea (Ek rfl) (Ei rfl (Ea (Eo rfl rfl rfl) (Ei rfl ?_)))))
 first | refine Ea (Fk rfl) ?_ | refine Ea (Fu rfl) ?_ | refine Ea (o_lenL rfl rfl rfl) ?_ | refine Ea (o_lenN rfl) ?_
 refine Ei rfl ?_
 first | refine Ea (o_subn rfl rfl (by omega)) ?_ | refine Ea (o_sub rfl rfl) ?_
 refine Ei rfl (Ez rfl rfl (Fy ..) (Ei rfl (Ea (Fg rfl) (Ea (Ej rfl rfl) (Ed (Ec (Eb [1, 2, 16] rfl ?_)))))))
 first | refine Ey rfl ?_ ?_ | refine Fp rfl ?_ ?_ | refine Fh rfl ?_ ?_ | refine Ev rfl ?_ ?_
 intro h2
 try rw [nnp] at h2
 try have h2' := Et h2
 refine Eh (En (Ea (Ef rfl) (Ed (Ec (Eb [4] rfl (Ep (Eu (Fc rfl rfl ?_))))))))
 rotate_left
 intro h2
 try rw [nnp] at h2
 try have h2' := Et h2
 refine Fa (Ec (Eb [1, 2] rfl (Eh (En (Ea (Ek rfl) (Ea (Eo rfl rfl rfl) (Ea (Ef rfl) (s_iaM rfl rfl (by omega) ?_))))))))
 intro y3 e3
 try simp only [Int.toNat_natCast, Int.toNat_zero] at e3
 refine Ea (o_fa rfl) (Ea (o_ld rfl rfl) (Ea (Ek rfl) (Ea (Eo rfl rfl rfl) (Ea (o_mul rfl rfl) (Ea (Ef rfl) (Ed (Ec (Eb [4] rfl (Ep (Fc rfl rfl ?_))))))))))
 rotate_left
 intro h1
 try rw [nnp] at h1
 try have h1' := Et h1
 iterate 7 refine Ee rfl ?_
 refine Ea (Em rfl rfl) (Ed (Ec (Eb [1, 2, 16] rfl (Fi rfl (Eh (En (Ea (Ef rfl) (Ed (Ec (Eb [4] rfl (Ep ?_)))))))))))
 refine Eu (Fc rfl rfl ?_)
 rotate_left
 all_goals
  simp_all [Conf.turn]
theorem c_82 (w : Wrr) (x : Conf) (hl : x.masters.length ≤ 1048576) : CV prg 82 [.agg w.r, .agg x.r] (fun res => res = .w (.bool (w.ok x))) := by
 refine Fo g82 (Eb [0, 1] rfl (Eh (En (Ea (o_box rfl rfl rfl) (Ea (o_box rfl rfl rfl) (Ea (Ef rfl) (Ed (Ec (Eb [2, 3] rfl (Eh (En ?_)))))))))))
 refine Ea (Fm rfl rfl rfl) ?_
 first | refine Ez rfl rfl (c_34 _ (by assumption)) ?_ | refine Ew rfl rfl (by simp) (c_34 _ (by assumption)) rfl ?_
 refine Ea (Ef rfl) ?_
 first | refine Ff rfl ?_ ?_ | refine Ft rfl ?_ ?_ | refine s_gNT rfl ?_ ?_ | refine Fe rfl ?_ ?_
 intro h1
 try rw [nnp] at h1
 refine Ea (Fm rfl rfl rfl) (Ei rfl (Ea (Ek rfl) (Ei rfl (Ea (Eo rfl rfl rfl) (Ei rfl ?_)))))
 first | refine Ez rfl rfl (c_91 _ _ (by assumption)) ?_ | refine Ew rfl rfl (by simp) (c_91 _ _ (by assumption)) rfl ?_
 refine Ea (Em rfl rfl) (Ea (Ef rfl) ?_)
 first | refine Ff rfl ?_ ?_ | refine Ft rfl ?_ ?_ | refine s_gNT rfl ?_ ?_ | refine Fe rfl ?_ ?_
 intro h2
 try rw [nnp] at h2
 refine Ea (Ek rfl) (Ei rfl (Ea (Eo rfl rfl rfl) (Ei rfl (Ea (Fm rfl rfl rfl) (Ei rfl (Ea (Ek rfl) (Ei rfl (Ea (Eo rfl rfl rfl) (Er (is := [13, 15, 16, 18]) rfl (Ei rfl ?_))))))))))
 first | refine Ez rfl rfl (c_77 _ _ (by assumption)) ?_ | refine Ew rfl rfl (by simp) (c_77 _ _ (by assumption)) rfl ?_
 refine Ei rfl ?_
 first | refine Ez rfl rfl (c_103 ..) ?_ | refine Ew rfl rfl (by simp) (c_103 ..) rfl ?_
 refine Ea (Em rfl rfl) (Ea (Ef rfl) (Ed (Ec (Eb [4] rfl (Ep (Eg rfl rfl ?_))))))
 rotate_left
 intro h2
 try rw [nnp] at h2
 refine Ee rfl (Ee rfl (Ee rfl (Ee rfl (Ee rfl (Er (is := [13, 15, 16, 18]) rfl (Ee rfl (Ee rfl (Ea (Ej rfl rfl) (Ea (Ef rfl) (Ed (Ec ?_)))))))))))
 refine Eb [4] rfl (Ep (Eg rfl rfl ?_))
 rotate_left
 intro h1
 try rw [nnp] at h1
 refine Ee rfl (Ee rfl (Ee rfl (Ee rfl (Ea (Ej rfl rfl) (Ea (Ef rfl) (Ee rfl (Ee rfl (Ee rfl (Ee rfl (Ee rfl (Er (is := [13, 15, 16, 18]) rfl ?_)))))))))))
 refine Ee rfl (Ee rfl (Ea (Ej rfl rfl) (Ea (Ef rfl) (Ed (Ec (Eb [4] rfl (Ep (Eg rfl rfl ?_))))))))
 rotate_left
 all_goals
  simp_all [Wrr.ok]
theorem c_217 (w : Wrr) (x : Conf) (hl : x.masters.length ≤ 1048576) : CV prg 217 [.agg w.r, .agg x.r] (fun res => res = .w (.bool (w.ok x))) := by
 refine Fo g217 (Eb [0, 1] rfl (Eh (En (Ea (o_box rfl rfl rfl) (Ea (o_box rfl rfl rfl) (Ea (Ef rfl) (Ed (Ec (Eb [2, 3] rfl (Eh (En ?_)))))))))))
 refine Ea (Fm rfl rfl rfl) ?_
 first | refine Ez rfl rfl (c_184 _ (by assumption)) ?_ | refine Ew rfl rfl (by simp) (c_184 _ (by assumption)) rfl ?_
 refine Ea (Ef rfl) ?_
 first | refine Ff rfl ?_ ?_ | refine Ft rfl ?_ ?_ | refine s_gNT rfl ?_ ?_ | refine Fe rfl ?_ ?_
 intro h1
 try rw [nnp] at h1
 refine Ea (Ek rfl) (Ei rfl (Ea (Eo rfl rfl rfl) (Ei rfl (Ea (Ek rfl) (Ei rfl (Ea (Eo rfl rfl rfl) (Ei rfl ?_)))))))
 first | refine Ea (Fk rfl) ?_ | refine Ea (Fu rfl) ?_ | refine Ea (o_lenL rfl rfl rfl) ?_ | refine Ea (o_lenN rfl) ?_
 refine Ei rfl ?_
 first | refine Ea (o_subn rfl rfl (by omega)) ?_ | refine Ea (o_sub rfl rfl) ?_
 refine Ei rfl ?_
 first | refine Ez rfl rfl (Fy ..) ?_ | refine Ew rfl rfl (by simp) (Fy ..) rfl ?_
 refine Ea (Em rfl rfl) (Ea (Ef rfl) ?_)
 first | refine Ff rfl ?_ ?_ | refine Ft rfl ?_ ?_ | refine s_gNT rfl ?_ ?_ | refine Fe rfl ?_ ?_
 intro h2
 try rw [nnp] at h2
 refine Ea (Ek rfl) (Ei rfl (Ea (Eo rfl rfl rfl) (Er (is := [2, 3, 16, 18]) rfl (Ei rfl (Ea (Fm rfl rfl rfl) (Ei rfl (Ea (Ek rfl) (Ei rfl (Ea (Eo rfl rfl rfl) (Ei rfl ?_))))))))))
 first | refine Ez rfl rfl (c_215 _ _ (by assumption)) ?_ | refine Ew rfl rfl (by simp) (c_215 _ _ (by assumption)) rfl ?_
 refine Ei rfl ?_
 first | refine Ez rfl rfl (Fy ..) ?_ | refine Ew rfl rfl (by simp) (Fy ..) rfl ?_
 refine Ea (Em rfl rfl) (Ea (Ef rfl) (Ed (Ec (Eb [4] rfl (Ep (Eg rfl rfl ?_))))))
 rotate_left
 intro h2
 try rw [nnp] at h2
 refine Ee rfl (Ee rfl (Er (is := [2, 3, 16, 18]) rfl (Ee rfl (Ee rfl (Ee rfl (Ee rfl (Ee rfl (Ea (Ej rfl rfl) (Ea (Ef rfl) (Ed (Ec ?_)))))))))))
 refine Eb [4] rfl (Ep (Eg rfl rfl ?_))
 rotate_left
 intro h1
 try rw [nnp] at h1
 iterate 7 refine Ee rfl ?_
 refine Ea (Ej rfl rfl) (Ea (Ef rfl) (Ee rfl (Ee rfl (Er (is := [2, 3, 16, 18]) rfl (Ee rfl (Ee rfl (Ee rfl (Ee rfl (Ee rfl (Ea (Ej rfl rfl) (Ea (Ef rfl) ?_)))))))))))
 refine Ed (Ec (Eb [4] rfl (Ep (Eg rfl rfl ?_))))
 rotate_left
 all_goals
  simp_all [Wrr.ok]
theorem c_171 (x : Wrr) : CV prg 171 [.agg x.r] (fun res => res = .agg x.r) := by
 refine Fo g171 (Eb [0] rfl (Eh (En (Ea (o_box rfl rfl rfl) (Ea (o_new rfl rfl) (Ed (Ec (Eb [1, 2] rfl (Eh (En (Ea (o_new rfl rfl) ?_)))))))))))
 refine Ed (Ec (Eb [1, 2, 3] rfl (Eh (En (Ea (Ek rfl) (Ea (Eo rfl rfl rfl) (Ea (Ek rfl) (Fx (o_stC rfl rfl rfl rfl rfl rfl) (Ed (Ec (Eb [1, 2, 3] rfl ?_)))))))))))
 refine Eh (En (Ea (Ek rfl) (Ea (Eo rfl rfl rfl) (Ea (Ek rfl) (Fx (o_stC rfl rfl rfl rfl rfl rfl) (Ed (Ec (Eb [2, 3] rfl (Eh (En (Ea (Fm rfl rfl rfl) ?_)))))))))))
 refine Fx (o_stnC rfl rfl rfl rfl rfl rfl rfl) (Ed (Ec (Eb [2] rfl (Ep (ret_leafR rfl rfl ?_)))))
 rotate_left
 all_goals
  rfl
theorem c_130 (x y : Done) : CV prg 130 [.agg x.r, .agg y.r] (fun res => res = .w (.bool (decide (x = y)))) := by
 refine Fo g130 (Eb [0, 1] rfl (Eh (En (Ea (o_box rfl rfl rfl) (Ea (o_box rfl rfl rfl) (Ea (Ef rfl) (Ed (Ec (Eb [2, 3] rfl (Eh (Eh ?_)))))))))))
 refine En (Ea (Ek rfl) (Ea (Eo rfl rfl rfl) (Ea (Ek rfl) (Ea (Eo rfl rfl rfl) (Ea (o_neq rfl rfl) (Ed (Ec (Eb [2, 3, 9] rfl ?_))))))))
 first | refine Ey rfl ?_ ?_ | refine Ev rfl ?_ ?_
 intro h1
 try rw [nnp] at h1
 refine Eh (En (Ea (Ef rfl) (Ed (Ec (Eb [4] rfl (Ep (Eu (Eg rfl rfl ?_))))))))
 rotate_left
 intro h1
 try rw [nnp] at h1
 refine Fa (Ec (Eb [2, 3] rfl (Eh (Eh (En (Ea (Ek rfl) (Ea (Eo rfl rfl rfl) (Ea (Ek rfl) (Ea (Eo rfl rfl rfl) (Ea (o_neq rfl rfl) (Ed ?_)))))))))))
 refine Ec (Eb [2, 3, 14] rfl ?_)
 first | refine Ey rfl ?_ ?_ | refine Ev rfl ?_ ?_
 intro h2
 try rw [nnp] at h2
 refine Eh (En (Ea (Ef rfl) (Ed (Ec (Eb [4] rfl (Ep (Eu (Eg rfl rfl ?_))))))))
 rotate_left
 intro h2
 try rw [nnp] at h2
 refine Fa (Ec (Eb [2, 3] rfl (Eh (Eh (En (Ea (Ek rfl) (Ea (Eo rfl rfl rfl) (Ea (Ek rfl) (Ea (Eo rfl rfl rfl) (Ea (o_eqb rfl rfl) (Ed ?_)))))))))))
 refine Ec (Eb [2, 3, 19] rfl ?_)
 first | refine Fh rfl ?_ ?_ | refine Ev rfl ?_ ?_
 intro h3
 try rw [nnp] at h3
 refine Eh (En (Ea (Ef rfl) (Ed (Ec (Eb [4] rfl (Ep (Eu (Eg rfl rfl ?_))))))))
 rotate_left
 intro h3
 try rw [nnp] at h3
 refine Fa (Ec (Eb [2, 3] rfl (Eh (Eh (En (Ea (Ek rfl) (Ea (Eo rfl rfl rfl) (Ea (Ek rfl) (Ea (Eo rfl rfl rfl) (Ea (o_neq rfl rfl) (Ed ?_)))))))))))
 refine Ec (Eb [2, 3, 24] rfl ?_)
 first | refine Ey rfl ?_ ?_ | refine Ev rfl ?_ ?_
 intro h4
 try rw [nnp] at h4
 refine Eh (En (Ea (Ef rfl) (Ed (Ec (Eb [4] rfl (Ep (Eu (Eg rfl rfl ?_))))))))
 rotate_left
 intro h4
 try rw [nnp] at h4
 refine Fa (Ec (Eb [2, 3] rfl (Eh (Eh (En (Ea (Ek rfl) (Ea (Eo rfl rfl rfl) (Ea (Ek rfl) (Ea (Eo rfl rfl rfl) (Ea (o_neq rfl rfl) (Ed ?_)))))))))))
 refine Ec (Eb [2, 3, 29] rfl ?_)
 first | refine Ey rfl ?_ ?_ | refine Ev rfl ?_ ?_
 intro h5
 try rw [nnp] at h5
 refine Eh (En (Ea (Ef rfl) (Ed (Ec (Eb [4] rfl (Ep (Eu (Eg rfl rfl ?_))))))))
 rotate_left
 intro h5
 try rw [nnp] at h5
 refine Fa (Ec (Eb [2, 3] rfl (Eh (Eh (En (Ea (Ek rfl) (Ea (Eo rfl rfl rfl) (Ea (Ek rfl) (Ea (Eo rfl rfl rfl) (Ea (o_neq rfl rfl) (Ed ?_)))))))))))
 refine Ec (Eb [2, 3, 34] rfl ?_)
 first | refine Ey rfl ?_ ?_ | refine Ev rfl ?_ ?_
 intro h6
 try rw [nnp] at h6
 refine Eh (En (Ea (Ef rfl) (Ed (Ec (Eb [4] rfl (Ep (Eu (Eg rfl rfl ?_))))))))
 rotate_left
 intro h6
 try rw [nnp] at h6
 refine Fa (Ec (Eb [2, 3] rfl (Eh (Eh (En (Ea (Ek rfl) (Ea (Eo rfl rfl rfl) (Ea (Ek rfl) (Ea (Eo rfl rfl rfl) (Ea (o_neq rfl rfl) (Ed ?_)))))))))))
 refine Ec (Eb [39] rfl ?_)
 first | refine Ey rfl ?_ ?_ | refine Ev rfl ?_ ?_
 intro h7
 try rw [nnp] at h7
 refine Eh (En (Ea (Ef rfl) (Ed (Ec (Eb [4] rfl (Ep (Eu (Eg rfl rfl ?_))))))))
 rotate_left
 intro h7
 try rw [nnp] at h7
 refine Fa (Ec (Eb [] rfl (Eh (En (Ea (Ef rfl) (Ed (Ec (Eb [4] rfl (Ep (Eg rfl rfl ?_))))))))))
 rotate_left
 all_goals
  cases x; cases y; simp_all
theorem c_131 (xs ys : List Done) (hl : xs.length ≤ 1048576) : CV prg 131 [.sl 7 (xs.map Done.r), .sl 7 (ys.map Done.r)] (fun res => res = .w (.bool (decide (xs = ys)))) := by
 refine Fo g131 (Eb [0, 1] rfl (Eh (En (Ea (Ef rfl) (Ed (Ec (Eb [0, 1] rfl (Eh (Eh (En (Ea (Ef rfl) ?_)))))))))))
 first | refine Ea (Fk rfl) ?_ | refine Ea (Fu rfl) ?_
 refine Ea (Ef rfl) ?_
 first | refine Ea (Fk rfl) ?_ | refine Ea (Fu rfl) ?_
 refine Ea (o_neq rfl rfl) (Ed (Ec (Eb [0, 1, 10] rfl ?_)))
 first | refine Ey rfl ?_ ?_ | refine Ev rfl ?_ ?_
 intro h1
 try rw [nnp] at h1
 refine Eh (En (Ea (Ef rfl) (Ed (Ec (Eb [4] rfl (Ep (Eu (Eg rfl rfl ?_))))))))
 rotate_left
 intro h1
 try rw [nnp] at h1
 refine Fa (Ec (Eb [0, 1] rfl (Eh (Eh (En (Ea (Ef rfl) (Ed (Ec (Eb [0, 1, 5] rfl (Fj (S_loop0 (ι := Nat) (fun i => i ≤ xs.length ∧ xs.take i = ys.take i ∧ xs.length = ys.length) (fun i => [(5, .w (.int .i64 (i : Int)))]) (fun i => xs.length - i) 0 ⟨by simp, by simp, by omega⟩ rfl ⟨rfl, trivial⟩ (fun _ _ => rfl) rfl ?_)))))))))))
 intro i hi
 refine Eb [0, 1, 5] rfl (Eh (Eh (En (Ea (Ef rfl) (Ea (Ef rfl) ?_)))))
 first | refine Ea (Fk rfl) ?_ | refine Ea (Fu rfl) ?_
 refine Ea (o_lss rfl rfl) (Ed (Ec (Eb [0, 1, 5, 14] rfl ?_)))
 first | refine Ey rfl ?_ ?_ | refine Ev rfl ?_ ?_
 intro h2
 try rw [nnp] at h2
 refine Fa (Ec (Eb [0, 1, 5] rfl (Eh (Fj (Eh (En (Ea (Ef rfl) (Ea (Ef rfl) (s_iaM rfl rfl (by omega) ?_)))))))))
 intro y3 e3
 try simp only [Int.toNat_natCast, Int.toNat_zero] at e3
 refine Ea (o_ldn rfl rfl) (Ea (Ef rfl) (Ea (Ef rfl) (s_iaM rfl rfl (by omega) ?_)))
 intro y4 e4
 try simp only [Int.toNat_natCast, Int.toNat_zero] at e4
 refine Ea (o_ldn rfl rfl) ?_
 first | refine Ez rfl rfl (c_130 _ _) ?_ | refine Ew rfl rfl (by simp) (c_130 _ _) rfl ?_
 refine Ea (Fg rfl) (Ed (Ec (Eb [0, 1, 5, 26] rfl ?_)))
 first | refine Ey rfl ?_ ?_ | refine Fp rfl ?_ ?_ | refine Fh rfl ?_ ?_ | refine Ev rfl ?_ ?_
 intro h5
 try rw [nnp] at h5
 refine Eh (En (Ea (Ef rfl) (Ed (Ec (Eb [4] rfl (Ep (Fd (Eu (Fw (Fd (Eu ?_)))))))))))
 refine Eg rfl rfl ?_
 rotate_left
 intro h5
 try rw [nnp] at h5
 refine Fa (q_blkN (Ec (Eb [0, 1, 5] rfl (En (Ea (Ef rfl) ?_)))))
 first | refine Ea (Fs rfl rfl (by omega)) ?_ | refine Ea (o_add rfl rfl) ?_
 refine Ea (Ef rfl) (Ed (q_loopN ?_))
 · refine ⟨i + 1, ⟨by omega, eq_take (by assumption) (by assumption) hi.2.1 ?_, hi.2.2⟩, by omega, hasOf ⟨rfl, trivial⟩ rfl⟩
   assumption
 intro h2
 try rw [nnp] at h2
 refine s_exit (q_seqX (q_loopX (q_blkH (Ec (Eb [] rfl (Eh (En (Ea (Ef rfl) (Ed (Ec (Eb [4] rfl ?_)))))))))))
 refine Ep (Eg rfl rfl ?_)
 rotate_left
 all_goals
  first | exact (decide_eq_false (ne_at (by assumption) (by assumption) (by assumption))).symm | exact (decide_eq_true (eq_end hi.2.1 (by omega) hi.2.2)).symm | exact (decide_eq_false (fun e => by subst e; simp_all)).symm
theorem c_161 (x : Done) : CV prg 161 [.agg x.r] (fun res => res = .agg x.r) := by
 refine Fo g161 (Eb [0] rfl (Eh (En (Ea (o_box rfl rfl rfl) (Ea (o_new rfl rfl) (Ed (Ec (Eb [1, 2] rfl (Eh (En (Ea (o_new rfl rfl) ?_)))))))))))
 refine Ed (Ec (Eb [1, 2, 3] rfl (Eh (En (Ea (Ek rfl) (Ea (Eo rfl rfl rfl) (Ea (Ek rfl) (Fx (o_stC rfl rfl rfl rfl rfl rfl) (Ed (Ec (Eb [1, 2, 3] rfl ?_)))))))))))
 refine Eh (En (Ea (Ek rfl) (Ea (Eo rfl rfl rfl) (Ea (Ek rfl) (Fx (o_stC rfl rfl rfl rfl rfl rfl) (Ed (Ec (Eb [1, 2, 3] rfl (Eh (En (Ea (Ek rfl) ?_)))))))))))
 refine Ea (Eo rfl rfl rfl) (Ea (Ek rfl) (Fx (o_stC rfl rfl rfl rfl rfl rfl) (Ed (Ec (Eb [1, 2, 3] rfl (Eh (En (Ea (Ek rfl) (Ea (Eo rfl rfl rfl) (Ea (Ek rfl) (Fx (o_stC rfl rfl rfl rfl rfl rfl) ?_)))))))))))
 refine Ed (Ec (Eb [1, 2, 3] rfl (Eh (En (Ea (Ek rfl) (Ea (Eo rfl rfl rfl) (Ea (Ek rfl) (Fx (o_stC rfl rfl rfl rfl rfl rfl) (Ed (Ec (Eb [1, 2, 3] rfl ?_)))))))))))
 refine Eh (En (Ea (Ek rfl) (Ea (Eo rfl rfl rfl) (Ea (Ek rfl) (Fx (o_stC rfl rfl rfl rfl rfl rfl) (Ed (Ec (Eb [1, 2, 3] rfl (Eh (En (Ea (Ek rfl) ?_)))))))))))
 refine Ea (Eo rfl rfl rfl) (Ea (Ek rfl) (Fx (o_stC rfl rfl rfl rfl rfl rfl) (Ed (Ec (Eb [2, 3] rfl (Eh (En (Ea (Fm rfl rfl rfl) (Fx (o_stnC rfl rfl rfl rfl rfl rfl rfl) (Ed (Ec ?_)))))))))))
 refine Eb [2] rfl (Ep (ret_leafR rfl rfl ?_))
 rotate_left
 all_goals
  rfl
theorem c_162 (xs : List Done) (hl : xs.length ≤ 1048576) : CV prg 162 [.sl 7 (xs.map Done.r)] (fun res => res = .sl 7 (xs.map Done.r)) := by
 refine Fo g162 (Eb [0] rfl (Eh (En (Ea (Ef rfl) (Ed (Ec (Eb [0] rfl (Eh (En (Ea (Ef rfl) ?_))))))))))
 first | refine Ea (Fk rfl) ?_ | refine Ea (Fu rfl) ?_
 refine Ea (o_mk rfl rfl rfl rfl ⟨by omega, by unfold roomy; omega, by unfold roomy; omega⟩ rfl) (Ea (Ef rfl) (Ed (Ec (Eb [0, 3] rfl (Eh (Eh (En (Ea (Ef rfl) (Ed (Ec (Eb [0, 3, 4] rfl ?_)))))))))))
 refine Fj (S_loop (ι := Nat) (fun i => i ≤ xs.length) (fun i => [(4, .w (.int .i64 (i : Int)))]) (fun i => [.arr 7 (tabV Done.r [.w (.int .i64 0), .w (.int .i64 0), .w (.bool false), .w (.int .i64 0), .w (.int .i64 0), .w (.int .i64 0), .w (.int .i64 0)] xs i)]) (fun i => xs.length - i) 1 0 (by simp) rfl (hasOf ⟨rfl, trivial⟩ (by rw [tabV_zero]; rfl)) rfl (fun _ _ => rfl) (fun _ _ => ⟨rfl, rfl⟩) ?_)
 intro i hi
 refine Eb [0, 3, 4] rfl (Eh (Eh (En (Ea (Ef rfl) (Ea (Ef rfl) ?_)))))
 first | refine Ea (Fk rfl) ?_ | refine Ea (Fu rfl) ?_
 refine Ea (o_lss rfl rfl) (Ed (Ec (Eb [0, 3, 4, 11] rfl ?_)))
 first | refine Ey rfl ?_ ?_ | refine Ev rfl ?_ ?_
 intro h1
 try rw [nnp] at h1
 refine Fa (Ec (Eb [0, 3, 4] rfl (Eh (Fj (En (Ea (Ef rfl) (Ea (Ef rfl) (Ea (Ef rfl) (Ea (Ef rfl) (s_iaM rfl rfl (by first | omega | (rw [List.length_replicate]; omega)) ?_))))))))))
 intro y2 e2
 try simp only [Int.toNat_natCast, Int.toNat_zero] at e2
 refine Ea (o_ldn rfl rfl) ?_
 first | refine Ez rfl rfl (c_161 _) ?_ | refine Ew rfl rfl (by simp) (c_161 _) rfl ?_
 refine Ea (o_iaL rfl rfl (by rw [tabV_len _ _ _ _ (by omega), List.length_replicate]; rfl) rfl (by first | omega | (rw [List.length_replicate]; omega))) (Fx (o_stnA rfl rfl rfl rfl rfl (by rw [tabV_len _ _ _ _ (by omega), List.length_replicate]; rfl) (by rw [Int.toNat_natCast]; exact tabV_at _ _ (by omega)) rfl rfl) (Ed (q_blkN (Ec (Eb [0, 3, 4] rfl (En (Ea (Ef rfl) ?_)))))))
 first | refine Ea (Fs rfl rfl (by omega)) ?_ | refine Ea (o_add rfl rfl) ?_
 refine Ea (Ef rfl) (Ed (q_loopN ?_))
 · refine ⟨i + 1, by omega, by omega, hasOf ⟨rfl, trivial⟩ ?_⟩
   rw [← tabV_set Done.r [.w (.int .i64 0), .w (.int .i64 0), .w (.bool false), .w (.int .i64 0), .w (.int .i64 0), .w (.int .i64 0), .w (.int .i64 0)] (by assumption)]; rfl
 intro h1
 try rw [nnp] at h1
 refine s_exit (q_seqX (q_loopX (q_blkH (Ec (Eb [3] rfl (Eh (En (Ea (Ef rfl) (Ea (Ef rfl) (Ed (Ec ?_)))))))))))
 refine Eb [2] rfl (Ep (ret_leafA (.inr rfl) rfl rfl (by rw [tabV_len _ _ _ _ (by omega), List.length_replicate]; rfl) ?_))
 rotate_left
 all_goals
  rw [tabV_end _ _ _ (by omega)]
theorem c_147 (xs : List Done) (left : Int) (h : -1 ≤ left ∧ left ≤ 1048576) (hl : xs.length ≤ 140737488355328) : CV prg 147 [.sl 7 (xs.map Done.r), .w (.int .i64 left)] (fun res => res = .w (.int .i64 (room left xs.length))) := by
 refine Fo g147 (Eb [0, 1] rfl (Eh (En (Ea (Ef rfl) (Ed (Ec (Eb [0, 1] rfl (Eh (En (Ea (Ef rfl) (Ea (Ef rfl) ?_)))))))))))
 first | refine Ea (Fk rfl) ?_ | refine Ea (Fu rfl) ?_
 first | refine Ea (o_subn rfl rfl (by omega)) ?_ | refine Ea (o_sub rfl rfl) ?_
 refine Ea (Ef rfl) (Ed (Ec (Eb [1] rfl (Eh (Eh (En (Ea (Ef rfl) (Ea (o_lss rfl rfl) (Ed (Ec (Eb [1, 10] rfl ?_)))))))))))
 first | refine Ey rfl ?_ ?_ | refine Ev rfl ?_ ?_
 intro h1
 try rw [nnp] at h1
 refine Eh (En (Ea (Ef rfl) (Ed (Ec (Eb [4] rfl (Ep (Eu (Fc rfl rfl ?_))))))))
 rotate_left
 intro h1
 try rw [nnp] at h1
 refine Fa (Ec (Eb [1] rfl (Eh (En (Ea (Ef rfl) (Ea (Ef rfl) (Ed (Ec (Eb [4] rfl (Ep (Fc rfl rfl ?_)))))))))))
 rotate_left
 all_goals
  (try unfold room); omega
def Done.beq (x y : Done) : Bool := ((x.cycle == y.cycle) && ((x.who == y.who) && ((x.write == y.write) && ((x.addr == y.addr) && ((x.size == y.size) && ((x.value == y.value) && ((x.resp == y.resp) && true)))))))
theorem Done.of_beq {x y : Done} (h : Done.beq x y = true) : x = y := by
 cases x; cases y; simp_all [Done.beq]
theorem Done.no_beq {x y : Done} (h : Done.beq x y = false) : x ≠ y := by
 rintro rfl; simp [Done.beq] at h
theorem Done.beq_dec (x y : Done) : Done.beq x y = decide (x = y) := by
 cases h : Done.beq x y
 · exact (decide_eq_false (Done.no_beq h)).symm
 · exact (decide_eq_true (Done.of_beq h)).symm
def folOk (p : Done × Done) : Bool := (p.1.write == p.2.write) && decide (p.1.addr = p.2.addr) && decide (p.1.size = p.2.size) && !(p.1.write && decide (p.1.resp = 0) && decide (p.1.value ≠ p.2.value))
def follows (l w : List Done) : Bool := decide (l.length ≤ w.length) && (l.zip w).all folOk
def Req.small (x : Req) : Prop := x.data.length ≤ 1048576
def Req.sz (x : Req) : Nat := x.data.length
theorem Req.small_of {x : Req} (h : x.sz ≤ 1048576) : x.small := by unfold Req.small; unfold Req.sz at h; omega
def Mst.small (x : Mst) : Prop := x.queue.length ≤ 1048576 ∧ (∀ y, y ∈ x.queue → Req.small y)
def Mst.sz (x : Mst) : Nat := x.queue.length + sumL Req.sz x.queue
theorem Mst.small_of {x : Mst} (h : x.sz ≤ 1048576) : x.small := ⟨by unfold Mst.sz at h; omega, fun y hy => Req.small_of (by have := sumL_mem Req.sz hy; unfold Mst.sz at h; omega)⟩
theorem c_132 (xs ys : List Int) (hl : xs.length ≤ 1048576) : CV prg 132 [.sl 1 (xs.map iR), .sl 1 (ys.map iR)] (fun res => res = .w (.bool (decide (xs = ys)))) := by
 refine Fo g132 (Eb [0, 1] rfl (Eh (En (Ea (Ef rfl) (Ed (Ec (Eb [0, 1] rfl (Eh (Eh (En (Ea (Ef rfl) ?_)))))))))))
 first | refine Ea (Fk rfl) ?_ | refine Ea (Fu rfl) ?_
 refine Ea (Ef rfl) ?_
 first | refine Ea (Fk rfl) ?_ | refine Ea (Fu rfl) ?_
 refine Ea (o_neq rfl rfl) (Ed (Ec (Eb [0, 1, 10] rfl ?_)))
 first | refine Ey rfl ?_ ?_ | refine Ev rfl ?_ ?_
 intro h1
 try rw [nnp] at h1
 refine Eh (En (Ea (Ef rfl) (Ed (Ec (Eb [4] rfl (Ep (Eu (Eg rfl rfl ?_))))))))
 rotate_left
 intro h1
 try rw [nnp] at h1
 refine Fa (Ec (Eb [0, 1] rfl (Eh (Eh (En (Ea (Ef rfl) (Ed (Ec (Eb [0, 1, 5] rfl (Fj (S_loop0 (ι := Nat) (fun i => i ≤ xs.length ∧ xs.take i = ys.take i ∧ xs.length = ys.length) (fun i => [(5, .w (.int .i64 (i : Int)))]) (fun i => xs.length - i) 0 ⟨by simp, by simp, by omega⟩ rfl ⟨rfl, trivial⟩ (fun _ _ => rfl) rfl ?_)))))))))))
 intro i hi
 refine Eb [0, 1, 5] rfl (Eh (Eh (En (Ea (Ef rfl) (Ea (Ef rfl) ?_)))))
 first | refine Ea (Fk rfl) ?_ | refine Ea (Fu rfl) ?_
 refine Ea (o_lss rfl rfl) (Ed (Ec (Eb [0, 1, 5, 14] rfl ?_)))
 first | refine Ey rfl ?_ ?_ | refine Ev rfl ?_ ?_
 intro h2
 try rw [nnp] at h2
 refine Fa (Ec (Eb [0, 1, 5] rfl (Eh (Fj (Eh (En (Ea (Ef rfl) (Ea (Ef rfl) (s_iaM rfl rfl (by omega) ?_)))))))))
 intro y3 e3
 try simp only [Int.toNat_natCast, Int.toNat_zero] at e3
 refine Ea (o_ld rfl rfl) (Ea (Ef rfl) (Ea (Ef rfl) (s_iaM rfl rfl (by omega) ?_)))
 intro y4 e4
 try simp only [Int.toNat_natCast, Int.toNat_zero] at e4
 refine Ea (o_ld rfl rfl) (Ea (o_neq rfl rfl) (Ed (Ec (Eb [0, 1, 5, 25] rfl ?_))))
 first | refine Ey rfl ?_ ?_ | refine Ev rfl ?_ ?_
 intro h5
 try rw [nnp] at h5
 refine Eh (En (Ea (Ef rfl) (Ed (Ec (Eb [4] rfl (Ep (Fd (Eu (Fw (Fd (Eu ?_)))))))))))
 refine Eg rfl rfl ?_
 rotate_left
 intro h5
 try rw [nnp] at h5
 refine Fa (q_blkN (Ec (Eb [0, 1, 5] rfl (En (Ea (Ef rfl) ?_)))))
 first | refine Ea (Fs rfl rfl (by omega)) ?_ | refine Ea (o_add rfl rfl) ?_
 refine Ea (Ef rfl) (Ed (q_loopN ?_))
 · refine ⟨i + 1, ⟨by omega, eq_take (by assumption) (by assumption) hi.2.1 ?_, hi.2.2⟩, by omega, hasOf ⟨rfl, trivial⟩ rfl⟩
   assumption
 intro h2
 try rw [nnp] at h2
 refine s_exit (q_seqX (q_loopX (q_blkH (Ec (Eb [] rfl (Eh (En (Ea (Ef rfl) (Ed (Ec (Eb [4] rfl ?_)))))))))))
 refine Ep (Eg rfl rfl ?_)
 rotate_left
 all_goals
  first | exact (decide_eq_false (ne_at (by assumption) (by assumption) (by assumption))).symm | exact (decide_eq_true (eq_end hi.2.1 (by omega) hi.2.2)).symm | exact (decide_eq_false (fun e => by subst e; simp_all)).symm
theorem c_138 (x y : Req) (hs : x.small) : CV prg 138 [.agg x.r, .agg y.r] (fun res => res = .w (.bool (decide (x = y)))) := by
 refine Fo g138 (Eb [0, 1] rfl (Eh (En (Ea (o_box rfl rfl rfl) (Ea (o_box rfl rfl rfl) (Ea (Ef rfl) (Ed (Ec (Eb [2, 3] rfl (Eh (Eh ?_)))))))))))
 refine En (Ea (Ek rfl) (Ea (Eo rfl rfl rfl) (Ea (Ek rfl) (Ea (Eo rfl rfl rfl) (Ea (o_eqb rfl rfl) (Ed (Ec (Eb [2, 3, 9] rfl ?_))))))))
 first | refine Fh rfl ?_ ?_ | refine Ev rfl ?_ ?_
 intro h1
 try rw [nnp] at h1
 refine Eh (En (Ea (Ef rfl) (Ed (Ec (Eb [4] rfl (Ep (Eu (Eg rfl rfl ?_))))))))
 rotate_left
 intro h1
 try rw [nnp] at h1
 refine Fa (Ec (Eb [2, 3] rfl (Eh (Eh (En (Ea (Ek rfl) (Ea (Eo rfl rfl rfl) (Ea (Ek rfl) (Ea (Eo rfl rfl rfl) (Ea (o_neq rfl rfl) (Ed ?_)))))))))))
 refine Ec (Eb [2, 3, 14] rfl ?_)
 first | refine Ey rfl ?_ ?_ | refine Ev rfl ?_ ?_
 intro h2
 try rw [nnp] at h2
 refine Eh (En (Ea (Ef rfl) (Ed (Ec (Eb [4] rfl (Ep (Eu (Eg rfl rfl ?_))))))))
 rotate_left
 intro h2
 try rw [nnp] at h2
 refine Fa (Ec (Eb [2, 3] rfl (Eh (Eh (En (Ea (Ek rfl) (Ea (Eo rfl rfl rfl) (Ea (Ek rfl) (Ea (Eo rfl rfl rfl) (Ea (o_neq rfl rfl) (Ed ?_)))))))))))
 refine Ec (Eb [2, 3, 19] rfl ?_)
 first | refine Ey rfl ?_ ?_ | refine Ev rfl ?_ ?_
 intro h3
 try rw [nnp] at h3
 refine Eh (En (Ea (Ef rfl) (Ed (Ec (Eb [4] rfl (Ep (Eu (Eg rfl rfl ?_))))))))
 rotate_left
 intro h3
 try rw [nnp] at h3
 refine Fa (Ec (Eb [2, 3] rfl (Eh (Eh (En (Ea (Ek rfl) (Ea (Eo rfl rfl rfl) (Ea (Ek rfl) (Ea (Eo rfl rfl rfl) (Ea (o_neq rfl rfl) (Ed ?_)))))))))))
 refine Ec (Eb [2, 3, 24] rfl ?_)
 first | refine Ey rfl ?_ ?_ | refine Ev rfl ?_ ?_
 intro h4
 try rw [nnp] at h4
 refine Eh (En (Ea (Ef rfl) (Ed (Ec (Eb [4] rfl (Ep (Eu (Eg rfl rfl ?_))))))))
 rotate_left
 intro h4
 try rw [nnp] at h4
 refine Fa (Ec (Eb [2, 3] rfl (Eh (Eh (En (Ea (Ek rfl) (Ea (Eo rfl rfl rfl) (Ea (Ek rfl) (Ea (Eo rfl rfl rfl) (Ea (o_eqb rfl rfl) (Ed ?_)))))))))))
 refine Ec (Eb [2, 3, 29] rfl ?_)
 first | refine Fh rfl ?_ ?_ | refine Ev rfl ?_ ?_
 intro h5
 try rw [nnp] at h5
 refine Eh (En (Ea (Ef rfl) (Ed (Ec (Eb [4] rfl (Ep (Eu (Eg rfl rfl ?_))))))))
 rotate_left
 intro h5
 try rw [nnp] at h5
 refine Fa (Ec (Eb [2, 3] rfl (Eh (Eh (En (Ea (Ek rfl) (Ea (Eo rfl rfl rfl) (Ea (Ek rfl) (Ea (Eo rfl rfl rfl) ?_)))))))))
 first | refine Ez rfl rfl (c_132 _ _ hs) ?_ | refine Ew rfl rfl (by simp) (c_132 _ _ hs) rfl ?_
 refine Ea (Fg rfl) (Ed (Ec (Eb [35] rfl ?_)))
 first | refine Ey rfl ?_ ?_ | refine Fp rfl ?_ ?_ | refine Fh rfl ?_ ?_ | refine Ev rfl ?_ ?_
 intro h6
 try rw [nnp] at h6
 refine Eh (En (Ea (Ef rfl) (Ed (Ec (Eb [4] rfl (Ep (Eu (Eg rfl rfl ?_))))))))
 rotate_left
 intro h6
 try rw [nnp] at h6
 refine Fa (Ec (Eb [] rfl (Eh (En (Ea (Ef rfl) (Ed (Ec (Eb [4] rfl (Ep (Eg rfl rfl ?_))))))))))
 rotate_left
 all_goals
  cases x; cases y; simp_all
theorem c_139 (xs ys : List Req) (hl : xs.length ≤ 1048576) (hx : ∀ y, y ∈ xs → Req.small y) : CV prg 139 [.sl 6 (xs.map Req.r), .sl 6 (ys.map Req.r)] (fun res => res = .w (.bool (decide (xs = ys)))) := by
 refine Fo g139 (Eb [0, 1] rfl (Eh (En (Ea (Ef rfl) (Ed (Ec (Eb [0, 1] rfl (Eh (Eh (En (Ea (Ef rfl) ?_)))))))))))
 first | refine Ea (Fk rfl) ?_ | refine Ea (Fu rfl) ?_
 refine Ea (Ef rfl) ?_
 first | refine Ea (Fk rfl) ?_ | refine Ea (Fu rfl) ?_
 refine Ea (o_neq rfl rfl) (Ed (Ec (Eb [0, 1, 10] rfl ?_)))
 first | refine Ey rfl ?_ ?_ | refine Ev rfl ?_ ?_
 intro h1
 try rw [nnp] at h1
 refine Eh (En (Ea (Ef rfl) (Ed (Ec (Eb [4] rfl (Ep (Eu (Eg rfl rfl ?_))))))))
 rotate_left
 intro h1
 try rw [nnp] at h1
 refine Fa (Ec (Eb [0, 1] rfl (Eh (Eh (En (Ea (Ef rfl) (Ed (Ec (Eb [0, 1, 5] rfl (Fj (S_loop0 (ι := Nat) (fun i => i ≤ xs.length ∧ xs.take i = ys.take i ∧ xs.length = ys.length) (fun i => [(5, .w (.int .i64 (i : Int)))]) (fun i => xs.length - i) 0 ⟨by simp, by simp, by omega⟩ rfl ⟨rfl, trivial⟩ (fun _ _ => rfl) rfl ?_)))))))))))
 intro i hi
 refine Eb [0, 1, 5] rfl (Eh (Eh (En (Ea (Ef rfl) (Ea (Ef rfl) ?_)))))
 first | refine Ea (Fk rfl) ?_ | refine Ea (Fu rfl) ?_
 refine Ea (o_lss rfl rfl) (Ed (Ec (Eb [0, 1, 5, 14] rfl ?_)))
 first | refine Ey rfl ?_ ?_ | refine Ev rfl ?_ ?_
 intro h2
 try rw [nnp] at h2
 refine Fa (Ec (Eb [0, 1, 5] rfl (Eh (Fj (Eh (En (Ea (Ef rfl) (Ea (Ef rfl) (s_iaM rfl rfl (by omega) ?_)))))))))
 intro y3 e3
 try simp only [Int.toNat_natCast, Int.toNat_zero] at e3
 refine Ea (o_ldn rfl rfl) (Ea (Ef rfl) (Ea (Ef rfl) (s_iaM rfl rfl (by omega) ?_)))
 intro y4 e4
 try simp only [Int.toNat_natCast, Int.toNat_zero] at e4
 refine Ea (o_ldn rfl rfl) ?_
 first | refine Ez rfl rfl (c_138 _ _ (hx _ (List.mem_of_getElem? (by assumption)))) ?_ | refine Ew rfl rfl (by simp) (c_138 _ _ (hx _ (List.mem_of_getElem? (by assumption)))) rfl ?_
 refine Ea (Fg rfl) (Ed (Ec (Eb [0, 1, 5, 26] rfl ?_)))
 first | refine Ey rfl ?_ ?_ | refine Fp rfl ?_ ?_ | refine Fh rfl ?_ ?_ | refine Ev rfl ?_ ?_
 intro h5
 try rw [nnp] at h5
 refine Eh (En (Ea (Ef rfl) (Ed (Ec (Eb [4] rfl (Ep (Fd (Eu (Fw (Fd (Eu ?_)))))))))))
 refine Eg rfl rfl ?_
 rotate_left
 intro h5
 try rw [nnp] at h5
 refine Fa (q_blkN (Ec (Eb [0, 1, 5] rfl (En (Ea (Ef rfl) ?_)))))
 first | refine Ea (Fs rfl rfl (by omega)) ?_ | refine Ea (o_add rfl rfl) ?_
 refine Ea (Ef rfl) (Ed (q_loopN ?_))
 · refine ⟨i + 1, ⟨by omega, eq_take (by assumption) (by assumption) hi.2.1 ?_, hi.2.2⟩, by omega, hasOf ⟨rfl, trivial⟩ rfl⟩
   assumption
 intro h2
 try rw [nnp] at h2
 refine s_exit (q_seqX (q_loopX (q_blkH (Ec (Eb [] rfl (Eh (En (Ea (Ef rfl) (Ed (Ec (Eb [4] rfl ?_)))))))))))
 refine Ep (Eg rfl rfl ?_)
 rotate_left
 all_goals
  first | exact (decide_eq_false (ne_at (by assumption) (by assumption) (by assumption))).symm | exact (decide_eq_true (eq_end hi.2.1 (by omega) hi.2.2)).symm | exact (decide_eq_false (fun e => by subst e; simp_all)).symm
theorem c_163 (xs : List Int) (hl : xs.length ≤ 1048576) : CV prg 163 [.sl 1 (xs.map iR)] (fun res => res = .sl 1 (xs.map iR)) := by
 refine Fo g163 (Eb [0] rfl (Eh (En (Ea (Ef rfl) (Ed (Ec (Eb [0] rfl (Eh (En (Ea (Ef rfl) ?_))))))))))
 first | refine Ea (Fk rfl) ?_ | refine Ea (Fu rfl) ?_
 refine Ea (o_mk rfl rfl rfl rfl ⟨by omega, by unfold roomy; omega, by unfold roomy; omega⟩ rfl) (Ea (Ef rfl) (Ed (Ec (Eb [0, 3] rfl (Eh (Eh (En (Ea (Ef rfl) (Ed (Ec (Eb [0, 3, 4] rfl ?_)))))))))))
 refine Fj (S_loop (ι := Nat) (fun i => i ≤ xs.length) (fun i => [(4, .w (.int .i64 (i : Int)))]) (fun i => [.arr 1 (tabV iR [.w (.int .i64 0)] xs i)]) (fun i => xs.length - i) 1 0 (by simp) rfl (hasOf ⟨rfl, trivial⟩ (by rw [tabV_zero]; rfl)) rfl (fun _ _ => rfl) (fun _ _ => ⟨rfl, rfl⟩) ?_)
 intro i hi
 refine Eb [0, 3, 4] rfl (Eh (Eh (En (Ea (Ef rfl) (Ea (Ef rfl) ?_)))))
 first | refine Ea (Fk rfl) ?_ | refine Ea (Fu rfl) ?_
 refine Ea (o_lss rfl rfl) (Ed (Ec (Eb [0, 3, 4, 11] rfl ?_)))
 first | refine Ey rfl ?_ ?_ | refine Ev rfl ?_ ?_
 intro h1
 try rw [nnp] at h1
 refine Fa (Ec (Eb [0, 3, 4] rfl (Eh (Fj (En (Ea (Ef rfl) (Ea (Ef rfl) (Ea (Ef rfl) (Ea (Ef rfl) (s_iaM rfl rfl (by first | omega | (rw [List.length_replicate]; omega)) ?_))))))))))
 intro y2 e2
 try simp only [Int.toNat_natCast, Int.toNat_zero] at e2
 refine Ea (o_ld rfl rfl) (Ea (o_iaL rfl rfl (by rw [tabV_len _ _ _ _ (by omega), List.length_replicate]; rfl) rfl (by first | omega | (rw [List.length_replicate]; omega))) (Fx (o_stA rfl rfl rfl rfl (by rw [tabV_len _ _ _ _ (by omega), List.length_replicate]; rfl) (by rw [Int.toNat_natCast]; exact tabV_at _ _ (by omega)) rfl rfl) (Ed (q_blkN (Ec (Eb [0, 3, 4] rfl (En (Ea (Ef rfl) ?_))))))))
 first | refine Ea (Fs rfl rfl (by omega)) ?_ | refine Ea (o_add rfl rfl) ?_
 refine Ea (Ef rfl) (Ed (q_loopN ?_))
 · refine ⟨i + 1, by omega, by omega, hasOf ⟨rfl, trivial⟩ ?_⟩
   rw [← tabV_set iR [.w (.int .i64 0)] (by assumption)]; rfl
 intro h1
 try rw [nnp] at h1
 refine s_exit (q_seqX (q_loopX (q_blkH (Ec (Eb [3] rfl (Eh (En (Ea (Ef rfl) (Ea (Ef rfl) (Ed (Ec ?_)))))))))))
 refine Eb [2] rfl (Ep (ret_leafA (.inr rfl) rfl rfl (by rw [tabV_len _ _ _ _ (by omega), List.length_replicate]; rfl) ?_))
 rotate_left
 all_goals
  rw [tabV_end _ _ _ (by omega)]
theorem c_169 (x : Req) (hs : x.small) : CV prg 169 [.agg x.r] (fun res => res = .agg x.r) := by
 refine Fo g169 (Eb [0] rfl (Eh (En (Ea (o_box rfl rfl rfl) (Ea (o_new rfl rfl) (Ed (Ec (Eb [1, 2] rfl (Eh (En (Ea (o_new rfl rfl) ?_)))))))))))
 refine Ed (Ec (Eb [1, 2, 3] rfl (Eh (En (Ea (Ek rfl) (Ea (Eo rfl rfl rfl) (Ea (Ek rfl) (Fx (o_stC rfl rfl rfl rfl rfl rfl) (Ed (Ec (Eb [1, 2, 3] rfl ?_)))))))))))
 refine Eh (En (Ea (Ek rfl) (Ea (Eo rfl rfl rfl) (Ea (Ek rfl) (Fx (o_stC rfl rfl rfl rfl rfl rfl) (Ed (Ec (Eb [1, 2, 3] rfl (Eh (En (Ea (Ek rfl) ?_)))))))))))
 refine Ea (Eo rfl rfl rfl) (Ea (Ek rfl) (Fx (o_stC rfl rfl rfl rfl rfl rfl) (Ed (Ec (Eb [1, 2, 3] rfl (Eh (En (Ea (Ek rfl) (Ea (Eo rfl rfl rfl) (Ea (Ek rfl) (Fx (o_stC rfl rfl rfl rfl rfl rfl) ?_)))))))))))
 refine Ed (Ec (Eb [1, 2, 3] rfl (Eh (En (Ea (Ek rfl) (Ea (Eo rfl rfl rfl) (Ea (Ek rfl) (Fx (o_stC rfl rfl rfl rfl rfl rfl) (Ed (Ec (Eb [1, 2, 3] rfl ?_)))))))))))
 refine Eh (En (Ea (Ek rfl) (Ea (Eo rfl rfl rfl) ?_)))
 first | refine Ez rfl rfl (c_163 _ hs) ?_ | refine Ew rfl rfl (by simp) (c_163 _ hs) rfl ?_
 refine Ea (Ek rfl) (Fx (o_stC rfl rfl rfl rfl rfl rfl) (Ed (Ec (Eb [2, 3] rfl (Eh (En (Ea (Fm rfl rfl rfl) (Fx (o_stnC rfl rfl rfl rfl rfl rfl rfl) (Ed (Ec (Eb [2] rfl ?_)))))))))))
 refine Ep (ret_leafR rfl rfl ?_)
 rotate_left
 all_goals
  rfl
theorem c_170 (xs : List Req) (hl : xs.length ≤ 1048576) (hx : ∀ y, y ∈ xs → Req.small y) : CV prg 170 [.sl 6 (xs.map Req.r)] (fun res => res = .sl 6 (xs.map Req.r)) := by
 refine Fo g170 (Eb [0] rfl (Eh (En (Ea (Ef rfl) (Ed (Ec (Eb [0] rfl (Eh (En (Ea (Ef rfl) ?_))))))))))
 first | refine Ea (Fk rfl) ?_ | refine Ea (Fu rfl) ?_
 refine Ea (o_mk rfl rfl rfl rfl ⟨by omega, by unfold roomy; omega, by unfold roomy; omega⟩ rfl) (Ea (Ef rfl) (Ed (Ec (Eb [0, 3] rfl (Eh (Eh (En (Ea (Ef rfl) (Ed (Ec (Eb [0, 3, 4] rfl ?_)))))))))))
 refine Fj (S_loop (ι := Nat) (fun i => i ≤ xs.length) (fun i => [(4, .w (.int .i64 (i : Int)))]) (fun i => [.arr 6 (tabV Req.r [.w (.bool false), .w (.int .i64 0), .w (.int .i64 0), .w (.int .i64 0), .w (.bool false), .w (.slice none 0 0)] xs i)]) (fun i => xs.length - i) 1 0 (by simp) rfl (hasOf ⟨rfl, trivial⟩ (by rw [tabV_zero]; rfl)) rfl (fun _ _ => rfl) (fun _ _ => ⟨rfl, rfl⟩) ?_)
 intro i hi
 refine Eb [0, 3, 4] rfl (Eh (Eh (En (Ea (Ef rfl) (Ea (Ef rfl) ?_)))))
 first | refine Ea (Fk rfl) ?_ | refine Ea (Fu rfl) ?_
 refine Ea (o_lss rfl rfl) (Ed (Ec (Eb [0, 3, 4, 11] rfl ?_)))
 first | refine Ey rfl ?_ ?_ | refine Ev rfl ?_ ?_
 intro h1
 try rw [nnp] at h1
 refine Fa (Ec (Eb [0, 3, 4] rfl (Eh (Fj (En (Ea (Ef rfl) (Ea (Ef rfl) (Ea (Ef rfl) (Ea (Ef rfl) (s_iaM rfl rfl (by first | omega | (rw [List.length_replicate]; omega)) ?_))))))))))
 intro y2 e2
 try simp only [Int.toNat_natCast, Int.toNat_zero] at e2
 refine Ea (o_ldn rfl rfl) ?_
 first | refine Ez rfl rfl (c_169 _ (hx _ (List.mem_of_getElem? (by assumption)))) ?_ | refine Ew rfl rfl (by simp) (c_169 _ (hx _ (List.mem_of_getElem? (by assumption)))) rfl ?_
 refine Ea (o_iaL rfl rfl (by rw [tabV_len _ _ _ _ (by omega), List.length_replicate]; rfl) rfl (by first | omega | (rw [List.length_replicate]; omega))) (Fx (o_stnA rfl rfl rfl rfl rfl (by rw [tabV_len _ _ _ _ (by omega), List.length_replicate]; rfl) (by rw [Int.toNat_natCast]; exact tabV_at _ _ (by omega)) rfl rfl) (Ed (q_blkN (Ec (Eb [0, 3, 4] rfl (En (Ea (Ef rfl) ?_)))))))
 first | refine Ea (Fs rfl rfl (by omega)) ?_ | refine Ea (o_add rfl rfl) ?_
 refine Ea (Ef rfl) (Ed (q_loopN ?_))
 · refine ⟨i + 1, by omega, by omega, hasOf ⟨rfl, trivial⟩ ?_⟩
   rw [← tabV_set Req.r [.w (.bool false), .w (.int .i64 0), .w (.int .i64 0), .w (.int .i64 0), .w (.bool false), .w (.slice none 0 0)] (by assumption)]; rfl
 intro h1
 try rw [nnp] at h1
 refine s_exit (q_seqX (q_loopX (q_blkH (Ec (Eb [3] rfl (Eh (En (Ea (Ef rfl) (Ea (Ef rfl) (Ed (Ec ?_)))))))))))
 refine Eb [2] rfl (Ep (ret_leafA (.inr rfl) rfl rfl (by rw [tabV_len _ _ _ _ (by omega), List.length_replicate]; rfl) ?_))
 rotate_left
 all_goals
  rw [tabV_end _ _ _ (by omega)]
theorem c_148 (xs : List Int) (left : Int) (h : -1 ≤ left ∧ left ≤ 1048576) (hl : xs.length ≤ 140737488355328) : CV prg 148 [.sl 1 (xs.map iR), .w (.int .i64 left)] (fun res => res = .w (.int .i64 (room left xs.length))) := by
 refine Fo g148 (Eb [0, 1] rfl (Eh (En (Ea (Ef rfl) (Ed (Ec (Eb [0, 1] rfl (Eh (En (Ea (Ef rfl) (Ea (Ef rfl) ?_)))))))))))
 first | refine Ea (Fk rfl) ?_ | refine Ea (Fu rfl) ?_
 first | refine Ea (o_subn rfl rfl (by omega)) ?_ | refine Ea (o_sub rfl rfl) ?_
 refine Ea (Ef rfl) (Ed (Ec (Eb [1] rfl (Eh (Eh (En (Ea (Ef rfl) (Ea (o_lss rfl rfl) (Ed (Ec (Eb [1, 10] rfl ?_)))))))))))
 first | refine Ey rfl ?_ ?_ | refine Ev rfl ?_ ?_
 intro h1
 try rw [nnp] at h1
 refine Eh (En (Ea (Ef rfl) (Ed (Ec (Eb [4] rfl (Ep (Eu (Fc rfl rfl ?_))))))))
 rotate_left
 intro h1
 try rw [nnp] at h1
 refine Fa (Ec (Eb [1] rfl (Eh (En (Ea (Ef rfl) (Ea (Ef rfl) (Ed (Ec (Eb [4] rfl (Ep (Fc rfl rfl ?_)))))))))))
 rotate_left
 all_goals
  (try unfold room); omega
theorem c_153 (x : Req) (left : Int) (h : -1 ≤ left ∧ left ≤ 1048576) (hw : x.wf) : CV prg 153 [.agg x.r, .w (.int .i64 left)] (fun res => res = .w (.int .i64 (room left x.sz))) := by
 refine Fo g153 (Eb [0, 1] rfl (Eh (En (Ea (o_box rfl rfl rfl) (Ea (Ef rfl) (Ed (Ec (Eb [1, 2] rfl (Eh (En (Ea (Ek rfl) ?_)))))))))))
 refine Ea (Eo rfl rfl rfl) (Ea (Ef rfl) ?_)
 first | refine Ez rfl rfl (c_148 _ _ (by (try unfold room at *); omega) hw.2.2.2.1) ?_ | refine Ew rfl rfl (by simp) (c_148 _ _ (by (try unfold room at *); omega) hw.2.2.2.1) rfl ?_
 refine Ea (Ef rfl) (Ed (Ec (Eb [1] rfl (Eh (Eh (En (Ea (Ef rfl) (Ea (o_lss rfl rfl) (Ed (Ec (Eb [1, 10] rfl ?_)))))))))))
 first | refine Ey rfl ?_ ?_ | refine Ev rfl ?_ ?_
 intro h1
 try rw [nnp] at h1
 refine Eh (En (Ea (Ef rfl) (Ed (Ec (Eb [4] rfl (Ep (Eu (Fc rfl rfl ?_))))))))
 rotate_left
 intro h1
 try rw [nnp] at h1
 refine Fa (Ec (Eb [1] rfl (Eh (En (Ea (Ef rfl) (Ea (Ef rfl) (Ed (Ec (Eb [4] rfl (Ep (Fc rfl rfl ?_)))))))))))
 rotate_left
 all_goals
  unfold Req.sz; (try unfold room at *); omega
theorem c_154 (xs : List Req) (left : Int) (h : -1 ≤ left ∧ left ≤ 1048576) (hl : xs.length ≤ 140737488355328) (hw : ∀ y, y ∈ xs → Req.wf y) : CV prg 154 [.sl 6 (xs.map Req.r), .w (.int .i64 left)] (fun res => res = .w (.int .i64 (room left (xs.length + sumL Req.sz xs)))) := by
 refine Fo g154 (Eb [0, 1] rfl (Eh (En (Ea (Ef rfl) (Ed (Ec (Eb [0, 1] rfl (Eh (En (Ea (Ef rfl) (Ea (Ef rfl) ?_)))))))))))
 first | refine Ea (Fk rfl) ?_ | refine Ea (Fu rfl) ?_
 first | refine Ea (o_subn rfl rfl (by omega)) ?_ | refine Ea (o_sub rfl rfl) ?_
 refine Ea (Ef rfl) (Ed (Ec (Eb [0, 1] rfl (Eh (Eh (En (Ea (Ef rfl) (Ea (o_lss rfl rfl) (Ed (Ec (Eb [0, 1, 11] rfl ?_)))))))))))
 first | refine Ey rfl ?_ ?_ | refine Ev rfl ?_ ?_
 intro h1
 try rw [nnp] at h1
 refine Eh (En (Ea (Ef rfl) (Ed (Ec (Eb [4] rfl (Ep (Eu (Fc rfl rfl ?_))))))))
 rotate_left
 intro h1
 try rw [nnp] at h1
 refine Fa (Ec (Eb [0, 1] rfl (Eh (Eh (En (Ea (Ef rfl) (Ed (Ec (Eb [0, 1, 5] rfl (Fj (S_loop0 (ι := Nat) (fun i => i ≤ xs.length ∧ 0 ≤ left - xs.length - sumL Req.sz (xs.take i)) (fun i => [(5, .w (.int .i64 (i : Int))), (1, .w (.int .i64 (left - xs.length - sumL Req.sz (xs.take i))))]) (fun i => xs.length - i) 0 ⟨by simp, by simp [sumL]; omega⟩ rfl ⟨rfl, by simp [sumL, look]; rfl, trivial⟩ (fun _ _ => rfl) rfl ?_)))))))))))
 intro i hi
 have hsl := sumL_le Req.sz xs i
 refine Eb [0, 1, 5] rfl (Eh (Eh (En (Ea (Ef rfl) (Ea (Ef rfl) ?_)))))
 first | refine Ea (Fk rfl) ?_ | refine Ea (Fu rfl) ?_
 refine Ea (o_lss rfl rfl) (Ed (Ec (Eb [0, 1, 5, 15] rfl ?_)))
 first | refine Ey rfl ?_ ?_ | refine Ev rfl ?_ ?_
 intro h2
 try rw [nnp] at h2
 refine Fa (Ec (Eb [0, 1, 5] rfl (Eh (Fj (Eh (En (Ea (Ef rfl) (Ea (Ef rfl) (s_iaM rfl rfl (by simp at *; omega) ?_)))))))))
 intro y3 e3
 try simp only [Int.toNat_natCast, Int.toNat_zero] at e3
 refine Ea (o_ldn rfl rfl) (Ea (Ef rfl) ?_)
 first | refine Ez rfl rfl (c_153 _ _ (by omega) (hw _ (List.mem_of_getElem? (by assumption)))) ?_ | refine Ew rfl rfl (by simp) (c_153 _ _ (by omega) (hw _ (List.mem_of_getElem? (by assumption)))) rfl ?_
 refine Ea (Ef rfl) (Ed (Ec (Eb [0, 1, 5] rfl (Eh (En (Ea (Ef rfl) (Ea (o_lss rfl rfl) (Ed (Ec (Eb [0, 1, 5, 25] rfl ?_))))))))))
 first | refine Ey rfl ?_ ?_ | refine Ev rfl ?_ ?_
 intro h4
 try rw [nnp] at h4
 refine Eh (En (Ea (Ef rfl) (Ed (Ec (Eb [4] rfl (Ep (Fd (Eu (Fw (Fd (Eu ?_)))))))))))
 refine Fc rfl rfl ?_
 rotate_left
 intro h4
 try rw [nnp] at h4
 refine Fa (q_blkN (Ec (Eb [0, 1, 5] rfl (En (Ea (Ef rfl) ?_)))))
 first | refine Ea (Fs rfl rfl (by omega)) ?_ | refine Ea (o_add rfl rfl) ?_
 refine Ea (Ef rfl) (Ed (q_loopN ?_))
 · have hst := sumL_take Req.sz (by assumption : xs[i]? = some _)
   refine ⟨i + 1, ⟨by omega, by (try unfold room at *); omega⟩, by omega, hasOf ⟨rfl, ?_, trivial⟩ rfl⟩
   refine congrArg (fun b => some (V.w (.int .i64 b))) ?_
   (try unfold room at *); omega
 intro h2
 try rw [nnp] at h2
 refine s_exit (q_seqX (q_loopX (q_blkH (Ec (Eb [1] rfl (Eh (En (Ea (Ef rfl) (Ea (Ef rfl) (Ed (Ec ?_)))))))))))
 refine Eb [4] rfl (Ep (Fc rfl rfl ?_))
 rotate_left
 all_goals
  first | ((try unfold room); omega) | (have hst := sumL_take Req.sz (by assumption : xs[i]? = some _); have hs2 := sumL_le Req.sz xs (i + 1); (try unfold room at *); omega) | (rw [sumL_end _ (by omega)] at *; (try unfold room); omega)
theorem c_136 (x y : Mst) (hs : x.small) : CV prg 136 [.agg x.r, .agg y.r] (fun res => res = .w (.bool (decide (x = y)))) := by
 refine Fo g136 (Eb [0, 1] rfl (Eh (En (Ea (o_box rfl rfl rfl) (Ea (o_box rfl rfl rfl) (Ea (Ef rfl) (Ed (Ec (Eb [2, 3] rfl (Eh (Eh ?_)))))))))))
 refine En (Ea (Ek rfl) (Ea (Eo rfl rfl rfl) (Ea (Ek rfl) (Ea (Eo rfl rfl rfl) ?_))))
 first | refine Ez rfl rfl (c_139 _ _ hs.1 hs.2) ?_ | refine Ew rfl rfl (by simp) (c_139 _ _ hs.1 hs.2) rfl ?_
 refine Ea (Fg rfl) (Ed (Ec (Eb [2, 3, 10] rfl ?_)))
 first | refine Ey rfl ?_ ?_ | refine Fp rfl ?_ ?_ | refine Fh rfl ?_ ?_ | refine Ev rfl ?_ ?_
 intro h1
 try rw [nnp] at h1
 refine Eh (En (Ea (Ef rfl) (Ed (Ec (Eb [4] rfl (Ep (Eu (Eg rfl rfl ?_))))))))
 rotate_left
 intro h1
 try rw [nnp] at h1
 refine Fa (Ec (Eb [2, 3] rfl (Eh (Eh (En (Ea (Ek rfl) (Ea (Eo rfl rfl rfl) (Ea (Ek rfl) (Ea (Eo rfl rfl rfl) (Ea (o_neq rfl rfl) (Ed ?_)))))))))))
 refine Ec (Eb [2, 3, 15] rfl ?_)
 first | refine Ey rfl ?_ ?_ | refine Ev rfl ?_ ?_
 intro h2
 try rw [nnp] at h2
 refine Eh (En (Ea (Ef rfl) (Ed (Ec (Eb [4] rfl (Ep (Eu (Eg rfl rfl ?_))))))))
 rotate_left
 intro h2
 try rw [nnp] at h2
 refine Fa (Ec (Eb [2, 3] rfl (Eh (Eh (En (Ea (Ek rfl) (Ea (Eo rfl rfl rfl) (Ea (Ek rfl) (Ea (Eo rfl rfl rfl) (Ea (o_neq rfl rfl) (Ed ?_)))))))))))
 refine Ec (Eb [2, 3, 20] rfl ?_)
 first | refine Ey rfl ?_ ?_ | refine Ev rfl ?_ ?_
 intro h3
 try rw [nnp] at h3
 refine Eh (En (Ea (Ef rfl) (Ed (Ec (Eb [4] rfl (Ep (Eu (Eg rfl rfl ?_))))))))
 rotate_left
 intro h3
 try rw [nnp] at h3
 refine Fa (Ec (Eb [2, 3] rfl (Eh (Eh (En (Ea (Ek rfl) (Ea (Eo rfl rfl rfl) (Ea (Ek rfl) (Ea (Eo rfl rfl rfl) (Ea (o_neq rfl rfl) (Ed ?_)))))))))))
 refine Ec (Eb [2, 3, 25] rfl ?_)
 first | refine Ey rfl ?_ ?_ | refine Ev rfl ?_ ?_
 intro h4
 try rw [nnp] at h4
 refine Eh (En (Ea (Ef rfl) (Ed (Ec (Eb [4] rfl (Ep (Eu (Eg rfl rfl ?_))))))))
 rotate_left
 intro h4
 try rw [nnp] at h4
 refine Fa (Ec (Eb [2, 3] rfl (Eh (Eh (En (Ea (Ek rfl) (Ea (Eo rfl rfl rfl) (Ea (Ek rfl) (Ea (Eo rfl rfl rfl) (Ea (o_eqb rfl rfl) (Ed ?_)))))))))))
 refine Ec (Eb [2, 3, 30] rfl ?_)
 first | refine Fh rfl ?_ ?_ | refine Ev rfl ?_ ?_
 intro h5
 try rw [nnp] at h5
 refine Eh (En (Ea (Ef rfl) (Ed (Ec (Eb [4] rfl (Ep (Eu (Eg rfl rfl ?_))))))))
 rotate_left
 intro h5
 try rw [nnp] at h5
 refine Fa (Ec (Eb [2, 3] rfl (Eh (Eh (En (Ea (Ek rfl) (Ea (Eo rfl rfl rfl) (Ea (Ek rfl) (Ea (Eo rfl rfl rfl) (Ea (o_eqb rfl rfl) (Ed ?_)))))))))))
 refine Ec (Eb [35] rfl ?_)
 first | refine Fh rfl ?_ ?_ | refine Ev rfl ?_ ?_
 intro h6
 try rw [nnp] at h6
 refine Eh (En (Ea (Ef rfl) (Ed (Ec (Eb [4] rfl (Ep (Eu (Eg rfl rfl ?_))))))))
 rotate_left
 intro h6
 try rw [nnp] at h6
 refine Fa (Ec (Eb [] rfl (Eh (En (Ea (Ef rfl) (Ed (Ec (Eb [4] rfl (Ep (Eg rfl rfl ?_))))))))))
 rotate_left
 all_goals
  cases x; cases y; simp_all
theorem c_167 (x : Mst) (hs : x.small) : CV prg 167 [.agg x.r] (fun res => res = .agg x.r) := by
 refine Fo g167 (Eb [0] rfl (Eh (En (Ea (o_box rfl rfl rfl) (Ea (o_new rfl rfl) (Ed (Ec (Eb [1, 2] rfl (Eh (En (Ea (o_new rfl rfl) ?_)))))))))))
 refine Ed (Ec (Eb [1, 2, 3] rfl (Eh (En (Ea (Ek rfl) (Ea (Eo rfl rfl rfl) ?_))))))
 first | refine Ez rfl rfl (c_170 _ hs.1 hs.2) ?_ | refine Ew rfl rfl (by simp) (c_170 _ hs.1 hs.2) rfl ?_
 refine Ea (Ek rfl) (Fx (o_stC rfl rfl rfl rfl rfl rfl) (Ed (Ec (Eb [1, 2, 3] rfl (Eh (En (Ea (Ek rfl) (Ea (Eo rfl rfl rfl) (Ea (Ek rfl) (Fx (o_stC rfl rfl rfl rfl rfl rfl) (Ed ?_)))))))))))
 refine Ec (Eb [1, 2, 3] rfl (Eh (En (Ea (Ek rfl) (Ea (Eo rfl rfl rfl) (Ea (Ek rfl) (Fx (o_stC rfl rfl rfl rfl rfl rfl) (Ed (Ec (Eb [1, 2, 3] rfl (Eh ?_)))))))))))
 refine En (Ea (Ek rfl) (Ea (Eo rfl rfl rfl) (Ea (Ek rfl) (Fx (o_stC rfl rfl rfl rfl rfl rfl) (Ed (Ec (Eb [1, 2, 3] rfl (Eh (En (Ea (Ek rfl) (Ea (Eo rfl rfl rfl) ?_)))))))))))
 refine Ea (Ek rfl) (Fx (o_stC rfl rfl rfl rfl rfl rfl) (Ed (Ec (Eb [1, 2, 3] rfl (Eh (En (Ea (Ek rfl) (Ea (Eo rfl rfl rfl) (Ea (Ek rfl) (Fx (o_stC rfl rfl rfl rfl rfl rfl) (Ed ?_)))))))))))
 refine Ec (Eb [2, 3] rfl (Eh (En (Ea (Fm rfl rfl rfl) (Fx (o_stnC rfl rfl rfl rfl rfl rfl rfl) (Ed (Ec (Eb [2] rfl (Ep (ret_leafR rfl rfl ?_))))))))))
 rotate_left
 all_goals
  rfl
theorem c_151 (x : Mst) (left : Int) (h : -1 ≤ left ∧ left ≤ 1048576) (hw : x.wf) : CV prg 151 [.agg x.r, .w (.int .i64 left)] (fun res => res = .w (.int .i64 (room left x.sz))) := by
 refine Fo g151 (Eb [0, 1] rfl (Eh (En (Ea (o_box rfl rfl rfl) (Ea (Ef rfl) (Ed (Ec (Eb [1, 2] rfl (Eh (En (Ea (Ek rfl) ?_)))))))))))
 refine Ea (Eo rfl rfl rfl) (Ea (Ef rfl) ?_)
 first | refine Ez rfl rfl (c_154 _ _ (by (try unfold room at *); omega) hw.1.1 hw.1.2) ?_ | refine Ew rfl rfl (by simp) (c_154 _ _ (by (try unfold room at *); omega) hw.1.1 hw.1.2) rfl ?_
 refine Ea (Ef rfl) (Ed (Ec (Eb [1] rfl (Eh (Eh (En (Ea (Ef rfl) (Ea (o_lss rfl rfl) (Ed (Ec (Eb [1, 10] rfl ?_)))))))))))
 first | refine Ey rfl ?_ ?_ | refine Ev rfl ?_ ?_
 intro h1
 try rw [nnp] at h1
 refine Eh (En (Ea (Ef rfl) (Ed (Ec (Eb [4] rfl (Ep (Eu (Fc rfl rfl ?_))))))))
 rotate_left
 intro h1
 try rw [nnp] at h1
 refine Fa (Ec (Eb [1] rfl (Eh (En (Ea (Ef rfl) (Ea (Ef rfl) (Ed (Ec (Eb [4] rfl (Ep (Fc rfl rfl ?_)))))))))))
 rotate_left
 all_goals
  unfold Mst.sz; (try unfold room at *); omega
def roundStep (c : Conf) (s : Int) (i : Nat) : Int := IntKind.wrap .i64 (s + IntKind.wrap .i64 (c.turn i * c.slot))
def Conf.round (c : Conf) : Int := if c.ok then (List.range c.masters.length).foldl (roundStep c) (IntKind.wrap .i64 (c.cost * c.masters.length)) else 0
def Conf.bound (c : Conf) (beats : Int) : Int := if c.ok && inB beats 1 8 then
 IntKind.wrap .i64 (IntKind.wrap .i64 (IntKind.wrap .i64 (2 * IntKind.wrap .i64 (IntKind.wrap .i64 (beats * IntKind.wrap .i64 (IntKind.wrap .i64 (IntKind.wrap .i64 (2 * c.round) + c.maxSplit) + c.cost)) + c.caps)) + IntKind.wrap .i64 (2 * c.slot)) + 10) else 0
theorem minL2 (a b : Int) : minL a [b] = min a b := by simp only [minL]; omega
def Wrr.back (w : Wrr) (c : Conf) (who : Int) : Wrr := if w.ok c && decide (who = w.pos) then { w with credit := min (IntKind.wrap .i64 (w.credit + 1)) (c.turn who) } else w
theorem c_140 (x y : Wrr) : CV prg 140 [.agg x.r, .agg y.r] (fun res => res = .w (.bool (decide (x = y)))) := by
 refine Fo g140 (Eb [0, 1] rfl (Eh (En (Ea (o_box rfl rfl rfl) (Ea (o_box rfl rfl rfl) (Ea (Ef rfl) (Ed (Ec (Eb [2, 3] rfl (Eh (Eh ?_)))))))))))
 refine En (Ea (Ek rfl) (Ea (Eo rfl rfl rfl) (Ea (Ek rfl) (Ea (Eo rfl rfl rfl) (Ea (o_neq rfl rfl) (Ed (Ec (Eb [2, 3, 9] rfl ?_))))))))
 first | refine Ey rfl ?_ ?_ | refine Ev rfl ?_ ?_
 intro h1
 try rw [nnp] at h1
 refine Eh (En (Ea (Ef rfl) (Ed (Ec (Eb [4] rfl (Ep (Eu (Eg rfl rfl ?_))))))))
 rotate_left
 intro h1
 try rw [nnp] at h1
 refine Fa (Ec (Eb [2, 3] rfl (Eh (Eh (En (Ea (Ek rfl) (Ea (Eo rfl rfl rfl) (Ea (Ek rfl) (Ea (Eo rfl rfl rfl) (Ea (o_neq rfl rfl) (Ed ?_)))))))))))
 refine Ec (Eb [14] rfl ?_)
 first | refine Ey rfl ?_ ?_ | refine Ev rfl ?_ ?_
 intro h2
 try rw [nnp] at h2
 refine Eh (En (Ea (Ef rfl) (Ed (Ec (Eb [4] rfl (Ep (Eu (Eg rfl rfl ?_))))))))
 rotate_left
 intro h2
 try rw [nnp] at h2
 refine Fa (Ec (Eb [] rfl (Eh (En (Ea (Ef rfl) (Ed (Ec (Eb [4] rfl (Ep (Eg rfl rfl ?_))))))))))
 rotate_left
 all_goals
  cases x; cases y; simp_all
def Post.small (x : Post) : Prop := x.req.small
def Post.sz (x : Post) : Nat := x.req.sz
theorem Post.small_of {x : Post} (h : x.sz ≤ 1048576) : x.small := Req.small_of (by unfold Post.sz at h; omega)
def Script.small (x : Script) : Prop := x.posts.length ≤ 1048576 ∧ (∀ y, y ∈ x.posts → Post.small y) ∧ x.waits.length ≤ 1048576 ∧ x.says.length ≤ 1048576
def Script.sz (x : Script) : Nat := x.posts.length + sumL Post.sz x.posts + x.waits.length + x.says.length
theorem Script.small_of {x : Script} (h : x.sz ≤ 1048576) : x.small := ⟨by unfold Script.sz at h; omega, fun y hy => Post.small_of (by have := sumL_mem Post.sz hy; unfold Script.sz at h; omega), by unfold Script.sz at h; omega, by unfold Script.sz at h; omega⟩
theorem c_125 (x y : Bucket) : CV prg 125 [.agg x.r, .agg y.r] (fun res => res = .w (.bool (decide (x = y)))) := by
 refine Fo g125 (Eb [0, 1] rfl (Eh (En (Ea (o_box rfl rfl rfl) (Ea (o_box rfl rfl rfl) (Ea (Ef rfl) (Ed (Ec (Eb [2, 3] rfl (Eh (Eh ?_)))))))))))
 refine En (Ea (Ek rfl) (Ea (Eo rfl rfl rfl) (Ea (Ek rfl) (Ea (Eo rfl rfl rfl) (Ea (o_neq rfl rfl) (Ed (Ec (Eb [2, 3, 9] rfl ?_))))))))
 first | refine Ey rfl ?_ ?_ | refine Ev rfl ?_ ?_
 intro h1
 try rw [nnp] at h1
 refine Eh (En (Ea (Ef rfl) (Ed (Ec (Eb [4] rfl (Ep (Eu (Eg rfl rfl ?_))))))))
 rotate_left
 intro h1
 try rw [nnp] at h1
 refine Fa (Ec (Eb [2, 3] rfl (Eh (Eh (En (Ea (Ek rfl) (Ea (Eo rfl rfl rfl) (Ea (Ek rfl) (Ea (Eo rfl rfl rfl) (Ea (o_neq rfl rfl) (Ed ?_)))))))))))
 refine Ec (Eb [14] rfl ?_)
 first | refine Ey rfl ?_ ?_ | refine Ev rfl ?_ ?_
 intro h2
 try rw [nnp] at h2
 refine Eh (En (Ea (Ef rfl) (Ed (Ec (Eb [4] rfl (Ep (Eu (Eg rfl rfl ?_))))))))
 rotate_left
 intro h2
 try rw [nnp] at h2
 refine Fa (Ec (Eb [] rfl (Eh (En (Ea (Ef rfl) (Ed (Ec (Eb [4] rfl (Ep (Eg rfl rfl ?_))))))))))
 rotate_left
 all_goals
  cases x; cases y; simp_all
theorem c_126 (xs ys : List Bucket) (hl : xs.length ≤ 1048576) : CV prg 126 [.sl 2 (xs.map Bucket.r), .sl 2 (ys.map Bucket.r)] (fun res => res = .w (.bool (decide (xs = ys)))) := by
 refine Fo g126 (Eb [0, 1] rfl (Eh (En (Ea (Ef rfl) (Ed (Ec (Eb [0, 1] rfl (Eh (Eh (En (Ea (Ef rfl) ?_)))))))))))
 first | refine Ea (Fk rfl) ?_ | refine Ea (Fu rfl) ?_
 refine Ea (Ef rfl) ?_
 first | refine Ea (Fk rfl) ?_ | refine Ea (Fu rfl) ?_
 refine Ea (o_neq rfl rfl) (Ed (Ec (Eb [0, 1, 10] rfl ?_)))
 first | refine Ey rfl ?_ ?_ | refine Ev rfl ?_ ?_
 intro h1
 try rw [nnp] at h1
 refine Eh (En (Ea (Ef rfl) (Ed (Ec (Eb [4] rfl (Ep (Eu (Eg rfl rfl ?_))))))))
 rotate_left
 intro h1
 try rw [nnp] at h1
 refine Fa (Ec (Eb [0, 1] rfl (Eh (Eh (En (Ea (Ef rfl) (Ed (Ec (Eb [0, 1, 5] rfl (Fj (S_loop0 (ι := Nat) (fun i => i ≤ xs.length ∧ xs.take i = ys.take i ∧ xs.length = ys.length) (fun i => [(5, .w (.int .i64 (i : Int)))]) (fun i => xs.length - i) 0 ⟨by simp, by simp, by omega⟩ rfl ⟨rfl, trivial⟩ (fun _ _ => rfl) rfl ?_)))))))))))
 intro i hi
 refine Eb [0, 1, 5] rfl (Eh (Eh (En (Ea (Ef rfl) (Ea (Ef rfl) ?_)))))
 first | refine Ea (Fk rfl) ?_ | refine Ea (Fu rfl) ?_
 refine Ea (o_lss rfl rfl) (Ed (Ec (Eb [0, 1, 5, 14] rfl ?_)))
 first | refine Ey rfl ?_ ?_ | refine Ev rfl ?_ ?_
 intro h2
 try rw [nnp] at h2
 refine Fa (Ec (Eb [0, 1, 5] rfl (Eh (Fj (Eh (En (Ea (Ef rfl) (Ea (Ef rfl) (s_iaM rfl rfl (by omega) ?_)))))))))
 intro y3 e3
 try simp only [Int.toNat_natCast, Int.toNat_zero] at e3
 refine Ea (o_ldn rfl rfl) (Ea (Ef rfl) (Ea (Ef rfl) (s_iaM rfl rfl (by omega) ?_)))
 intro y4 e4
 try simp only [Int.toNat_natCast, Int.toNat_zero] at e4
 refine Ea (o_ldn rfl rfl) ?_
 first | refine Ez rfl rfl (c_125 _ _) ?_ | refine Ew rfl rfl (by simp) (c_125 _ _) rfl ?_
 refine Ea (Fg rfl) (Ed (Ec (Eb [0, 1, 5, 26] rfl ?_)))
 first | refine Ey rfl ?_ ?_ | refine Fp rfl ?_ ?_ | refine Fh rfl ?_ ?_ | refine Ev rfl ?_ ?_
 intro h5
 try rw [nnp] at h5
 refine Eh (En (Ea (Ef rfl) (Ed (Ec (Eb [4] rfl (Ep (Fd (Eu (Fw (Fd (Eu ?_)))))))))))
 refine Eg rfl rfl ?_
 rotate_left
 intro h5
 try rw [nnp] at h5
 refine Fa (q_blkN (Ec (Eb [0, 1, 5] rfl (En (Ea (Ef rfl) ?_)))))
 first | refine Ea (Fs rfl rfl (by omega)) ?_ | refine Ea (o_add rfl rfl) ?_
 refine Ea (Ef rfl) (Ed (q_loopN ?_))
 · refine ⟨i + 1, ⟨by omega, eq_take (by assumption) (by assumption) hi.2.1 ?_, hi.2.2⟩, by omega, hasOf ⟨rfl, trivial⟩ rfl⟩
   assumption
 intro h2
 try rw [nnp] at h2
 refine s_exit (q_seqX (q_loopX (q_blkH (Ec (Eb [] rfl (Eh (En (Ea (Ef rfl) (Ed (Ec (Eb [4] rfl ?_)))))))))))
 refine Ep (Eg rfl rfl ?_)
 rotate_left
 all_goals
  first | exact (decide_eq_false (ne_at (by assumption) (by assumption) (by assumption))).symm | exact (decide_eq_true (eq_end hi.2.1 (by omega) hi.2.2)).symm | exact (decide_eq_false (fun e => by subst e; simp_all)).symm
theorem c_156 (x : Bucket) : CV prg 156 [.agg x.r] (fun res => res = .agg x.r) := by
 refine Fo g156 (Eb [0] rfl (Eh (En (Ea (o_box rfl rfl rfl) (Ea (o_new rfl rfl) (Ed (Ec (Eb [1, 2] rfl (Eh (En (Ea (o_new rfl rfl) ?_)))))))))))
 refine Ed (Ec (Eb [1, 2, 3] rfl (Eh (En (Ea (Ek rfl) (Ea (Eo rfl rfl rfl) (Ea (Ek rfl) (Fx (o_stC rfl rfl rfl rfl rfl rfl) (Ed (Ec (Eb [1, 2, 3] rfl ?_)))))))))))
 refine Eh (En (Ea (Ek rfl) (Ea (Eo rfl rfl rfl) (Ea (Ek rfl) (Fx (o_stC rfl rfl rfl rfl rfl rfl) (Ed (Ec (Eb [2, 3] rfl (Eh (En (Ea (Fm rfl rfl rfl) ?_)))))))))))
 refine Fx (o_stnC rfl rfl rfl rfl rfl rfl rfl) (Ed (Ec (Eb [2] rfl (Ep (ret_leafR rfl rfl ?_)))))
 rotate_left
 all_goals
  rfl
theorem c_157 (xs : List Bucket) (hl : xs.length ≤ 1048576) : CV prg 157 [.sl 2 (xs.map Bucket.r)] (fun res => res = .sl 2 (xs.map Bucket.r)) := by
 refine Fo g157 (Eb [0] rfl (Eh (En (Ea (Ef rfl) (Ed (Ec (Eb [0] rfl (Eh (En (Ea (Ef rfl) ?_))))))))))
 first | refine Ea (Fk rfl) ?_ | refine Ea (Fu rfl) ?_
 refine Ea (o_mk rfl rfl rfl rfl ⟨by omega, by unfold roomy; omega, by unfold roomy; omega⟩ rfl) (Ea (Ef rfl) (Ed (Ec (Eb [0, 3] rfl (Eh (Eh (En (Ea (Ef rfl) (Ed (Ec (Eb [0, 3, 4] rfl ?_)))))))))))
 refine Fj (S_loop (ι := Nat) (fun i => i ≤ xs.length) (fun i => [(4, .w (.int .i64 (i : Int)))]) (fun i => [.arr 2 (tabV Bucket.r [.w (.int .i64 0), .w (.int .i64 0)] xs i)]) (fun i => xs.length - i) 1 0 (by simp) rfl (hasOf ⟨rfl, trivial⟩ (by rw [tabV_zero]; rfl)) rfl (fun _ _ => rfl) (fun _ _ => ⟨rfl, rfl⟩) ?_)
 intro i hi
 refine Eb [0, 3, 4] rfl (Eh (Eh (En (Ea (Ef rfl) (Ea (Ef rfl) ?_)))))
 first | refine Ea (Fk rfl) ?_ | refine Ea (Fu rfl) ?_
 refine Ea (o_lss rfl rfl) (Ed (Ec (Eb [0, 3, 4, 11] rfl ?_)))
 first | refine Ey rfl ?_ ?_ | refine Ev rfl ?_ ?_
 intro h1
 try rw [nnp] at h1
 refine Fa (Ec (Eb [0, 3, 4] rfl (Eh (Fj (En (Ea (Ef rfl) (Ea (Ef rfl) (Ea (Ef rfl) (Ea (Ef rfl) (s_iaM rfl rfl (by first | omega | (rw [List.length_replicate]; omega)) ?_))))))))))
 intro y2 e2
 try simp only [Int.toNat_natCast, Int.toNat_zero] at e2
 refine Ea (o_ldn rfl rfl) ?_
 first | refine Ez rfl rfl (c_156 _) ?_ | refine Ew rfl rfl (by simp) (c_156 _) rfl ?_
 refine Ea (o_iaL rfl rfl (by rw [tabV_len _ _ _ _ (by omega), List.length_replicate]; rfl) rfl (by first | omega | (rw [List.length_replicate]; omega))) (Fx (o_stnA rfl rfl rfl rfl rfl (by rw [tabV_len _ _ _ _ (by omega), List.length_replicate]; rfl) (by rw [Int.toNat_natCast]; exact tabV_at _ _ (by omega)) rfl rfl) (Ed (q_blkN (Ec (Eb [0, 3, 4] rfl (En (Ea (Ef rfl) ?_)))))))
 first | refine Ea (Fs rfl rfl (by omega)) ?_ | refine Ea (o_add rfl rfl) ?_
 refine Ea (Ef rfl) (Ed (q_loopN ?_))
 · refine ⟨i + 1, by omega, by omega, hasOf ⟨rfl, trivial⟩ ?_⟩
   rw [← tabV_set Bucket.r [.w (.int .i64 0), .w (.int .i64 0)] (by assumption)]; rfl
 intro h1
 try rw [nnp] at h1
 refine s_exit (q_seqX (q_loopX (q_blkH (Ec (Eb [3] rfl (Eh (En (Ea (Ef rfl) (Ea (Ef rfl) (Ed (Ec ?_)))))))))))
 refine Eb [2] rfl (Ep (ret_leafA (.inr rfl) rfl rfl (by rw [tabV_len _ _ _ _ (by omega), List.length_replicate]; rfl) ?_))
 rotate_left
 all_goals
  rw [tabV_end _ _ _ (by omega)]
theorem c_143 (xs : List Bucket) (left : Int) (h : -1 ≤ left ∧ left ≤ 1048576) (hl : xs.length ≤ 140737488355328) : CV prg 143 [.sl 2 (xs.map Bucket.r), .w (.int .i64 left)] (fun res => res = .w (.int .i64 (room left xs.length))) := by
 refine Fo g143 (Eb [0, 1] rfl (Eh (En (Ea (Ef rfl) (Ed (Ec (Eb [0, 1] rfl (Eh (En (Ea (Ef rfl) (Ea (Ef rfl) ?_)))))))))))
 first | refine Ea (Fk rfl) ?_ | refine Ea (Fu rfl) ?_
 first | refine Ea (o_subn rfl rfl (by omega)) ?_ | refine Ea (o_sub rfl rfl) ?_
 refine Ea (Ef rfl) (Ed (Ec (Eb [1] rfl (Eh (Eh (En (Ea (Ef rfl) (Ea (o_lss rfl rfl) (Ed (Ec (Eb [1, 10] rfl ?_)))))))))))
 first | refine Ey rfl ?_ ?_ | refine Ev rfl ?_ ?_
 intro h1
 try rw [nnp] at h1
 refine Eh (En (Ea (Ef rfl) (Ed (Ec (Eb [4] rfl (Ep (Eu (Fc rfl rfl ?_))))))))
 rotate_left
 intro h1
 try rw [nnp] at h1
 refine Fa (Ec (Eb [1] rfl (Eh (En (Ea (Ef rfl) (Ea (Ef rfl) (Ed (Ec (Eb [4] rfl (Ep (Fc rfl rfl ?_)))))))))))
 rotate_left
 all_goals
  (try unfold room); omega
theorem c_124 (x y : Beat) : CV prg 124 [.agg x.r, .agg y.r] (fun res => res = .w (.bool (decide (x = y)))) := by
 refine Fo g124 (Eb [0, 1] rfl (Eh (En (Ea (o_box rfl rfl rfl) (Ea (o_box rfl rfl rfl) (Ea (Ef rfl) (Ed (Ec (Eb [2, 3] rfl (Eh (Eh ?_)))))))))))
 refine En (Ea (Ek rfl) (Ea (Eo rfl rfl rfl) (Ea (Ek rfl) (Ea (Eo rfl rfl rfl) (Ea (o_eqb rfl rfl) (Ed (Ec (Eb [2, 3, 9] rfl ?_))))))))
 first | refine Fh rfl ?_ ?_ | refine Ev rfl ?_ ?_
 intro h1
 try rw [nnp] at h1
 refine Eh (En (Ea (Ef rfl) (Ed (Ec (Eb [4] rfl (Ep (Eu (Eg rfl rfl ?_))))))))
 rotate_left
 intro h1
 try rw [nnp] at h1
 refine Fa (Ec (Eb [2, 3] rfl (Eh (Eh (En (Ea (Ek rfl) (Ea (Eo rfl rfl rfl) (Ea (Ek rfl) (Ea (Eo rfl rfl rfl) (Ea (o_neq rfl rfl) (Ed ?_)))))))))))
 refine Ec (Eb [2, 3, 14] rfl ?_)
 first | refine Ey rfl ?_ ?_ | refine Ev rfl ?_ ?_
 intro h2
 try rw [nnp] at h2
 refine Eh (En (Ea (Ef rfl) (Ed (Ec (Eb [4] rfl (Ep (Eu (Eg rfl rfl ?_))))))))
 rotate_left
 intro h2
 try rw [nnp] at h2
 refine Fa (Ec (Eb [2, 3] rfl (Eh (Eh (En (Ea (Ek rfl) (Ea (Eo rfl rfl rfl) (Ea (Ek rfl) (Ea (Eo rfl rfl rfl) (Ea (o_neq rfl rfl) (Ed ?_)))))))))))
 refine Ec (Eb [2, 3, 19] rfl ?_)
 first | refine Ey rfl ?_ ?_ | refine Ev rfl ?_ ?_
 intro h3
 try rw [nnp] at h3
 refine Eh (En (Ea (Ef rfl) (Ed (Ec (Eb [4] rfl (Ep (Eu (Eg rfl rfl ?_))))))))
 rotate_left
 intro h3
 try rw [nnp] at h3
 refine Fa (Ec (Eb [2, 3] rfl (Eh (Eh (En (Ea (Ek rfl) (Ea (Eo rfl rfl rfl) (Ea (Ek rfl) (Ea (Eo rfl rfl rfl) (Ea (o_eqb rfl rfl) (Ed ?_)))))))))))
 refine Ec (Eb [2, 3, 24] rfl ?_)
 first | refine Fh rfl ?_ ?_ | refine Ev rfl ?_ ?_
 intro h4
 try rw [nnp] at h4
 refine Eh (En (Ea (Ef rfl) (Ed (Ec (Eb [4] rfl (Ep (Eu (Eg rfl rfl ?_))))))))
 rotate_left
 intro h4
 try rw [nnp] at h4
 refine Fa (Ec (Eb [2, 3] rfl (Eh (Eh (En (Ea (Ek rfl) (Ea (Eo rfl rfl rfl) (Ea (Ek rfl) (Ea (Eo rfl rfl rfl) (Ea (o_neq rfl rfl) (Ed ?_)))))))))))
 refine Ec (Eb [2, 3, 29] rfl ?_)
 first | refine Ey rfl ?_ ?_ | refine Ev rfl ?_ ?_
 intro h5
 try rw [nnp] at h5
 refine Eh (En (Ea (Ef rfl) (Ed (Ec (Eb [4] rfl (Ep (Eu (Eg rfl rfl ?_))))))))
 rotate_left
 intro h5
 try rw [nnp] at h5
 refine Fa (Ec (Eb [2, 3] rfl (Eh (Eh (En (Ea (Ek rfl) (Ea (Eo rfl rfl rfl) (Ea (Ek rfl) (Ea (Eo rfl rfl rfl) (Ea (o_neq rfl rfl) (Ed ?_)))))))))))
 refine Ec (Eb [2, 3, 34] rfl ?_)
 first | refine Ey rfl ?_ ?_ | refine Ev rfl ?_ ?_
 intro h6
 try rw [nnp] at h6
 refine Eh (En (Ea (Ef rfl) (Ed (Ec (Eb [4] rfl (Ep (Eu (Eg rfl rfl ?_))))))))
 rotate_left
 intro h6
 try rw [nnp] at h6
 refine Fa (Ec (Eb [2, 3] rfl (Eh (Eh (En (Ea (Ek rfl) (Ea (Eo rfl rfl rfl) (Ea (Ek rfl) (Ea (Eo rfl rfl rfl) (Ea (o_neq rfl rfl) (Ed ?_)))))))))))
 refine Ec (Eb [2, 3, 39] rfl ?_)
 first | refine Ey rfl ?_ ?_ | refine Ev rfl ?_ ?_
 intro h7
 try rw [nnp] at h7
 refine Eh (En (Ea (Ef rfl) (Ed (Ec (Eb [4] rfl (Ep (Eu (Eg rfl rfl ?_))))))))
 rotate_left
 intro h7
 try rw [nnp] at h7
 refine Fa (Ec (Eb [2, 3] rfl (Eh (Eh (En (Ea (Ek rfl) (Ea (Eo rfl rfl rfl) (Ea (Ek rfl) (Ea (Eo rfl rfl rfl) (Ea (o_eqb rfl rfl) (Ed ?_)))))))))))
 refine Ec (Eb [44] rfl ?_)
 first | refine Fh rfl ?_ ?_ | refine Ev rfl ?_ ?_
 intro h8
 try rw [nnp] at h8
 refine Eh (En (Ea (Ef rfl) (Ed (Ec (Eb [4] rfl (Ep (Eu (Eg rfl rfl ?_))))))))
 rotate_left
 intro h8
 try rw [nnp] at h8
 refine Fa (Ec (Eb [] rfl (Eh (En (Ea (Ef rfl) (Ed (Ec (Eb [4] rfl (Ep (Eg rfl rfl ?_))))))))))
 rotate_left
 all_goals
  cases x; cases y; simp_all
theorem c_155 (x : Beat) : CV prg 155 [.agg x.r] (fun res => res = .agg x.r) := by
 refine Fo g155 (Eb [0] rfl (Eh (En (Ea (o_box rfl rfl rfl) (Ea (o_new rfl rfl) (Ed (Ec (Eb [1, 2] rfl (Eh (En (Ea (o_new rfl rfl) ?_)))))))))))
 refine Ed (Ec (Eb [1, 2, 3] rfl (Eh (En (Ea (Ek rfl) (Ea (Eo rfl rfl rfl) (Ea (Ek rfl) (Fx (o_stC rfl rfl rfl rfl rfl rfl) (Ed (Ec (Eb [1, 2, 3] rfl ?_)))))))))))
 refine Eh (En (Ea (Ek rfl) (Ea (Eo rfl rfl rfl) (Ea (Ek rfl) (Fx (o_stC rfl rfl rfl rfl rfl rfl) (Ed (Ec (Eb [1, 2, 3] rfl (Eh (En (Ea (Ek rfl) ?_)))))))))))
 refine Ea (Eo rfl rfl rfl) (Ea (Ek rfl) (Fx (o_stC rfl rfl rfl rfl rfl rfl) (Ed (Ec (Eb [1, 2, 3] rfl (Eh (En (Ea (Ek rfl) (Ea (Eo rfl rfl rfl) (Ea (Ek rfl) (Fx (o_stC rfl rfl rfl rfl rfl rfl) ?_)))))))))))
 refine Ed (Ec (Eb [1, 2, 3] rfl (Eh (En (Ea (Ek rfl) (Ea (Eo rfl rfl rfl) (Ea (Ek rfl) (Fx (o_stC rfl rfl rfl rfl rfl rfl) (Ed (Ec (Eb [1, 2, 3] rfl ?_)))))))))))
 refine Eh (En (Ea (Ek rfl) (Ea (Eo rfl rfl rfl) (Ea (Ek rfl) (Fx (o_stC rfl rfl rfl rfl rfl rfl) (Ed (Ec (Eb [1, 2, 3] rfl (Eh (En (Ea (Ek rfl) ?_)))))))))))
 refine Ea (Eo rfl rfl rfl) (Ea (Ek rfl) (Fx (o_stC rfl rfl rfl rfl rfl rfl) (Ed (Ec (Eb [1, 2, 3] rfl (Eh (En (Ea (Ek rfl) (Ea (Eo rfl rfl rfl) (Ea (Ek rfl) (Fx (o_stC rfl rfl rfl rfl rfl rfl) ?_)))))))))))
 refine Ed (Ec (Eb [2, 3] rfl (Eh (En (Ea (Fm rfl rfl rfl) (Fx (o_stnC rfl rfl rfl rfl rfl rfl rfl) (Ed (Ec (Eb [2] rfl (Ep (ret_leafR rfl rfl ?_)))))))))))
 rotate_left
 all_goals
  rfl
def Dev.small (x : Dev) : Prop := x.regs.length ≤ 1048576 ∧ x.fifo.length ≤ 1048576
def Dev.sz (x : Dev) : Nat := x.regs.length + x.fifo.length
theorem Dev.small_of {x : Dev} (h : x.sz ≤ 1048576) : x.small := ⟨by unfold Dev.sz at h; omega, by unfold Dev.sz at h; omega⟩
def Model.small (x : Model) : Prop := x.ram.length ≤ 1048576 ∧ x.dev.small
def Model.sz (x : Model) : Nat := x.ram.length + x.dev.sz
theorem Model.small_of {x : Model} (h : x.sz ≤ 1048576) : x.small := ⟨by unfold Model.sz at h; omega, Dev.small_of (by unfold Model.sz at h; omega)⟩
theorem c_129 (x y : Dev) (hs : x.small) : CV prg 129 [.agg x.r, .agg y.r] (fun res => res = .w (.bool (decide (x = y)))) := by
 refine Fo g129 (Eb [0, 1] rfl (Eh (En (Ea (o_box rfl rfl rfl) (Ea (o_box rfl rfl rfl) (Ea (Ef rfl) (Ed (Ec (Eb [2, 3] rfl (Eh (Eh ?_)))))))))))
 refine En (Ea (Ek rfl) (Ea (Eo rfl rfl rfl) (Ea (Ek rfl) (Ea (Eo rfl rfl rfl) ?_))))
 first | refine Ez rfl rfl (by first | exact (c_132 _ _ hs.1) | exact (c_132 _ _ hs.2)) ?_ | refine Ew rfl rfl (by simp) (by first | exact (c_132 _ _ hs.1) | exact (c_132 _ _ hs.2)) rfl ?_
 refine Ea (Fg rfl) (Ed (Ec (Eb [2, 3, 10] rfl ?_)))
 first | refine Ey rfl ?_ ?_ | refine Fp rfl ?_ ?_ | refine Fh rfl ?_ ?_ | refine Ev rfl ?_ ?_
 intro h1
 try rw [nnp] at h1
 refine Eh (En (Ea (Ef rfl) (Ed (Ec (Eb [4] rfl (Ep (Eu (Eg rfl rfl ?_))))))))
 rotate_left
 intro h1
 try rw [nnp] at h1
 refine Fa (Ec (Eb [2, 3] rfl (Eh (Eh (En (Ea (Ek rfl) (Ea (Eo rfl rfl rfl) (Ea (Ek rfl) (Ea (Eo rfl rfl rfl) (Ea (o_neq rfl rfl) (Ed ?_)))))))))))
 refine Ec (Eb [2, 3, 15] rfl ?_)
 first | refine Ey rfl ?_ ?_ | refine Ev rfl ?_ ?_
 intro h2
 try rw [nnp] at h2
 refine Eh (En (Ea (Ef rfl) (Ed (Ec (Eb [4] rfl (Ep (Eu (Eg rfl rfl ?_))))))))
 rotate_left
 intro h2
 try rw [nnp] at h2
 refine Fa (Ec (Eb [2, 3] rfl (Eh (Eh (En (Ea (Ek rfl) (Ea (Eo rfl rfl rfl) (Ea (Ek rfl) (Ea (Eo rfl rfl rfl) ?_)))))))))
 first | refine Ez rfl rfl (by first | exact (c_132 _ _ hs.1) | exact (c_132 _ _ hs.2)) ?_ | refine Ew rfl rfl (by simp) (by first | exact (c_132 _ _ hs.1) | exact (c_132 _ _ hs.2)) rfl ?_
 refine Ea (Fg rfl) (Ed (Ec (Eb [21] rfl ?_)))
 first | refine Ey rfl ?_ ?_ | refine Fp rfl ?_ ?_ | refine Fh rfl ?_ ?_ | refine Ev rfl ?_ ?_
 intro h3
 try rw [nnp] at h3
 refine Eh (En (Ea (Ef rfl) (Ed (Ec (Eb [4] rfl (Ep (Eu (Eg rfl rfl ?_))))))))
 rotate_left
 intro h3
 try rw [nnp] at h3
 refine Fa (Ec (Eb [] rfl (Eh (En (Ea (Ef rfl) (Ed (Ec (Eb [4] rfl (Ep (Eg rfl rfl ?_))))))))))
 rotate_left
 all_goals
  cases x; cases y; simp_all
theorem c_160 (x : Dev) (hs : x.small) : CV prg 160 [.agg x.r] (fun res => res = .agg x.r) := by
 refine Fo g160 (Eb [0] rfl (Eh (En (Ea (o_box rfl rfl rfl) (Ea (o_new rfl rfl) (Ed (Ec (Eb [1, 2] rfl (Eh (En (Ea (o_new rfl rfl) ?_)))))))))))
 refine Ed (Ec (Eb [1, 2, 3] rfl (Eh (En (Ea (Ek rfl) (Ea (Eo rfl rfl rfl) ?_))))))
 first | refine Ez rfl rfl (by first | exact (c_163 _ hs.1) | exact (c_163 _ hs.2)) ?_ | refine Ew rfl rfl (by simp) (by first | exact (c_163 _ hs.1) | exact (c_163 _ hs.2)) rfl ?_
 refine Ea (Ek rfl) (Fx (o_stC rfl rfl rfl rfl rfl rfl) (Ed (Ec (Eb [1, 2, 3] rfl (Eh (En (Ea (Ek rfl) (Ea (Eo rfl rfl rfl) (Ea (Ek rfl) (Fx (o_stC rfl rfl rfl rfl rfl rfl) (Ed ?_)))))))))))
 refine Ec (Eb [1, 2, 3] rfl (Eh (En (Ea (Ek rfl) (Ea (Eo rfl rfl rfl) ?_)))))
 first | refine Ez rfl rfl (by first | exact (c_163 _ hs.1) | exact (c_163 _ hs.2)) ?_ | refine Ew rfl rfl (by simp) (by first | exact (c_163 _ hs.1) | exact (c_163 _ hs.2)) rfl ?_
 refine Ea (Ek rfl) (Fx (o_stC rfl rfl rfl rfl rfl rfl) (Ed (Ec (Eb [2, 3] rfl (Eh (En (Ea (Fm rfl rfl rfl) (Fx (o_stnC rfl rfl rfl rfl rfl rfl rfl) (Ed (Ec (Eb [2] rfl ?_)))))))))))
 refine Ep (ret_leafR rfl rfl ?_)
 rotate_left
 all_goals
  rfl
theorem c_146 (x : Dev) (left : Int) (h : -1 ≤ left ∧ left ≤ 1048576) (hw : x.wf) : CV prg 146 [.agg x.r, .w (.int .i64 left)] (fun res => res = .w (.int .i64 (room left x.sz))) := by
 refine Fo g146 (Eb [0, 1] rfl (Eh (En (Ea (o_box rfl rfl rfl) (Ea (Ef rfl) (Ed (Ec (Eb [1, 2] rfl (Eh (En (Ea (Ek rfl) ?_)))))))))))
 refine Ea (Eo rfl rfl rfl) (Ea (Ef rfl) ?_)
 first | refine Ez rfl rfl (by first | exact (c_148 _ _ (by (try unfold room at *); omega) hw.1.1) | exact (c_148 _ _ (by (try unfold room at *); omega) hw.2.2.1)) ?_ | refine Ew rfl rfl (by simp) (by first | exact (c_148 _ _ (by (try unfold room at *); omega) hw.1.1) | exact (c_148 _ _ (by (try unfold room at *); omega) hw.2.2.1)) rfl ?_
 refine Ea (Ef rfl) (Ed (Ec (Eb [1, 2] rfl (Eh (Eh (En (Ea (Ef rfl) (Ea (o_lss rfl rfl) (Ed (Ec (Eb [1, 2, 10] rfl ?_)))))))))))
 first | refine Ey rfl ?_ ?_ | refine Ev rfl ?_ ?_
 intro h1
 try rw [nnp] at h1
 refine Eh (En (Ea (Ef rfl) (Ed (Ec (Eb [4] rfl (Ep (Eu (Fc rfl rfl ?_))))))))
 rotate_left
 intro h1
 try rw [nnp] at h1
 refine Fa (Ec (Eb [1, 2] rfl (Eh (En (Ea (Ek rfl) (Ea (Eo rfl rfl rfl) (Ea (Ef rfl) ?_)))))))
 first | refine Ez rfl rfl (by first | exact (c_148 _ _ (by (try unfold room at *); omega) hw.1.1) | exact (c_148 _ _ (by (try unfold room at *); omega) hw.2.2.1)) ?_ | refine Ew rfl rfl (by simp) (by first | exact (c_148 _ _ (by (try unfold room at *); omega) hw.1.1) | exact (c_148 _ _ (by (try unfold room at *); omega) hw.2.2.1)) rfl ?_
 refine Ea (Ef rfl) (Ed (Ec (Eb [1] rfl (Eh (Eh (En (Ea (Ef rfl) (Ea (o_lss rfl rfl) (Ed (Ec (Eb [1, 16] rfl ?_)))))))))))
 first | refine Ey rfl ?_ ?_ | refine Ev rfl ?_ ?_
 intro h2
 try rw [nnp] at h2
 refine Eh (En (Ea (Ef rfl) (Ed (Ec (Eb [4] rfl (Ep (Eu (Fc rfl rfl ?_))))))))
 rotate_left
 intro h2
 try rw [nnp] at h2
 refine Fa (Ec (Eb [1] rfl (Eh (En (Ea (Ef rfl) (Ea (Ef rfl) (Ed (Ec (Eb [4] rfl (Ep (Fc rfl rfl ?_)))))))))))
 rotate_left
 all_goals
  unfold Dev.sz; (try unfold room at *); omega
theorem c_135 (x y : Model) (hs : x.small) : CV prg 135 [.agg x.r, .agg y.r] (fun res => res = .w (.bool (decide (x = y)))) := by
 refine Fo g135 (Eb [0, 1] rfl (Eh (En (Ea (o_box rfl rfl rfl) (Ea (o_box rfl rfl rfl) (Ea (Ef rfl) (Ed (Ec (Eb [2, 3] rfl (Eh (Eh ?_)))))))))))
 refine En (Ea (Ek rfl) (Ea (Eo rfl rfl rfl) (Ea (Ek rfl) (Ea (Eo rfl rfl rfl) ?_))))
 first | refine Ez rfl rfl (c_132 _ _ hs.1) ?_ | refine Ew rfl rfl (by simp) (c_132 _ _ hs.1) rfl ?_
 refine Ea (Fg rfl) (Ed (Ec (Eb [2, 3, 10] rfl ?_)))
 first | refine Ey rfl ?_ ?_ | refine Fp rfl ?_ ?_ | refine Fh rfl ?_ ?_ | refine Ev rfl ?_ ?_
 intro h1
 try rw [nnp] at h1
 refine Eh (En (Ea (Ef rfl) (Ed (Ec (Eb [4] rfl (Ep (Eu (Eg rfl rfl ?_))))))))
 rotate_left
 intro h1
 try rw [nnp] at h1
 refine Fa (Ec (Eb [2, 3] rfl (Eh (Eh (En (Ea (Ek rfl) (Ea (Fm rfl rfl rfl) (Ea (Ek rfl) (Ea (Fm rfl rfl rfl) ?_)))))))))
 first | refine Ez rfl rfl (c_129 _ _ hs.2) ?_ | refine Ew rfl rfl (by simp) (c_129 _ _ hs.2) rfl ?_
 refine Ea (Fg rfl) (Ed (Ec (Eb [16] rfl ?_)))
 first | refine Ey rfl ?_ ?_ | refine Fp rfl ?_ ?_ | refine Fh rfl ?_ ?_ | refine Ev rfl ?_ ?_
 intro h2
 try rw [nnp] at h2
 refine Eh (En (Ea (Ef rfl) (Ed (Ec (Eb [4] rfl (Ep (Eu (Eg rfl rfl ?_))))))))
 rotate_left
 intro h2
 try rw [nnp] at h2
 refine Fa (Ec (Eb [] rfl (Eh (En (Ea (Ef rfl) (Ed (Ec (Eb [4] rfl (Ep (Eg rfl rfl ?_))))))))))
 rotate_left
 all_goals
  cases x; cases y; simp_all
theorem c_166 (x : Model) (hs : x.small) : CV prg 166 [.agg x.r] (fun res => res = .agg x.r) := by
 refine Fo g166 (Eb [0] rfl (Eh (En (Ea (o_box rfl rfl rfl) (Ea (o_new rfl rfl) (Ed (Ec (Eb [1, 2] rfl (Eh (En (Ea (o_new rfl rfl) ?_)))))))))))
 refine Ed (Ec (Eb [1, 2, 3] rfl (Eh (En (Ea (Ek rfl) (Ea (Eo rfl rfl rfl) ?_))))))
 first | refine Ez rfl rfl (c_163 _ hs.1) ?_ | refine Ew rfl rfl (by simp) (c_163 _ hs.1) rfl ?_
 refine Ea (Ek rfl) (Fx (o_stC rfl rfl rfl rfl rfl rfl) (Ed (Ec (Eb [1, 2, 3] rfl (Eh (En (Ea (Ek rfl) (Ea (Fm rfl rfl rfl) ?_))))))))
 first | refine Ez rfl rfl (c_160 _ hs.2) ?_ | refine Ew rfl rfl (by simp) (c_160 _ hs.2) rfl ?_
 refine Ea (Ek rfl) (Fx (o_stnC rfl rfl rfl rfl rfl rfl rfl) (Ed (Ec (Eb [2, 3] rfl (Eh (En (Ea (Fm rfl rfl rfl) (Fx (o_stnC rfl rfl rfl rfl rfl rfl rfl) (Ed (Ec (Eb [2] rfl ?_)))))))))))
 refine Ep (ret_leafR rfl rfl ?_)
 rotate_left
 all_goals
  rfl
theorem c_150 (x : Model) (left : Int) (h : -1 ≤ left ∧ left ≤ 1048576) (hw : x.wf) : CV prg 150 [.agg x.r, .w (.int .i64 left)] (fun res => res = .w (.int .i64 (room left x.sz))) := by
 refine Fo g150 (Eb [0, 1] rfl (Eh (En (Ea (o_box rfl rfl rfl) (Ea (Ef rfl) (Ed (Ec (Eb [1, 2] rfl (Eh (En (Ea (Ek rfl) ?_)))))))))))
 refine Ea (Eo rfl rfl rfl) (Ea (Ef rfl) ?_)
 first | refine Ez rfl rfl (c_148 _ _ (by (try unfold room at *); omega) hw.1.1) ?_ | refine Ew rfl rfl (by simp) (c_148 _ _ (by (try unfold room at *); omega) hw.1.1) rfl ?_
 refine Ea (Ef rfl) (Ed (Ec (Eb [1, 2] rfl (Eh (Eh (En (Ea (Ef rfl) (Ea (o_lss rfl rfl) (Ed (Ec (Eb [1, 2, 10] rfl ?_)))))))))))
 first | refine Ey rfl ?_ ?_ | refine Ev rfl ?_ ?_
 intro h1
 try rw [nnp] at h1
 refine Eh (En (Ea (Ef rfl) (Ed (Ec (Eb [4] rfl (Ep (Eu (Fc rfl rfl ?_))))))))
 rotate_left
 intro h1
 try rw [nnp] at h1
 refine Fa (Ec (Eb [1, 2] rfl (Eh (En (Ea (Ek rfl) (Ea (Fm rfl rfl rfl) (Ea (Ef rfl) ?_)))))))
 first | refine Ez rfl rfl (c_146 _ _ (by (try unfold room at *); omega) hw.2) ?_ | refine Ew rfl rfl (by simp) (c_146 _ _ (by (try unfold room at *); omega) hw.2) rfl ?_
 refine Ea (Ef rfl) (Ed (Ec (Eb [1] rfl (Eh (Eh (En (Ea (Ef rfl) (Ea (o_lss rfl rfl) (Ed (Ec (Eb [1, 16] rfl ?_)))))))))))
 first | refine Ey rfl ?_ ?_ | refine Ev rfl ?_ ?_
 intro h2
 try rw [nnp] at h2
 refine Eh (En (Ea (Ef rfl) (Ed (Ec (Eb [4] rfl (Ep (Eu (Fc rfl rfl ?_))))))))
 rotate_left
 intro h2
 try rw [nnp] at h2
 refine Fa (Ec (Eb [1] rfl (Eh (En (Ea (Ef rfl) (Ea (Ef rfl) (Ed (Ec (Eb [4] rfl (Ep (Fc rfl rfl ?_)))))))))))
 rotate_left
 all_goals
  unfold Model.sz; (try unfold room at *); omega
theorem c_137 (xs ys : List Mst) (hl : xs.length ≤ 1048576) (hx : ∀ y, y ∈ xs → Mst.small y) : CV prg 137 [.sl 6 (xs.map Mst.r), .sl 6 (ys.map Mst.r)] (fun res => res = .w (.bool (decide (xs = ys)))) := by
 refine Fo g137 (Eb [0, 1] rfl (Eh (En (Ea (Ef rfl) (Ed (Ec (Eb [0, 1] rfl (Eh (Eh (En (Ea (Ef rfl) ?_)))))))))))
 first | refine Ea (Fk rfl) ?_ | refine Ea (Fu rfl) ?_
 refine Ea (Ef rfl) ?_
 first | refine Ea (Fk rfl) ?_ | refine Ea (Fu rfl) ?_
 refine Ea (o_neq rfl rfl) (Ed (Ec (Eb [0, 1, 10] rfl ?_)))
 first | refine Ey rfl ?_ ?_ | refine Ev rfl ?_ ?_
 intro h1
 try rw [nnp] at h1
 refine Eh (En (Ea (Ef rfl) (Ed (Ec (Eb [4] rfl (Ep (Eu (Eg rfl rfl ?_))))))))
 rotate_left
 intro h1
 try rw [nnp] at h1
 refine Fa (Ec (Eb [0, 1] rfl (Eh (Eh (En (Ea (Ef rfl) (Ed (Ec (Eb [0, 1, 5] rfl (Fj (S_loop0 (ι := Nat) (fun i => i ≤ xs.length ∧ xs.take i = ys.take i ∧ xs.length = ys.length) (fun i => [(5, .w (.int .i64 (i : Int)))]) (fun i => xs.length - i) 0 ⟨by simp, by simp, by omega⟩ rfl ⟨rfl, trivial⟩ (fun _ _ => rfl) rfl ?_)))))))))))
 intro i hi
 refine Eb [0, 1, 5] rfl (Eh (Eh (En (Ea (Ef rfl) (Ea (Ef rfl) ?_)))))
 first | refine Ea (Fk rfl) ?_ | refine Ea (Fu rfl) ?_
 refine Ea (o_lss rfl rfl) (Ed (Ec (Eb [0, 1, 5, 14] rfl ?_)))
 first | refine Ey rfl ?_ ?_ | refine Ev rfl ?_ ?_
 intro h2
 try rw [nnp] at h2
 refine Fa (Ec (Eb [0, 1, 5] rfl (Eh (Fj (Eh (En (Ea (Ef rfl) (Ea (Ef rfl) (s_iaM rfl rfl (by omega) ?_)))))))))
 intro y3 e3
 try simp only [Int.toNat_natCast, Int.toNat_zero] at e3
 refine Ea (o_ldn rfl rfl) (Ea (Ef rfl) (Ea (Ef rfl) (s_iaM rfl rfl (by omega) ?_)))
 intro y4 e4
 try simp only [Int.toNat_natCast, Int.toNat_zero] at e4
 refine Ea (o_ldn rfl rfl) ?_
 first | refine Ez rfl rfl (c_136 _ _ (hx _ (List.mem_of_getElem? (by assumption)))) ?_ | refine Ew rfl rfl (by simp) (c_136 _ _ (hx _ (List.mem_of_getElem? (by assumption)))) rfl ?_
 refine Ea (Fg rfl) (Ed (Ec (Eb [0, 1, 5, 26] rfl ?_)))
 first | refine Ey rfl ?_ ?_ | refine Fp rfl ?_ ?_ | refine Fh rfl ?_ ?_ | refine Ev rfl ?_ ?_
 intro h5
 try rw [nnp] at h5
 refine Eh (En (Ea (Ef rfl) (Ed (Ec (Eb [4] rfl (Ep (Fd (Eu (Fw (Fd (Eu ?_)))))))))))
 refine Eg rfl rfl ?_
 rotate_left
 intro h5
 try rw [nnp] at h5
 refine Fa (q_blkN (Ec (Eb [0, 1, 5] rfl (En (Ea (Ef rfl) ?_)))))
 first | refine Ea (Fs rfl rfl (by omega)) ?_ | refine Ea (o_add rfl rfl) ?_
 refine Ea (Ef rfl) (Ed (q_loopN ?_))
 · refine ⟨i + 1, ⟨by omega, eq_take (by assumption) (by assumption) hi.2.1 ?_, hi.2.2⟩, by omega, hasOf ⟨rfl, trivial⟩ rfl⟩
   assumption
 intro h2
 try rw [nnp] at h2
 refine s_exit (q_seqX (q_loopX (q_blkH (Ec (Eb [] rfl (Eh (En (Ea (Ef rfl) (Ed (Ec (Eb [4] rfl ?_)))))))))))
 refine Ep (Eg rfl rfl ?_)
 rotate_left
 all_goals
  first | exact (decide_eq_false (ne_at (by assumption) (by assumption) (by assumption))).symm | exact (decide_eq_true (eq_end hi.2.1 (by omega) hi.2.2)).symm | exact (decide_eq_false (fun e => by subst e; simp_all)).symm
theorem c_168 (xs : List Mst) (hl : xs.length ≤ 1048576) (hx : ∀ y, y ∈ xs → Mst.small y) : CV prg 168 [.sl 6 (xs.map Mst.r)] (fun res => res = .sl 6 (xs.map Mst.r)) := by
 refine Fo g168 (Eb [0] rfl (Eh (En (Ea (Ef rfl) (Ed (Ec (Eb [0] rfl (Eh (En (Ea (Ef rfl) ?_))))))))))
 first | refine Ea (Fk rfl) ?_ | refine Ea (Fu rfl) ?_
 refine Ea (o_mk rfl rfl rfl rfl ⟨by omega, by unfold roomy; omega, by unfold roomy; omega⟩ rfl) (Ea (Ef rfl) (Ed (Ec (Eb [0, 3] rfl (Eh (Eh (En (Ea (Ef rfl) (Ed (Ec (Eb [0, 3, 4] rfl ?_)))))))))))
 refine Fj (S_loop (ι := Nat) (fun i => i ≤ xs.length) (fun i => [(4, .w (.int .i64 (i : Int)))]) (fun i => [.arr 6 (tabV Mst.r [.w (.slice none 0 0), .w (.int .i64 0), .w (.int .i64 0), .w (.int .i64 0), .w (.bool false), .w (.bool false)] xs i)]) (fun i => xs.length - i) 1 0 (by simp) rfl (hasOf ⟨rfl, trivial⟩ (by rw [tabV_zero]; rfl)) rfl (fun _ _ => rfl) (fun _ _ => ⟨rfl, rfl⟩) ?_)
 intro i hi
 refine Eb [0, 3, 4] rfl (Eh (Eh (En (Ea (Ef rfl) (Ea (Ef rfl) ?_)))))
 first | refine Ea (Fk rfl) ?_ | refine Ea (Fu rfl) ?_
 refine Ea (o_lss rfl rfl) (Ed (Ec (Eb [0, 3, 4, 11] rfl ?_)))
 first | refine Ey rfl ?_ ?_ | refine Ev rfl ?_ ?_
 intro h1
 try rw [nnp] at h1
 refine Fa (Ec (Eb [0, 3, 4] rfl (Eh (Fj (En (Ea (Ef rfl) (Ea (Ef rfl) (Ea (Ef rfl) (Ea (Ef rfl) (s_iaM rfl rfl (by first | omega | (rw [List.length_replicate]; omega)) ?_))))))))))
 intro y2 e2
 try simp only [Int.toNat_natCast, Int.toNat_zero] at e2
 refine Ea (o_ldn rfl rfl) ?_
 first | refine Ez rfl rfl (c_167 _ (hx _ (List.mem_of_getElem? (by assumption)))) ?_ | refine Ew rfl rfl (by simp) (c_167 _ (hx _ (List.mem_of_getElem? (by assumption)))) rfl ?_
 refine Ea (o_iaL rfl rfl (by rw [tabV_len _ _ _ _ (by omega), List.length_replicate]; rfl) rfl (by first | omega | (rw [List.length_replicate]; omega))) (Fx (o_stnA rfl rfl rfl rfl rfl (by rw [tabV_len _ _ _ _ (by omega), List.length_replicate]; rfl) (by rw [Int.toNat_natCast]; exact tabV_at _ _ (by omega)) rfl rfl) (Ed (q_blkN (Ec (Eb [0, 3, 4] rfl (En (Ea (Ef rfl) ?_)))))))
 first | refine Ea (Fs rfl rfl (by omega)) ?_ | refine Ea (o_add rfl rfl) ?_
 refine Ea (Ef rfl) (Ed (q_loopN ?_))
 · refine ⟨i + 1, by omega, by omega, hasOf ⟨rfl, trivial⟩ ?_⟩
   rw [← tabV_set Mst.r [.w (.slice none 0 0), .w (.int .i64 0), .w (.int .i64 0), .w (.int .i64 0), .w (.bool false), .w (.bool false)] (by assumption)]; rfl
 intro h1
 try rw [nnp] at h1
 refine s_exit (q_seqX (q_loopX (q_blkH (Ec (Eb [3] rfl (Eh (En (Ea (Ef rfl) (Ea (Ef rfl) (Ed (Ec ?_)))))))))))
 refine Eb [2] rfl (Ep (ret_leafA (.inr rfl) rfl rfl (by rw [tabV_len _ _ _ _ (by omega), List.length_replicate]; rfl) ?_))
 rotate_left
 all_goals
  rw [tabV_end _ _ _ (by omega)]
theorem c_152 (xs : List Mst) (left : Int) (h : -1 ≤ left ∧ left ≤ 1048576) (hl : xs.length ≤ 140737488355328) (hw : ∀ y, y ∈ xs → Mst.wf y) : CV prg 152 [.sl 6 (xs.map Mst.r), .w (.int .i64 left)] (fun res => res = .w (.int .i64 (room left (xs.length + sumL Mst.sz xs)))) := by
 refine Fo g152 (Eb [0, 1] rfl (Eh (En (Ea (Ef rfl) (Ed (Ec (Eb [0, 1] rfl (Eh (En (Ea (Ef rfl) (Ea (Ef rfl) ?_)))))))))))
 first | refine Ea (Fk rfl) ?_ | refine Ea (Fu rfl) ?_
 first | refine Ea (o_subn rfl rfl (by omega)) ?_ | refine Ea (o_sub rfl rfl) ?_
 refine Ea (Ef rfl) (Ed (Ec (Eb [0, 1] rfl (Eh (Eh (En (Ea (Ef rfl) (Ea (o_lss rfl rfl) (Ed (Ec (Eb [0, 1, 11] rfl ?_)))))))))))
 first | refine Ey rfl ?_ ?_ | refine Ev rfl ?_ ?_
 intro h1
 try rw [nnp] at h1
 refine Eh (En (Ea (Ef rfl) (Ed (Ec (Eb [4] rfl (Ep (Eu (Fc rfl rfl ?_))))))))
 rotate_left
 intro h1
 try rw [nnp] at h1
 refine Fa (Ec (Eb [0, 1] rfl (Eh (Eh (En (Ea (Ef rfl) (Ed (Ec (Eb [0, 1, 5] rfl (Fj (S_loop0 (ι := Nat) (fun i => i ≤ xs.length ∧ 0 ≤ left - xs.length - sumL Mst.sz (xs.take i)) (fun i => [(5, .w (.int .i64 (i : Int))), (1, .w (.int .i64 (left - xs.length - sumL Mst.sz (xs.take i))))]) (fun i => xs.length - i) 0 ⟨by simp, by simp [sumL]; omega⟩ rfl ⟨rfl, by simp [sumL, look]; rfl, trivial⟩ (fun _ _ => rfl) rfl ?_)))))))))))
 intro i hi
 have hsl := sumL_le Mst.sz xs i
 refine Eb [0, 1, 5] rfl (Eh (Eh (En (Ea (Ef rfl) (Ea (Ef rfl) ?_)))))
 first | refine Ea (Fk rfl) ?_ | refine Ea (Fu rfl) ?_
 refine Ea (o_lss rfl rfl) (Ed (Ec (Eb [0, 1, 5, 15] rfl ?_)))
 first | refine Ey rfl ?_ ?_ | refine Ev rfl ?_ ?_
 intro h2
 try rw [nnp] at h2
 refine Fa (Ec (Eb [0, 1, 5] rfl (Eh (Fj (Eh (En (Ea (Ef rfl) (Ea (Ef rfl) (s_iaM rfl rfl (by simp at *; omega) ?_)))))))))
 intro y3 e3
 try simp only [Int.toNat_natCast, Int.toNat_zero] at e3
 refine Ea (o_ldn rfl rfl) (Ea (Ef rfl) ?_)
 first | refine Ez rfl rfl (c_151 _ _ (by omega) (hw _ (List.mem_of_getElem? (by assumption)))) ?_ | refine Ew rfl rfl (by simp) (c_151 _ _ (by omega) (hw _ (List.mem_of_getElem? (by assumption)))) rfl ?_
 refine Ea (Ef rfl) (Ed (Ec (Eb [0, 1, 5] rfl (Eh (En (Ea (Ef rfl) (Ea (o_lss rfl rfl) (Ed (Ec (Eb [0, 1, 5, 25] rfl ?_))))))))))
 first | refine Ey rfl ?_ ?_ | refine Ev rfl ?_ ?_
 intro h4
 try rw [nnp] at h4
 refine Eh (En (Ea (Ef rfl) (Ed (Ec (Eb [4] rfl (Ep (Fd (Eu (Fw (Fd (Eu ?_)))))))))))
 refine Fc rfl rfl ?_
 rotate_left
 intro h4
 try rw [nnp] at h4
 refine Fa (q_blkN (Ec (Eb [0, 1, 5] rfl (En (Ea (Ef rfl) ?_)))))
 first | refine Ea (Fs rfl rfl (by omega)) ?_ | refine Ea (o_add rfl rfl) ?_
 refine Ea (Ef rfl) (Ed (q_loopN ?_))
 · have hst := sumL_take Mst.sz (by assumption : xs[i]? = some _)
   refine ⟨i + 1, ⟨by omega, by (try unfold room at *); omega⟩, by omega, hasOf ⟨rfl, ?_, trivial⟩ rfl⟩
   refine congrArg (fun b => some (V.w (.int .i64 b))) ?_
   (try unfold room at *); omega
 intro h2
 try rw [nnp] at h2
 refine s_exit (q_seqX (q_loopX (q_blkH (Ec (Eb [1] rfl (Eh (En (Ea (Ef rfl) (Ea (Ef rfl) (Ed (Ec ?_)))))))))))
 refine Eb [4] rfl (Ep (Fc rfl rfl ?_))
 rotate_left
 all_goals
  first | ((try unfold room); omega) | (have hst := sumL_take Mst.sz (by assumption : xs[i]? = some _); have hs2 := sumL_le Mst.sz xs (i + 1); (try unfold room at *); omega) | (rw [sumL_end _ (by omega)] at *; (try unfold room); omega)
def Bus.small (x : Bus) : Prop := x.conf.small ∧ x.ms.length ≤ 1048576 ∧ (∀ y, y ∈ x.ms → Mst.small y) ∧ x.buckets.length ≤ 1048576 ∧ x.splits.length ≤ 1048576 ∧ x.model.small ∧ x.log.length ≤ 1048576
def Bus.sz (x : Bus) : Nat := x.conf.sz + x.ms.length + sumL Mst.sz x.ms + x.buckets.length + x.splits.length + x.model.sz + x.log.length
theorem Bus.small_of {x : Bus} (h : x.sz ≤ 1048576) : x.small := ⟨Conf.small_of (by unfold Bus.sz at h; omega), by unfold Bus.sz at h; omega, fun y hy => Mst.small_of (by have := sumL_mem Mst.sz hy; unfold Bus.sz at h; omega), by unfold Bus.sz at h; omega, by unfold Bus.sz at h; omega, Model.small_of (by unfold Bus.sz at h; omega), by unfold Bus.sz at h; omega⟩
theorem c_127 (x y : Bus) (hs : x.small) : CV prg 127 [.agg x.r, .agg y.r] (fun res => res = .w (.bool (decide (x = y)))) := by
 refine Fo g127 (Eb [0, 1] rfl (Eh (En (Ea (o_box rfl rfl rfl) (Ea (o_box rfl rfl rfl) (Ea (Ef rfl) (Ed (Ec (Eb [2, 3] rfl (Eh (Eh ?_)))))))))))
 refine En (Ea (Ek rfl) (Ea (Fm rfl rfl rfl) (Ea (Ek rfl) (Ea (Fm rfl rfl rfl) ?_))))
 first | refine Ez rfl rfl (c_128 _ _ hs.1) ?_ | refine Ew rfl rfl (by simp) (c_128 _ _ hs.1) rfl ?_
 refine Ea (Fg rfl) (Ed (Ec (Eb [2, 3, 10] rfl ?_)))
 first | refine Ey rfl ?_ ?_ | refine Fp rfl ?_ ?_ | refine Fh rfl ?_ ?_ | refine Ev rfl ?_ ?_
 intro h1
 try rw [nnp] at h1
 refine Eh (En (Ea (Ef rfl) (Ed (Ec (Eb [4] rfl (Ep (Eu (Eg rfl rfl ?_))))))))
 rotate_left
 intro h1
 try rw [nnp] at h1
 refine Fa (Ec (Eb [2, 3] rfl (Eh (Eh (En (Ea (Ek rfl) (Ea (Eo rfl rfl rfl) (Ea (Ek rfl) (Ea (Eo rfl rfl rfl) (Ea (o_neq rfl rfl) (Ed ?_)))))))))))
 refine Ec (Eb [2, 3, 15] rfl ?_)
 first | refine Ey rfl ?_ ?_ | refine Ev rfl ?_ ?_
 intro h2
 try rw [nnp] at h2
 refine Eh (En (Ea (Ef rfl) (Ed (Ec (Eb [4] rfl (Ep (Eu (Eg rfl rfl ?_))))))))
 rotate_left
 intro h2
 try rw [nnp] at h2
 refine Fa (Ec (Eb [2, 3] rfl (Eh (Eh (En (Ea (Ek rfl) (Ea (Eo rfl rfl rfl) (Ea (Ek rfl) (Ea (Eo rfl rfl rfl) ?_)))))))))
 first | refine Ez rfl rfl (c_137 _ _ hs.2.1 hs.2.2.1) ?_ | refine Ew rfl rfl (by simp) (c_137 _ _ hs.2.1 hs.2.2.1) rfl ?_
 refine Ea (Fg rfl) (Ed (Ec (Eb [2, 3, 21] rfl ?_)))
 first | refine Ey rfl ?_ ?_ | refine Fp rfl ?_ ?_ | refine Fh rfl ?_ ?_ | refine Ev rfl ?_ ?_
 intro h3
 try rw [nnp] at h3
 refine Eh (En (Ea (Ef rfl) (Ed (Ec (Eb [4] rfl (Ep (Eu (Eg rfl rfl ?_))))))))
 rotate_left
 intro h3
 try rw [nnp] at h3
 refine Fa (Ec (Eb [2, 3] rfl (Eh (Eh (En (Ea (Ek rfl) (Ea (Fm rfl rfl rfl) (Ea (Ek rfl) (Ea (Fm rfl rfl rfl) ?_)))))))))
 first | refine Ez rfl rfl (c_140 _ _) ?_ | refine Ew rfl rfl (by simp) (c_140 _ _) rfl ?_
 refine Ea (Fg rfl) (Ed (Ec (Eb [2, 3, 27] rfl ?_)))
 first | refine Ey rfl ?_ ?_ | refine Fp rfl ?_ ?_ | refine Fh rfl ?_ ?_ | refine Ev rfl ?_ ?_
 intro h4
 try rw [nnp] at h4
 refine Eh (En (Ea (Ef rfl) (Ed (Ec (Eb [4] rfl (Ep (Eu (Eg rfl rfl ?_))))))))
 rotate_left
 intro h4
 try rw [nnp] at h4
 refine Fa (Ec (Eb [2, 3] rfl (Eh (Eh (En (Ea (Ek rfl) (Ea (Eo rfl rfl rfl) (Ea (Ek rfl) (Ea (Eo rfl rfl rfl) ?_)))))))))
 first | refine Ez rfl rfl (c_126 _ _ hs.2.2.2.1) ?_ | refine Ew rfl rfl (by simp) (c_126 _ _ hs.2.2.2.1) rfl ?_
 refine Ea (Fg rfl) (Ed (Ec (Eb [2, 3, 33] rfl ?_)))
 first | refine Ey rfl ?_ ?_ | refine Fp rfl ?_ ?_ | refine Fh rfl ?_ ?_ | refine Ev rfl ?_ ?_
 intro h5
 try rw [nnp] at h5
 refine Eh (En (Ea (Ef rfl) (Ed (Ec (Eb [4] rfl (Ep (Eu (Eg rfl rfl ?_))))))))
 rotate_left
 intro h5
 try rw [nnp] at h5
 refine Fa (Ec (Eb [2, 3] rfl (Eh (Eh (En (Ea (Ek rfl) (Ea (Eo rfl rfl rfl) (Ea (Ek rfl) (Ea (Eo rfl rfl rfl) ?_)))))))))
 first | refine Ez rfl rfl (c_132 _ _ hs.2.2.2.2.1) ?_ | refine Ew rfl rfl (by simp) (c_132 _ _ hs.2.2.2.2.1) rfl ?_
 refine Ea (Fg rfl) (Ed (Ec (Eb [2, 3, 39] rfl ?_)))
 first | refine Ey rfl ?_ ?_ | refine Fp rfl ?_ ?_ | refine Fh rfl ?_ ?_ | refine Ev rfl ?_ ?_
 intro h6
 try rw [nnp] at h6
 refine Eh (En (Ea (Ef rfl) (Ed (Ec (Eb [4] rfl (Ep (Eu (Eg rfl rfl ?_))))))))
 rotate_left
 intro h6
 try rw [nnp] at h6
 refine Fa (Ec (Eb [2, 3] rfl (Eh (Eh (En (Ea (Ek rfl) (Ea (Eo rfl rfl rfl) (Ea (Ek rfl) (Ea (Eo rfl rfl rfl) (Ea (o_neq rfl rfl) (Ed ?_)))))))))))
 refine Ec (Eb [2, 3, 44] rfl ?_)
 first | refine Ey rfl ?_ ?_ | refine Ev rfl ?_ ?_
 intro h7
 try rw [nnp] at h7
 refine Eh (En (Ea (Ef rfl) (Ed (Ec (Eb [4] rfl (Ep (Eu (Eg rfl rfl ?_))))))))
 rotate_left
 intro h7
 try rw [nnp] at h7
 refine Fa (Ec (Eb [2, 3] rfl (Eh (Eh (En (Ea (Ek rfl) (Ea (Eo rfl rfl rfl) (Ea (Ek rfl) (Ea (Eo rfl rfl rfl) (Ea (o_neq rfl rfl) (Ed ?_)))))))))))
 refine Ec (Eb [2, 3, 49] rfl ?_)
 first | refine Ey rfl ?_ ?_ | refine Ev rfl ?_ ?_
 intro h8
 try rw [nnp] at h8
 refine Eh (En (Ea (Ef rfl) (Ed (Ec (Eb [4] rfl (Ep (Eu (Eg rfl rfl ?_))))))))
 rotate_left
 intro h8
 try rw [nnp] at h8
 refine Fa (Ec (Eb [2, 3] rfl (Eh (Eh (En (Ea (Ek rfl) (Ea (Eo rfl rfl rfl) (Ea (Ek rfl) (Ea (Eo rfl rfl rfl) (Ea (o_neq rfl rfl) (Ed ?_)))))))))))
 refine Ec (Eb [2, 3, 54] rfl ?_)
 first | refine Ey rfl ?_ ?_ | refine Ev rfl ?_ ?_
 intro h9
 try rw [nnp] at h9
 refine Eh (En (Ea (Ef rfl) (Ed (Ec (Eb [4] rfl (Ep (Eu (Eg rfl rfl ?_))))))))
 rotate_left
 intro h9
 try rw [nnp] at h9
 refine Fa (Ec (Eb [2, 3] rfl (Eh (Eh (En (Ea (Ek rfl) (Ea (Fm rfl rfl rfl) (Ea (Ek rfl) (Ea (Fm rfl rfl rfl) ?_)))))))))
 first | refine Ez rfl rfl (c_124 _ _) ?_ | refine Ew rfl rfl (by simp) (c_124 _ _) rfl ?_
 refine Ea (Fg rfl) (Ed (Ec (Eb [2, 3, 60] rfl ?_)))
 first | refine Ey rfl ?_ ?_ | refine Fp rfl ?_ ?_ | refine Fh rfl ?_ ?_ | refine Ev rfl ?_ ?_
 intro h10
 try rw [nnp] at h10
 refine Eh (En (Ea (Ef rfl) (Ed (Ec (Eb [4] rfl (Ep (Eu (Eg rfl rfl ?_))))))))
 rotate_left
 intro h10
 try rw [nnp] at h10
 refine Fa (Ec (Eb [2, 3] rfl (Eh (Eh (En (Ea (Ek rfl) (Ea (Fm rfl rfl rfl) (Ea (Ek rfl) (Ea (Fm rfl rfl rfl) ?_)))))))))
 first | refine Ez rfl rfl (c_124 _ _) ?_ | refine Ew rfl rfl (by simp) (c_124 _ _) rfl ?_
 refine Ea (Fg rfl) (Ed (Ec (Eb [2, 3, 66] rfl ?_)))
 first | refine Ey rfl ?_ ?_ | refine Fp rfl ?_ ?_ | refine Fh rfl ?_ ?_ | refine Ev rfl ?_ ?_
 intro h11
 try rw [nnp] at h11
 refine Eh (En (Ea (Ef rfl) (Ed (Ec (Eb [4] rfl (Ep (Eu (Eg rfl rfl ?_))))))))
 rotate_left
 intro h11
 try rw [nnp] at h11
 refine Fa (Ec (Eb [2, 3] rfl (Eh (Eh (En (Ea (Ek rfl) (Ea (Fm rfl rfl rfl) (Ea (Ek rfl) (Ea (Fm rfl rfl rfl) ?_)))))))))
 first | refine Ez rfl rfl (c_135 _ _ hs.2.2.2.2.2.1) ?_ | refine Ew rfl rfl (by simp) (c_135 _ _ hs.2.2.2.2.2.1) rfl ?_
 refine Ea (Fg rfl) (Ed (Ec (Eb [2, 3, 72] rfl ?_)))
 first | refine Ey rfl ?_ ?_ | refine Fp rfl ?_ ?_ | refine Fh rfl ?_ ?_ | refine Ev rfl ?_ ?_
 intro h12
 try rw [nnp] at h12
 refine Eh (En (Ea (Ef rfl) (Ed (Ec (Eb [4] rfl (Ep (Eu (Eg rfl rfl ?_))))))))
 rotate_left
 intro h12
 try rw [nnp] at h12
 refine Fa (Ec (Eb [2, 3] rfl (Eh (Eh (En (Ea (Ek rfl) (Ea (Eo rfl rfl rfl) (Ea (Ek rfl) (Ea (Eo rfl rfl rfl) (Ea (o_neq rfl rfl) (Ed ?_)))))))))))
 refine Ec (Eb [2, 3, 77] rfl ?_)
 first | refine Ey rfl ?_ ?_ | refine Ev rfl ?_ ?_
 intro h13
 try rw [nnp] at h13
 refine Eh (En (Ea (Ef rfl) (Ed (Ec (Eb [4] rfl (Ep (Eu (Eg rfl rfl ?_))))))))
 rotate_left
 intro h13
 try rw [nnp] at h13
 refine Fa (Ec (Eb [2, 3] rfl (Eh (Eh (En (Ea (Ek rfl) (Ea (Eo rfl rfl rfl) (Ea (Ek rfl) (Ea (Eo rfl rfl rfl) ?_)))))))))
 first | refine Ez rfl rfl (c_131 _ _ hs.2.2.2.2.2.2) ?_ | refine Ew rfl rfl (by simp) (c_131 _ _ hs.2.2.2.2.2.2) rfl ?_
 refine Ea (Fg rfl) (Ed (Ec (Eb [83] rfl ?_)))
 first | refine Ey rfl ?_ ?_ | refine Fp rfl ?_ ?_ | refine Fh rfl ?_ ?_ | refine Ev rfl ?_ ?_
 intro h14
 try rw [nnp] at h14
 refine Eh (En (Ea (Ef rfl) (Ed (Ec (Eb [4] rfl (Ep (Eu (Eg rfl rfl ?_))))))))
 rotate_left
 intro h14
 try rw [nnp] at h14
 refine Fa (Ec (Eb [] rfl (Eh (En (Ea (Ef rfl) (Ed (Ec (Eb [4] rfl (Ep (Eg rfl rfl ?_))))))))))
 rotate_left
 all_goals
  cases x; cases y; simp_all
theorem c_158 (x : Bus) (hs : x.small) : CV prg 158 [.agg x.r] (fun res => res = .agg x.r) := by
 refine Fo g158 (Eb [0] rfl (Eh (En (Ea (o_box rfl rfl rfl) (Ea (o_new rfl rfl) (Ed (Ec (Eb [1, 2] rfl (Eh (En (Ea (o_new rfl rfl) ?_)))))))))))
 refine Ed (Ec (Eb [1, 2, 3] rfl (Eh (En (Ea (Ek rfl) (Ea (Fm rfl rfl rfl) ?_))))))
 first | refine Ez rfl rfl (c_159 _ hs.1) ?_ | refine Ew rfl rfl (by simp) (c_159 _ hs.1) rfl ?_
 refine Ea (Ek rfl) (Fx (o_stnC rfl rfl rfl rfl rfl rfl rfl) (Ed (Ec (Eb [1, 2, 3] rfl (Eh (En (Ea (Ek rfl) (Ea (Eo rfl rfl rfl) (Ea (Ek rfl) (Fx (o_stC rfl rfl rfl rfl rfl rfl) (Ed ?_)))))))))))
 refine Ec (Eb [1, 2, 3] rfl (Eh (En (Ea (Ek rfl) (Ea (Eo rfl rfl rfl) ?_)))))
 first | refine Ez rfl rfl (c_168 _ hs.2.1 hs.2.2.1) ?_ | refine Ew rfl rfl (by simp) (c_168 _ hs.2.1 hs.2.2.1) rfl ?_
 refine Ea (Ek rfl) (Fx (o_stC rfl rfl rfl rfl rfl rfl) (Ed (Ec (Eb [1, 2, 3] rfl (Eh (En (Ea (Ek rfl) (Ea (Fm rfl rfl rfl) ?_))))))))
 first | refine Ez rfl rfl (c_171 _) ?_ | refine Ew rfl rfl (by simp) (c_171 _) rfl ?_
 refine Ea (Ek rfl) (Fx (o_stnC rfl rfl rfl rfl rfl rfl rfl) (Ed (Ec (Eb [1, 2, 3] rfl (Eh (En (Ea (Ek rfl) (Ea (Eo rfl rfl rfl) ?_))))))))
 first | refine Ez rfl rfl (c_157 _ hs.2.2.2.1) ?_ | refine Ew rfl rfl (by simp) (c_157 _ hs.2.2.2.1) rfl ?_
 refine Ea (Ek rfl) (Fx (o_stC rfl rfl rfl rfl rfl rfl) (Ed (Ec (Eb [1, 2, 3] rfl (Eh (En (Ea (Ek rfl) (Ea (Eo rfl rfl rfl) ?_))))))))
 first | refine Ez rfl rfl (c_163 _ hs.2.2.2.2.1) ?_ | refine Ew rfl rfl (by simp) (c_163 _ hs.2.2.2.2.1) rfl ?_
 refine Ea (Ek rfl) (Fx (o_stC rfl rfl rfl rfl rfl rfl) (Ed (Ec (Eb [1, 2, 3] rfl (Eh (En (Ea (Ek rfl) (Ea (Eo rfl rfl rfl) (Ea (Ek rfl) (Fx (o_stC rfl rfl rfl rfl rfl rfl) (Ed ?_)))))))))))
 refine Ec (Eb [1, 2, 3] rfl (Eh (En (Ea (Ek rfl) (Ea (Eo rfl rfl rfl) (Ea (Ek rfl) (Fx (o_stC rfl rfl rfl rfl rfl rfl) (Ed (Ec (Eb [1, 2, 3] rfl (Eh ?_)))))))))))
 refine En (Ea (Ek rfl) (Ea (Eo rfl rfl rfl) (Ea (Ek rfl) (Fx (o_stC rfl rfl rfl rfl rfl rfl) (Ed (Ec (Eb [1, 2, 3] rfl (Eh (En (Ea (Ek rfl) (Ea (Fm rfl rfl rfl) ?_)))))))))))
 first | refine Ez rfl rfl (c_155 _) ?_ | refine Ew rfl rfl (by simp) (c_155 _) rfl ?_
 refine Ea (Ek rfl) (Fx (o_stnC rfl rfl rfl rfl rfl rfl rfl) (Ed (Ec (Eb [1, 2, 3] rfl (Eh (En (Ea (Ek rfl) (Ea (Fm rfl rfl rfl) ?_))))))))
 first | refine Ez rfl rfl (c_155 _) ?_ | refine Ew rfl rfl (by simp) (c_155 _) rfl ?_
 refine Ea (Ek rfl) (Fx (o_stnC rfl rfl rfl rfl rfl rfl rfl) (Ed (Ec (Eb [1, 2, 3] rfl (Eh (En (Ea (Ek rfl) (Ea (Fm rfl rfl rfl) ?_))))))))
 first | refine Ez rfl rfl (c_166 _ hs.2.2.2.2.2.1) ?_ | refine Ew rfl rfl (by simp) (c_166 _ hs.2.2.2.2.2.1) rfl ?_
 refine Ea (Ek rfl) (Fx (o_stnC rfl rfl rfl rfl rfl rfl rfl) (Ed (Ec (Eb [1, 2, 3] rfl (Eh (En (Ea (Ek rfl) (Ea (Eo rfl rfl rfl) (Ea (Ek rfl) (Fx (o_stC rfl rfl rfl rfl rfl rfl) (Ed ?_)))))))))))
 refine Ec (Eb [1, 2, 3] rfl (Eh (En (Ea (Ek rfl) (Ea (Eo rfl rfl rfl) ?_)))))
 first | refine Ez rfl rfl (c_162 _ hs.2.2.2.2.2.2) ?_ | refine Ew rfl rfl (by simp) (c_162 _ hs.2.2.2.2.2.2) rfl ?_
 refine Ea (Ek rfl) (Fx (o_stC rfl rfl rfl rfl rfl rfl) (Ed (Ec (Eb [2, 3] rfl (Eh (En (Ea (Fm rfl rfl rfl) (Fx (o_stnC rfl rfl rfl rfl rfl rfl rfl) (Ed (Ec (Eb [2] rfl ?_)))))))))))
 refine Ep (ret_leafR rfl rfl ?_)
 rotate_left
 all_goals
  rfl
theorem c_144 (x : Bus) (left : Int) (h : -1 ≤ left ∧ left ≤ 1048576) (hw : x.wf) : CV prg 144 [.agg x.r, .w (.int .i64 left)] (fun res => res = .w (.int .i64 (room left x.sz))) := by
 refine Fo g144 (Eb [0, 1] rfl (Eh (En (Ea (o_box rfl rfl rfl) (Ea (Ef rfl) (Ed (Ec (Eb [1, 2] rfl (Eh (En (Ea (Ek rfl) ?_)))))))))))
 refine Ea (Fm rfl rfl rfl) (Ea (Ef rfl) ?_)
 first | refine Ez rfl rfl (c_145 _ _ (by (try unfold room at *); omega) hw.1) ?_ | refine Ew rfl rfl (by simp) (c_145 _ _ (by (try unfold room at *); omega) hw.1) rfl ?_
 refine Ea (Ef rfl) (Ed (Ec (Eb [1, 2] rfl (Eh (Eh (En (Ea (Ef rfl) (Ea (o_lss rfl rfl) (Ed (Ec (Eb [1, 2, 10] rfl ?_)))))))))))
 first | refine Ey rfl ?_ ?_ | refine Ev rfl ?_ ?_
 intro h1
 try rw [nnp] at h1
 refine Eh (En (Ea (Ef rfl) (Ed (Ec (Eb [4] rfl (Ep (Eu (Fc rfl rfl ?_))))))))
 rotate_left
 intro h1
 try rw [nnp] at h1
 refine Fa (Ec (Eb [1, 2] rfl (Eh (En (Ea (Ek rfl) (Ea (Eo rfl rfl rfl) (Ea (Ef rfl) ?_)))))))
 first | refine Ez rfl rfl (c_152 _ _ (by (try unfold room at *); omega) hw.2.2.1.1 hw.2.2.1.2) ?_ | refine Ew rfl rfl (by simp) (c_152 _ _ (by (try unfold room at *); omega) hw.2.2.1.1 hw.2.2.1.2) rfl ?_
 refine Ea (Ef rfl) (Ed (Ec (Eb [1, 2] rfl (Eh (Eh (En (Ea (Ef rfl) (Ea (o_lss rfl rfl) (Ed (Ec (Eb [1, 2, 16] rfl ?_)))))))))))
 first | refine Ey rfl ?_ ?_ | refine Ev rfl ?_ ?_
 intro h2
 try rw [nnp] at h2
 refine Eh (En (Ea (Ef rfl) (Ed (Ec (Eb [4] rfl (Ep (Eu (Fc rfl rfl ?_))))))))
 rotate_left
 intro h2
 try rw [nnp] at h2
 refine Fa (Ec (Eb [1, 2] rfl (Eh (En (Ea (Ek rfl) (Ea (Eo rfl rfl rfl) (Ea (Ef rfl) ?_)))))))
 first | refine Ez rfl rfl (c_143 _ _ (by (try unfold room at *); omega) hw.2.2.2.2.1.1) ?_ | refine Ew rfl rfl (by simp) (c_143 _ _ (by (try unfold room at *); omega) hw.2.2.2.2.1.1) rfl ?_
 refine Ea (Ef rfl) (Ed (Ec (Eb [1, 2] rfl (Eh (Eh (En (Ea (Ef rfl) (Ea (o_lss rfl rfl) (Ed (Ec (Eb [1, 2, 22] rfl ?_)))))))))))
 first | refine Ey rfl ?_ ?_ | refine Ev rfl ?_ ?_
 intro h3
 try rw [nnp] at h3
 refine Eh (En (Ea (Ef rfl) (Ed (Ec (Eb [4] rfl (Ep (Eu (Fc rfl rfl ?_))))))))
 rotate_left
 intro h3
 try rw [nnp] at h3
 refine Fa (Ec (Eb [1, 2] rfl (Eh (En (Ea (Ek rfl) (Ea (Eo rfl rfl rfl) (Ea (Ef rfl) ?_)))))))
 first | refine Ez rfl rfl (c_148 _ _ (by (try unfold room at *); omega) hw.2.2.2.2.2.1.1) ?_ | refine Ew rfl rfl (by simp) (c_148 _ _ (by (try unfold room at *); omega) hw.2.2.2.2.2.1.1) rfl ?_
 refine Ea (Ef rfl) (Ed (Ec (Eb [1, 2] rfl (Eh (Eh (En (Ea (Ef rfl) (Ea (o_lss rfl rfl) (Ed (Ec (Eb [1, 2, 28] rfl ?_)))))))))))
 first | refine Ey rfl ?_ ?_ | refine Ev rfl ?_ ?_
 intro h4
 try rw [nnp] at h4
 refine Eh (En (Ea (Ef rfl) (Ed (Ec (Eb [4] rfl (Ep (Eu (Fc rfl rfl ?_))))))))
 rotate_left
 intro h4
 try rw [nnp] at h4
 refine Fa (Ec (Eb [1, 2] rfl (Eh (En (Ea (Ek rfl) (Ea (Fm rfl rfl rfl) (Ea (Ef rfl) ?_)))))))
 first | refine Ez rfl rfl (c_150 _ _ (by (try unfold room at *); omega) hw.2.2.2.2.2.2.2.2.2.2.2.1) ?_ | refine Ew rfl rfl (by simp) (c_150 _ _ (by (try unfold room at *); omega) hw.2.2.2.2.2.2.2.2.2.2.2.1) rfl ?_
 refine Ea (Ef rfl) (Ed (Ec (Eb [1, 2] rfl (Eh (Eh (En (Ea (Ef rfl) (Ea (o_lss rfl rfl) (Ed (Ec (Eb [1, 2, 34] rfl ?_)))))))))))
 first | refine Ey rfl ?_ ?_ | refine Ev rfl ?_ ?_
 intro h5
 try rw [nnp] at h5
 refine Eh (En (Ea (Ef rfl) (Ed (Ec (Eb [4] rfl (Ep (Eu (Fc rfl rfl ?_))))))))
 rotate_left
 intro h5
 try rw [nnp] at h5
 refine Fa (Ec (Eb [1, 2] rfl (Eh (En (Ea (Ek rfl) (Ea (Eo rfl rfl rfl) (Ea (Ef rfl) ?_)))))))
 first | refine Ez rfl rfl (c_147 _ _ (by (try unfold room at *); omega) hw.2.2.2.2.2.2.2.2.2.2.2.2.2.1) ?_ | refine Ew rfl rfl (by simp) (c_147 _ _ (by (try unfold room at *); omega) hw.2.2.2.2.2.2.2.2.2.2.2.2.2.1) rfl ?_
 refine Ea (Ef rfl) (Ed (Ec (Eb [1] rfl (Eh (Eh (En (Ea (Ef rfl) (Ea (o_lss rfl rfl) (Ed (Ec (Eb [1, 40] rfl ?_)))))))))))
 first | refine Ey rfl ?_ ?_ | refine Ev rfl ?_ ?_
 intro h6
 try rw [nnp] at h6
 refine Eh (En (Ea (Ef rfl) (Ed (Ec (Eb [4] rfl (Ep (Eu (Fc rfl rfl ?_))))))))
 rotate_left
 intro h6
 try rw [nnp] at h6
 refine Fa (Ec (Eb [1] rfl (Eh (En (Ea (Ef rfl) (Ea (Ef rfl) (Ed (Ec (Eb [4] rfl (Ep (Fc rfl rfl ?_)))))))))))
 rotate_left
 all_goals
  unfold Bus.sz; (try unfold room at *); omega
def MConf.beq (x y : MConf) : Bool := ((x.weight == y.weight) && ((x.prio == y.prio) && ((x.every == y.every) && ((x.cap == y.cap) && true))))
theorem MConf.of_beq {x y : MConf} (h : MConf.beq x y = true) : x = y := by
 cases x; cases y; simp_all [MConf.beq]
theorem MConf.no_beq {x y : MConf} (h : MConf.beq x y = false) : x ≠ y := by
 rintro rfl; simp [MConf.beq] at h
theorem MConf.beq_dec (x y : MConf) : MConf.beq x y = decide (x = y) := by
 cases h : MConf.beq x y
 · exact (decide_eq_false (MConf.no_beq h)).symm
 · exact (decide_eq_true (MConf.of_beq h)).symm
def Bucket.beq (x y : Bucket) : Bool := ((x.tokens == y.tokens) && ((x.count == y.count) && true))
theorem Bucket.of_beq {x y : Bucket} (h : Bucket.beq x y = true) : x = y := by
 cases x; cases y; simp_all [Bucket.beq]
theorem Bucket.no_beq {x y : Bucket} (h : Bucket.beq x y = false) : x ≠ y := by
 rintro rfl; simp [Bucket.beq] at h
theorem Bucket.beq_dec (x y : Bucket) : Bucket.beq x y = decide (x = y) := by
 cases h : Bucket.beq x y
 · exact (decide_eq_false (Bucket.no_beq h)).symm
 · exact (decide_eq_true (Bucket.of_beq h)).symm
def Beat.beq (x y : Beat) : Bool := ((x.live == y.live) && ((x.who == y.who) && ((x.num == y.num) && ((x.first == y.first) && ((x.via == y.via) && ((x.left == y.left) && ((x.resp == y.resp) && ((x.second == y.second) && true))))))))
theorem Beat.of_beq {x y : Beat} (h : Beat.beq x y = true) : x = y := by
 cases x; cases y; simp_all [Beat.beq]
theorem Beat.no_beq {x y : Beat} (h : Beat.beq x y = false) : x ≠ y := by
 rintro rfl; simp [Beat.beq] at h
theorem Beat.beq_dec (x y : Beat) : Beat.beq x y = decide (x = y) := by
 cases h : Beat.beq x y
 · exact (decide_eq_false (Beat.no_beq h)).symm
 · exact (decide_eq_true (Beat.of_beq h)).symm
def Wrr.beq (x y : Wrr) : Bool := ((x.pos == y.pos) && ((x.credit == y.credit) && true))
theorem Wrr.of_beq {x y : Wrr} (h : Wrr.beq x y = true) : x = y := by
 cases x; cases y; simp_all [Wrr.beq]
theorem Wrr.no_beq {x y : Wrr} (h : Wrr.beq x y = false) : x ≠ y := by
 rintro rfl; simp [Wrr.beq] at h
theorem Wrr.beq_dec (x y : Wrr) : Wrr.beq x y = decide (x = y) := by
 cases h : Wrr.beq x y
 · exact (decide_eq_false (Wrr.no_beq h)).symm
 · exact (decide_eq_true (Wrr.of_beq h)).symm
structure Bus.parts (x y : Bus) : Prop where
 conf : x.conf = y.conf
 now : x.now = y.now
 ms : x.ms = y.ms
 arb : x.arb = y.arb
 buckets : x.buckets = y.buckets
 splits : x.splits = y.splits
 holder : x.holder = y.holder
 kept : x.kept = y.kept
 last : x.last = y.last
 addr : x.addr = y.addr
 data : x.data = y.data
 model : x.model = y.model
 picks : x.picks = y.picks
 log : x.log = y.log
def bytes (size : Int) : Int := if inB size 0 2 then (if size = 0 then 1 else if size = 1 then 2 else 4) else 0
def limit (size : Int) : Int := if inB size 0 2 then (if size = 0 then 256 else if size = 1 then 65536 else 4294967296) else 0
def beatsN (b : Int) : Int := if b = 0 then 1 else if b = 3 then 8 else 4
def beats (b : Int) : Int := if inB b 0 3 then beatsN b else 0
theorem in3 {x : Int} (h : inB x 0 2 = true) : x = 0 ∨ x = 1 ∨ x = 2 := by have := Et h; omega
theorem in4 {x : Int} (h : inB x 0 3 = true) : x = 0 ∨ x = 1 ∨ x = 2 ∨ x = 3 := by have := Et h; omega
theorem bytes_leaf {x : Int} (h : inB x 0 2 = true) : IntKind.wrap .i64 (1 * 2 ^ (min x.toNat IntKind.i64.bits)) = bytes x := by
 unfold bytes; rw [if_pos h]; rcases in3 h with rfl | rfl | rfl <;> decide
theorem bytes_pos {x : Int} (h : inB x 0 2 = true) : bytes x = 1 ∨ bytes x = 2 ∨ bytes x = 4 := by
 unfold bytes; rw [if_pos h]; rcases in3 h with rfl | rfl | rfl <;> simp
theorem bytes_no {x : Int} (h : inB x 0 2 = false) : bytes x = 0 := by unfold bytes; rw [if_neg (by simp [h])]
theorem bytes_z {x : Int} : bytes x = 0 ∧ inB x 0 2 = false ∨ inB x 0 2 = true ∧ (bytes x = 1 ∨ bytes x = 2 ∨ bytes x = 4) := by
 cases h : inB x 0 2 with
 | false => exact .inl ⟨bytes_no h, rfl⟩
 | true => exact .inr ⟨rfl, bytes_pos h⟩
theorem limit_leaf {x : Int} (h : ¬ bytes x = 0) : IntKind.wrap .i64 (1 * 2 ^ (min (IntKind.wrap .i64 (8 * bytes x)).toNat IntKind.i64.bits)) = limit x := by
 rcases bytes_z (x := x) with ⟨h1, _⟩ | ⟨h1, _⟩
 · exact absurd h1 h
 · unfold limit bytes; rw [if_pos h1, if_pos h1]; rcases in3 h1 with rfl | rfl | rfl <;> decide
theorem limit_no {x : Int} (h : bytes x = 0) : limit x = 0 := by
 rcases bytes_z (x := x) with ⟨_, h1⟩ | ⟨_, h1⟩
 · unfold limit; rw [if_neg (by simp [h1])]
 · omega
theorem limit_bd (x : Int) : 0 ≤ limit x ∧ limit x ≤ 4294967296 := by
 unfold limit
 split
 · rename_i h; rcases in3 h with rfl | rfl | rfl <;> simp
 · simp
theorem beats_row {b : Int} {t : IntKind} (h : inB b 0 3 = true) : [[V.w (.int .i64 1)], [V.w (.int .i64 4)], [V.w (.int .i64 4)], [V.w (.int .i64 8)]][b.toNat]? = some [V.w (.int .i64 (beatsN b))] := by
 rcases in4 h with rfl | rfl | rfl | rfl <;> rfl
theorem beats_bd (b : Int) : 0 ≤ beats b ∧ beats b ≤ 8 := by
 unfold beats
 split
 · rename_i h; rcases in4 h with rfl | rfl | rfl | rfl <;> simp [beatsN]
 · simp
def aligned (a size : Int) : Bool := inB size 0 2 && decide (0 ≤ a) && decide (a.tmod (bytes size) = 0)
def nextA (a size burst : Int) : Int :=
 if aligned a size && decide (a < 512) && decide (beats burst ≠ 0) then
  (if burst = 2 ∧ (a + bytes size).tmod (4 * bytes size) = 0 then a + bytes size - 4 * bytes size else a + bytes size)
 else -1
theorem c_33 (size : Int) : CV prg 33 [.w (.int .i64 size)] (fun res => res = .w (.int .i64 (bytes size))) := by
 refine Fo g33 (Eb [0] rfl (Eh (En (Ea (Ef rfl) (Ed (Ec (Eb [0] rfl (Eh (Eh (En (Ea (Ef rfl) ?_)))))))))))
 refine Ez rfl rfl (c_103 ..) (Ea (Fg rfl) (Ed (Ec (Eb [0, 5] rfl ?_))))
 first | refine Ey rfl ?_ ?_ | refine Fp rfl ?_ ?_ | refine Fh rfl ?_ ?_ | refine Ev rfl ?_ ?_
 intro h1
 try rw [nnp] at h1
 try have h1' := Et h1
 refine Eh (En (Ea (Ef rfl) (Ed (Ec (Eb [2] rfl (Ep (Eu (Fc rfl rfl ?_))))))))
 rotate_left
 intro h1
 try rw [nnp] at h1
 try have h1' := Et h1
 refine Fa (Ec (Eb [0] rfl (Eh (En (Ea (Ef rfl) (Ea (o_shl rfl rfl (by omega)) (Ea (Ef rfl) (Ed (Ec (Eb [2] rfl (Ep ?_)))))))))))
 refine Fc rfl rfl ?_
 rotate_left
 all_goals
  first | exact bytes_leaf (by assumption) | exact (bytes_no (by assumption)).symm
theorem c_183 (size : Int) : CV prg 183 [.w (.int .i64 size)] (fun res => res = .w (.int .i64 (bytes size))) := by
 refine Fo g183 (Eb [0] rfl (Eh (En (Ea (Ef rfl) (Ed (Ec (Eb [0] rfl (Eh (Eh (En (Ea (Ef rfl) ?_)))))))))))
 refine Ez rfl rfl (Fy ..) (Ea (Fg rfl) (Ed (Ec (Eb [0, 5] rfl ?_))))
 first | refine Ey rfl ?_ ?_ | refine Fp rfl ?_ ?_ | refine Fh rfl ?_ ?_ | refine Ev rfl ?_ ?_
 intro h1
 try rw [nnp] at h1
 try have h1' := Et h1
 refine Eh (En (Ea (Ef rfl) (Ed (Ec (Eb [2] rfl (Ep (Eu (Fc rfl rfl ?_))))))))
 rotate_left
 intro h1
 try rw [nnp] at h1
 try have h1' := Et h1
 refine Fa (Ec (Eb [0] rfl (Eh (En (Ea (Ef rfl) (Ea (o_shl rfl rfl (by omega)) (Ea (Ef rfl) (Ed (Ec (Eb [2] rfl (Ep ?_)))))))))))
 refine Fc rfl rfl ?_
 rotate_left
 all_goals
  first | exact bytes_leaf (by assumption) | exact (bytes_no (by assumption)).symm
theorem c_22 (b : Int) : CV prg 22 [.w (.int .i64 b)] (fun res => res = .w (.int .i64 (beats b))) := by
 refine Fo g22 (Eb [0] rfl (Eh (En (Ea (Ef rfl) (Ed (Ec (Eb [0] rfl (Eh (Eh (En (Ea (Ef rfl) ?_)))))))))))
 refine Ez rfl rfl (c_103 ..) (Ea (Fg rfl) (Ed (Ec (Eb [0, 5] rfl ?_))))
 first | refine Ey rfl ?_ ?_ | refine Fp rfl ?_ ?_ | refine Fh rfl ?_ ?_ | refine Ev rfl ?_ ?_
 intro h1
 try rw [nnp] at h1
 try have h1' := Et h1
 refine Eh (En (Ea (Ef rfl) (Ed (Ec (Eb [2] rfl (Ep (Eu (Fc rfl rfl ?_))))))))
 rotate_left
 intro h1
 try rw [nnp] at h1
 try have h1' := Et h1
 refine Fa (Ec (Eb [0] rfl (Eh (En (Ea (o_bs rfl rfl rfl rfl) (Ea (Ef rfl) (Ea (o_iaL rfl rfl rfl rfl (by simp; omega)) (Ea (o_ldA rfl rfl rfl (beats_row (t := .i64) (by assumption)) rfl) (Ea (Ef rfl) (Ed (Ec ?_)))))))))))
 refine Eb [2] rfl (Ep (Fc rfl rfl ?_))
 rotate_left
 all_goals
  simp_all [beats]
theorem c_173 (b : Int) : CV prg 173 [.w (.int .i64 b)] (fun res => res = .w (.int .i64 (beats b))) := by
 refine Fo g173 (Eb [0] rfl (Eh (En (Ea (Ef rfl) (Ed (Ec (Eb [0] rfl (Eh (Eh (En (Ea (Ef rfl) ?_)))))))))))
 refine Ez rfl rfl (Fy ..) (Ea (Fg rfl) (Ed (Ec (Eb [0, 5] rfl ?_))))
 first | refine Ey rfl ?_ ?_ | refine Fp rfl ?_ ?_ | refine Fh rfl ?_ ?_ | refine Ev rfl ?_ ?_
 intro h1
 try rw [nnp] at h1
 try have h1' := Et h1
 refine Eh (En (Ea (Ef rfl) (Ed (Ec (Eb [2] rfl (Ep (Eu (Fc rfl rfl ?_))))))))
 rotate_left
 intro h1
 try rw [nnp] at h1
 try have h1' := Et h1
 refine Fa (Ec (Eb [0] rfl (Eh (En (Ea (o_bs rfl rfl rfl rfl) (Ea (Ef rfl) (Ea (o_iaL rfl rfl rfl rfl (by simp; omega)) (Ea (o_ldA rfl rfl rfl (beats_row (t := .i64) (by assumption)) rfl) (Ea (Ef rfl) (Ed (Ec ?_)))))))))))
 refine Eb [2] rfl (Ep (Fc rfl rfl ?_))
 rotate_left
 all_goals
  simp_all [beats]
theorem c_51 (size : Int) : CV prg 51 [.w (.int .i64 size)] (fun res => res = .w (.int .i64 (limit size))) := by
 have hz := bytes_z (x := size)
 refine Fo g51 (Eb [0] rfl (Eh (En (Ea (Ef rfl) (Ed (Ec (Eb [0] rfl (Eh (Eh (En (Ea (Ef rfl) ?_)))))))))))
 refine Ez rfl rfl (c_33 ..) (Ea (Fv rfl rfl) (Ed (Ec (Eb [0, 5] rfl ?_))))
 first | refine Ey rfl ?_ ?_ | refine Ev rfl ?_ ?_
 intro h1
 try rw [nnp] at h1
 refine Eh (En (Ea (Ef rfl) (Ed (Ec (Eb [2] rfl (Ep (Eu (Fc rfl rfl ?_))))))))
 rotate_left
 intro h1
 try rw [nnp] at h1
 refine Fa (Ec (Eb [0] rfl (Eh (En (Ea (Ef rfl) (Ez rfl rfl (c_33 ..) (Ea (o_mul rfl rfl) (Ea (o_shl rfl rfl (by rw [wrap_in _ (by omega)]; omega)) (Ea (Ef rfl) (Ed (Ec ?_)))))))))))
 refine Eb [2] rfl (Ep (Fc rfl rfl ?_))
 rotate_left
 all_goals
  first | exact limit_leaf (by assumption) | exact (limit_no (by assumption)).symm
theorem c_201 (size : Int) : CV prg 201 [.w (.int .i64 size)] (fun res => res = .w (.int .i64 (limit size))) := by
 have hz := bytes_z (x := size)
 refine Fo g201 (Eb [0] rfl (Eh (En (Ea (Ef rfl) (Ed (Ec (Eb [0] rfl (Eh (Eh (En (Ea (Ef rfl) ?_)))))))))))
 refine Ez rfl rfl (c_183 ..) (Ea (Fv rfl rfl) (Ed (Ec (Eb [0, 5] rfl ?_))))
 first | refine Ey rfl ?_ ?_ | refine Ev rfl ?_ ?_
 intro h1
 try rw [nnp] at h1
 refine Eh (En (Ea (Ef rfl) (Ed (Ec (Eb [2] rfl (Ep (Eu (Fc rfl rfl ?_))))))))
 rotate_left
 intro h1
 try rw [nnp] at h1
 refine Fa (Ec (Eb [0] rfl (Eh (En (Ea (Ef rfl) (Ez rfl rfl (c_183 ..) (Ea (o_mul rfl rfl) (Ea (o_shl rfl rfl (by rw [wrap_in _ (by omega)]; omega)) (Ea (Ef rfl) (Ed (Ec ?_)))))))))))
 refine Eb [2] rfl (Ep (Fc rfl rfl ?_))
 rotate_left
 all_goals
  first | exact limit_leaf (by assumption) | exact (limit_no (by assumption)).symm
theorem c_92 (v size : Int) : CV prg 92 [.w (.int .i64 v), .w (.int .i64 size)] (fun res => res = .w (.bool (inB v 0 (limit size - 1)))) := by
 have hz := limit_bd size
 refine Fo g92 (Eb [0, 1] rfl (Eh (En (Ea (Ef rfl) (Ed (Ec (Eb [0, 1] rfl (Eh (En (Ea (Ef rfl) (Ea (Ef rfl) ?_)))))))))))
 refine Ez rfl rfl (c_51 ..) ?_
 first | refine Ea (o_subn rfl rfl (by omega)) ?_ | refine Ea (o_sub rfl rfl) ?_
 refine Ez rfl rfl (c_103 ..) (Ea (Ef rfl) (Ed (Ec (Eb [4] rfl (Ep (Eg rfl rfl ?_))))))
 rotate_left
 all_goals
  rfl
theorem c_21 (a size : Int) : CV prg 21 [.w (.int .i64 a), .w (.int .i64 size)] (fun res => res = .w (.bool (aligned a size))) := by
 have hz := bytes_z (x := size)
 refine Fo g21 (Eb [0, 1] rfl (Eh (En (Ea (Ef rfl) (Ed (Ec (Eb [0, 1] rfl (Eh (En (Ea (Ef rfl) (Ez rfl rfl (c_103 ..) ?_)))))))))))
 refine Ea (Ef rfl) ?_
 first | refine Ff rfl ?_ ?_ | refine Ft rfl ?_ ?_ | refine s_gNT rfl ?_ ?_ | refine Fe rfl ?_ ?_
 intro h1
 try rw [nnp] at h1
 try (have h1' := hz; rw [h1] at h1'; simp at h1')
 refine Ea (Ef rfl) (Ei rfl (Ea (o_geq rfl rfl) (Ea (Em rfl rfl) (Ea (Ef rfl) ?_))))
 first | refine Ff rfl ?_ ?_ | refine Fe rfl ?_ ?_
 intro h2
 try rw [nnp] at h2
 try (have h2' := hz; rw [h2] at h2'; simp at h2')
 refine Ea (Ef rfl) (Ei rfl (Ea (Ef rfl) (Ei rfl (Ez rfl rfl (c_33 ..) (Ei rfl ?_)))))
 first | refine Ea (o_rem rfl rfl (by decide)) ?_ | refine Ea (o_rem rfl rfl (by omega)) ?_
 refine Ei rfl (Ea (Fv rfl rfl) (Ea (Em rfl rfl) (Ea (Ef rfl) (Ed (Ec (Eb [4] rfl (Ep (Eg rfl rfl ?_))))))))
 rotate_left
 intro h2
 try rw [nnp] at h2
 try (have h2' := hz; rw [h2] at h2'; simp at h2')
 refine Ee rfl (Ee rfl (Ee rfl (Ee rfl (Ee rfl (Ea (Ej rfl rfl) (Ea (Ef rfl) (Ed (Ec (Eb [4] rfl (Ep (Eg rfl rfl ?_)))))))))))
 rotate_left
 intro h1
 try rw [nnp] at h1
 try (have h1' := hz; rw [h1] at h1'; simp at h1')
 refine Ee rfl (Ee rfl (Ea (Ej rfl rfl) (Ea (Ef rfl) (Ee rfl (Ee rfl (Ee rfl (Ee rfl (Ee rfl (Ea (Ej rfl rfl) (Ea (Ef rfl) (Ed ?_)))))))))))
 refine Ec (Eb [4] rfl (Ep (Eg rfl rfl ?_)))
 rotate_left
 all_goals
  first | (simp_all [aligned]; done) | (simp_all [aligned] <;> omega)
theorem c_172 (a size : Int) : CV prg 172 [.w (.int .i64 a), .w (.int .i64 size)] (fun res => res = .w (.bool (aligned a size))) := by
 have hz := bytes_z (x := size)
 refine Fo g172 (Eb [0, 1] rfl (Eh (En (Ea (Ef rfl) (Ed (Ec (Eb [0, 1] rfl (Eh (En (Ea (Ef rfl) (Ez rfl rfl (c_183 ..) ?_)))))))))))
 refine Ea (o_gtr rfl rfl) (Ea (Ef rfl) ?_)
 first | refine Ff rfl ?_ ?_ | refine Fe rfl ?_ ?_
 intro h1
 try rw [nnp] at h1
 refine Ea (Ef rfl) (Ei rfl (Ea (o_geq rfl rfl) (Ea (Em rfl rfl) (Ea (Ef rfl) ?_))))
 first | refine Ff rfl ?_ ?_ | refine Fe rfl ?_ ?_
 intro h2
 try rw [nnp] at h2
 refine Ea (Ef rfl) (Ei rfl (Ea (Ef rfl) (Ei rfl (Ez rfl rfl (c_183 ..) (Ei rfl ?_)))))
 first | refine Ea (o_rem rfl rfl (by decide)) ?_ | refine Ea (o_rem rfl rfl (by omega)) ?_
 refine Ei rfl (Ea (Fv rfl rfl) (Ea (Em rfl rfl) (Ea (Ef rfl) (Ed (Ec (Eb [4] rfl (Ep (Eg rfl rfl ?_))))))))
 rotate_left
 intro h2
 try rw [nnp] at h2
 refine Ee rfl (Ee rfl (Ee rfl (Ee rfl (Ee rfl (Ea (Ej rfl rfl) (Ea (Ef rfl) (Ed (Ec (Eb [4] rfl (Ep (Eg rfl rfl ?_)))))))))))
 rotate_left
 intro h1
 try rw [nnp] at h1
 refine Ee rfl (Ee rfl (Ea (Ej rfl rfl) (Ea (Ef rfl) (Ee rfl (Ee rfl (Ee rfl (Ee rfl (Ee rfl (Ea (Ej rfl rfl) (Ea (Ef rfl) (Ed ?_)))))))))))
 refine Ec (Eb [4] rfl (Ep (Eg rfl rfl ?_)))
 rotate_left
 all_goals
  first | (rcases hz with ⟨h8, h9⟩ | ⟨h8, h9⟩ <;> simp_all [aligned]; done) | (rcases hz with ⟨h8, h9⟩ | ⟨h8, h9⟩ <;> simp_all [aligned] <;> omega)
theorem aligned_t {a s : Int} (h : aligned a s = true) : inB s 0 2 = true ∧ 0 ≤ a ∧ (bytes s = 1 ∨ bytes s = 2 ∨ bytes s = 4) := by
 simp only [aligned, Bool.and_eq_true, decide_eq_true_eq] at h
 exact ⟨h.1.1, h.1.2, bytes_pos h.1.1⟩
theorem c_60 (a size burst : Int) : CV prg 60 [.w (.int .i64 a), .w (.int .i64 size), .w (.int .i64 burst)] (fun res => res = .w (.int .i64 (nextA a size burst))) := by
 refine Fo g60 (Eb [0, 1, 2] rfl (Eh (En (Ea (Ef rfl) (Ed (Ec (Eb [0, 1, 2] rfl (Eh (Eh (En (Ea (Ef rfl) ?_)))))))))))
 refine Ea (Ef rfl) (Ez rfl rfl (c_21 ..) (Ea (Fg rfl) (Ea (Ef rfl) ?_)))
 first | refine Fq rfl ?_ ?_ | refine Fr rfl ?_ ?_ | refine s_gNF rfl ?_ ?_ | refine Fe rfl ?_ ?_
 intro h1
 try rw [nnp] at h1
 try have h1' := aligned_t h1
 try have h1' := Et h1
 try have h1' := inB_f h1
 refine Ea (Ef rfl) (Ei rfl (Ea (o_geq rfl rfl) (Ea (Ej rfl rfl) (Ea (Ef rfl) ?_))))
 first | refine Fq rfl ?_ ?_ | refine Fe rfl ?_ ?_
 intro h2
 try rw [nnp] at h2
 try have h2' := aligned_t h2
 try have h2' := Et h2
 try have h2' := inB_f h2
 refine Ea (Ef rfl) (Ei rfl (Ez rfl rfl (c_22 ..) (Ei rfl (Ea (Fv rfl rfl) (Ea (Ej rfl rfl) (Ed (Ec (Eb [0, 1, 2, 21] rfl ?_))))))))
 first | refine Ey rfl ?_ ?_ | refine Ev rfl ?_ ?_
 intro h3
 try rw [nnp] at h3
 try have h3' := aligned_t h3
 try have h3' := Et h3
 try have h3' := inB_f h3
 refine Eh (En (Ea (Ef rfl) (Ed (Ec (Eb [6] rfl (Ep (Eu (Fc rfl rfl ?_))))))))
 rotate_left
 intro h3
 try rw [nnp] at h3
 try have h3' := aligned_t h3
 try have h3' := Et h3
 try have h3' := inB_f h3
 refine Fa (Ec (Eb [0, 1, 2] rfl (Eh (En (Ea (Ef rfl) (Ea (Ef rfl) (Ez rfl rfl (c_33 ..) ?_)))))))
 first | refine Ea (Fs rfl rfl (by omega)) ?_ | refine Ea (o_add rfl rfl) ?_
 refine Ea (Ef rfl) (Ez rfl rfl (c_33 ..) ?_)
 first | refine Ea (o_muln rfl rfl (by omega)) ?_ | refine Ea (o_mul rfl rfl) ?_
 refine Ea (Ef rfl) (Ea (Ef rfl) (Ed (Ec (Eb [2, 7, 8] rfl (Eh (Eh (En (Ea (Ef rfl) (Ea (Fv rfl rfl) (Ea (Ef rfl) ?_))))))))))
 first | refine Ff rfl ?_ ?_ | refine Fe rfl ?_ ?_
 intro h4
 try rw [nnp] at h4
 try have h4' := aligned_t h4
 try have h4' := Et h4
 try have h4' := inB_f h4
 refine Ea (Ef rfl) (Ei rfl (Ea (Ef rfl) (Ei rfl ?_)))
 first | refine Ea (o_rem rfl rfl (by decide)) ?_ | refine Ea (o_rem rfl rfl (by omega)) ?_
 refine Ei rfl (Ea (Fv rfl rfl) (Ea (Em rfl rfl) (Ed (Ec (Eb [7, 8, 36] rfl ?_)))))
 first | refine Ey rfl ?_ ?_ | refine Ev rfl ?_ ?_
 intro h5
 try rw [nnp] at h5
 try have h5' := aligned_t h5
 try have h5' := Et h5
 try have h5' := inB_f h5
 refine En (Ea (Ef rfl) (Ea (Ef rfl) ?_))
 first | refine Ea (o_subn rfl rfl (by omega)) ?_ | refine Ea (o_sub rfl rfl) ?_
 refine Ea (Ef rfl) (Ed (Ec (Eb [7] rfl (Eh (En (Ea (Ef rfl) (Ea (Ef rfl) (Ed (Ec (Eb [6] rfl (Ep ?_)))))))))))
 refine Fc rfl rfl ?_
 rotate_left
 intro h5
 try rw [nnp] at h5
 try have h5' := aligned_t h5
 try have h5' := Et h5
 try have h5' := inB_f h5
 refine Fa (Ec (Eb [7] rfl (Eh (En (Ea (Ef rfl) (Ea (Ef rfl) (Ed (Ec (Eb [6] rfl (Ep (Fc rfl rfl ?_)))))))))))
 rotate_left
 intro h4
 try rw [nnp] at h4
 try have h4' := aligned_t h4
 try have h4' := Et h4
 try have h4' := inB_f h4
 refine Ee rfl (Ee rfl (Ee rfl (Ee rfl (Ea (Ej rfl rfl) (Ed (Ec (Eb [7, 8, 36] rfl (s_condF rfl (Fa (Ec (Eb [7] rfl ?_)))))))))))
 refine Eh (En (Ea (Ef rfl) (Ea (Ef rfl) (Ed (Ec (Eb [6] rfl (Ep (Fc rfl rfl ?_))))))))
 rotate_left
 intro h2
 try rw [nnp] at h2
 try have h2' := aligned_t h2
 try have h2' := Et h2
 try have h2' := inB_f h2
 refine Ee rfl (Ee rfl (Ee rfl (Ea (Em rfl rfl) (Ed (Ec (Eb [0, 1, 2, 21] rfl (Fi rfl (Eh (En (Ea (Ef rfl) (Ed ?_)))))))))))
 refine Ec (Eb [6] rfl (Ep (Eu (Fc rfl rfl ?_))))
 rotate_left
 intro h1
 try rw [nnp] at h1
 try have h1' := aligned_t h1
 try have h1' := Et h1
 try have h1' := inB_f h1
 refine Ee rfl (Ee rfl (Ea (Em rfl rfl) (Ea (Ef rfl) (Ee rfl (Ee rfl (Ee rfl (Ea (Em rfl rfl) (Ed (Ec (Eb [0, 1, 2, 21] rfl (Fi rfl ?_)))))))))))
 refine Eh (En (Ea (Ef rfl) (Ed (Ec (Eb [6] rfl (Ep (Eu (Fc rfl rfl ?_))))))))
 rotate_left
 all_goals
  first | (simp_all [nextA]; done) | (simp_all [nextA] <;> omega)
theorem c_205 (a size burst : Int) : CV prg 205 [.w (.int .i64 a), .w (.int .i64 size), .w (.int .i64 burst)] (fun res => res = .w (.int .i64 (nextA a size burst))) := by
 refine Fo g205 (Eb [0, 1, 2] rfl (Eh (En (Ea (Ef rfl) (Ed (Ec (Eb [0, 1, 2] rfl (Eh (En (Ea (Ef rfl) (Ez rfl rfl (c_183 ..) ?_)))))))))))
 refine Ea (Ef rfl) (Ed (Ec (Eb [0, 1, 2, 7] rfl (Eh (Eh (En (Ea (Ef rfl) (Ea (Ef rfl) (Ez rfl rfl (c_172 ..) (Ea (Fg rfl) (Ea (Ef rfl) ?_)))))))))))
 first | refine Fq rfl ?_ ?_ | refine Fr rfl ?_ ?_ | refine s_gNF rfl ?_ ?_ | refine Fe rfl ?_ ?_
 intro h1
 try rw [nnp] at h1
 try have h1' := aligned_t h1
 try have h1' := Et h1
 try have h1' := inB_f h1
 refine Ea (Ef rfl) (Ei rfl (Ez rfl rfl (Fy ..) (Ei rfl (Ea (Fg rfl) (Ea (Ej rfl rfl) (Ea (Ef rfl) ?_))))))
 first | refine Fq rfl ?_ ?_ | refine Fr rfl ?_ ?_ | refine s_gNF rfl ?_ ?_ | refine Fe rfl ?_ ?_
 intro h2
 try rw [nnp] at h2
 try have h2' := aligned_t h2
 try have h2' := Et h2
 try have h2' := inB_f h2
 refine Ea (Ef rfl) (Ei rfl (Ez rfl rfl (c_173 ..) (Ei rfl (Ea (Fv rfl rfl) (Ea (Ej rfl rfl) (Ed (Ec (Eb [0, 2, 7, 23] rfl ?_))))))))
 first | refine Ey rfl ?_ ?_ | refine Ev rfl ?_ ?_
 intro h3
 try rw [nnp] at h3
 try have h3' := aligned_t h3
 try have h3' := Et h3
 try have h3' := inB_f h3
 refine Eh (En (Ea (Ef rfl) (Ed (Ec (Eb [6] rfl (Ep (Eu (Fc rfl rfl ?_))))))))
 rotate_left
 intro h3
 try rw [nnp] at h3
 try have h3' := aligned_t h3
 try have h3' := Et h3
 try have h3' := inB_f h3
 refine Fa (Ec (Eb [0, 2, 7] rfl (Eh (Eh (En (Ea (Ef rfl) (Ea (Fv rfl rfl) (Ea (Ef rfl) ?_))))))))
 first | refine Ff rfl ?_ ?_ | refine Fe rfl ?_ ?_
 intro h4
 try rw [nnp] at h4
 try have h4' := aligned_t h4
 try have h4' := Et h4
 try have h4' := inB_f h4
 refine Ea (Ef rfl) (Ei rfl (Ea (Ef rfl) (Ei rfl ?_)))
 first | refine Ea (Fs rfl rfl (by omega)) ?_ | refine Ea (o_add rfl rfl) ?_
 refine Ei rfl (Ea (Ef rfl) (Ei rfl ?_))
 first | refine Ea (o_muln rfl rfl (by omega)) ?_ | refine Ea (o_mul rfl rfl) ?_
 refine Ei rfl ?_
 first | refine Ea (o_rem rfl rfl (by decide)) ?_ | refine Ea (o_rem rfl rfl (by omega)) ?_
 refine Ei rfl (Ea (Fv rfl rfl) (Ea (Em rfl rfl) (Ed (Ec (Eb [0, 7, 34] rfl ?_)))))
 first | refine Ey rfl ?_ ?_ | refine Ev rfl ?_ ?_
 intro h5
 try rw [nnp] at h5
 try have h5' := aligned_t h5
 try have h5' := Et h5
 try have h5' := inB_f h5
 refine Eh (En (Ea (Ef rfl) (Ea (Ef rfl) ?_)))
 first | refine Ea (Fs rfl rfl (by omega)) ?_ | refine Ea (o_add rfl rfl) ?_
 refine Ea (Ef rfl) ?_
 first | refine Ea (o_muln rfl rfl (by omega)) ?_ | refine Ea (o_mul rfl rfl) ?_
 first | refine Ea (o_subn rfl rfl (by omega)) ?_ | refine Ea (o_sub rfl rfl) ?_
 refine Ea (Ef rfl) (Ed (Ec (Eb [6] rfl (Ep (Eu (Fc rfl rfl ?_))))))
 rotate_left
 intro h5
 try rw [nnp] at h5
 try have h5' := aligned_t h5
 try have h5' := Et h5
 try have h5' := inB_f h5
 refine Fa (Ec (Eb [0, 7] rfl (Eh (En (Ea (Ef rfl) (Ea (Ef rfl) ?_))))))
 first | refine Ea (Fs rfl rfl (by omega)) ?_ | refine Ea (o_add rfl rfl) ?_
 refine Ea (Ef rfl) (Ed (Ec (Eb [6] rfl (Ep (Fc rfl rfl ?_)))))
 rotate_left
 intro h4
 try rw [nnp] at h4
 try have h4' := aligned_t h4
 try have h4' := Et h4
 try have h4' := inB_f h4
 iterate 7 refine Ee rfl ?_
 refine Ea (Ej rfl rfl) (Ed (Ec (Eb [0, 7, 34] rfl (s_condF rfl (Fa (Ec (Eb [0, 7] rfl (Eh (En (Ea (Ef rfl) (Ea (Ef rfl) ?_)))))))))))
 first | refine Ea (Fs rfl rfl (by omega)) ?_ | refine Ea (o_add rfl rfl) ?_
 refine Ea (Ef rfl) (Ed (Ec (Eb [6] rfl (Ep (Fc rfl rfl ?_)))))
 rotate_left
 intro h2
 try rw [nnp] at h2
 try have h2' := aligned_t h2
 try have h2' := Et h2
 try have h2' := inB_f h2
 refine Ee rfl (Ee rfl (Ee rfl (Ea (Em rfl rfl) (Ed (Ec (Eb [0, 2, 7, 23] rfl (Fi rfl (Eh (En (Ea (Ef rfl) (Ed ?_)))))))))))
 refine Ec (Eb [6] rfl (Ep (Eu (Fc rfl rfl ?_))))
 rotate_left
 intro h1
 try rw [nnp] at h1
 try have h1' := aligned_t h1
 try have h1' := Et h1
 try have h1' := inB_f h1
 refine Ee rfl (Ee rfl (Ee rfl (Ea (Em rfl rfl) (Ea (Ef rfl) (Ee rfl (Ee rfl (Ee rfl (Ea (Em rfl rfl) (Ed (Ec (Eb [0, 2, 7, 23] rfl ?_)))))))))))
 refine Fi rfl (Eh (En (Ea (Ef rfl) (Ed (Ec (Eb [6] rfl (Ep (Eu (Fc rfl rfl ?_)))))))))
 rotate_left
 all_goals
  first | (simp_all [nextA]; done) | (simp_all [nextA] <;> omega)
def bl (s b : Int) : Nat → Int → Option (List Int)
 | 0, _ => some []
 | n + 1, a => if nextA a s b < 0 then none else (bl s b n (nextA a s b)).map (a :: ·)
def burstL (a s b : Int) : List Int := (bl s b (beats b).toNat a).getD []
theorem bl_step {s b a c : Int} {n i : Nat} {pre : List Int} (h : bl s b n a = (bl s b (n - i) c).map (pre ++ ·)) (hi : i < n) (hn : ¬ nextA c s b < 0) : bl s b n a = (bl s b (n - (i + 1)) (nextA c s b)).map ((pre ++ [c]) ++ ·) := by
 rw [h]
 have e : n - i = (n - (i + 1)) + 1 := by omega
 rw [e, bl, if_neg hn]
 cases bl s b (n - (i + 1)) (nextA c s b) <;> simp
theorem bl_none {s b a c : Int} {i : Nat} {pre : List Int} (h : bl s b (beats b).toNat a = (bl s b ((beats b).toNat - i) c).map (pre ++ ·)) (hi : i < (beats b).toNat) (hn : nextA c s b < 0) : burstL a s b = [] := by
 unfold burstL
 rw [h]
 have e : (beats b).toNat - i = ((beats b).toNat - (i + 1)) + 1 := by omega
 rw [e, bl, if_pos hn]; rfl
theorem bl_end {s b a c : Int} {i : Nat} {pre : List Int} (h : bl s b (beats b).toNat a = (bl s b ((beats b).toNat - i) c).map (pre ++ ·)) (hi : (beats b).toNat ≤ i) : burstL a s b = pre := by
 unfold burstL
 rw [h, show (beats b).toNat - i = 0 by omega, bl]; simp
theorem bl_len (s b : Int) : ∀ (n : Nat) (a : Int) l, bl s b n a = some l → l.length = n
 | 0, a, l, h => by simp [bl] at h; subst h; rfl
 | n + 1, a, l, h => by
   simp only [bl] at h
   split at h
   · cases h
   · cases e : bl s b n (nextA a s b) with
     | none => rw [e] at h; cases h
     | some r => rw [e] at h; cases h; simp [bl_len s b n _ r e]
theorem burstL_len (a s b : Int) : (burstL a s b).length = 0 ∨ (burstL a s b).length = (beats b).toNat := by
 unfold burstL
 cases e : bl s b (beats b).toNat a with
 | none => exact .inl rfl
 | some l => exact .inr (bl_len s b _ _ _ e)
theorem burstL_le (a s b : Int) : (burstL a s b).length ≤ 8 := by
 have h1 := burstL_len a s b
 have h2 := beats_bd b
 omega
theorem iR_app (pre : List Int) (c : Int) : (pre ++ [c]).map iR = pre.map iR ++ [[V.w (.int .i64 c)]] := by rw [List.map_append]; rfl
theorem c_29 (a s b : Int) : CV prg 29 [.w (.int .i64 a), .w (.int .i64 s), .w (.int .i64 b)] (fun res => res = .sl 1 ((burstL a s b).map iR)) := by
 have hb := beats_bd b
 refine Fo g29 (Eb [0, 1, 2] rfl (Eh (En (Ea (Ef rfl) (Ed (Ec (Eb [0, 1, 2] rfl (Eh (En (Ea (o_bs rfl rfl rfl rfl) (Ea (Ef rfl) ?_)))))))))))
 refine Ed (Ec (Eb [0, 1, 2, 7] rfl (Eh (Eh (En (Ea (Ef rfl) (Ez rfl rfl (c_22 ..) (Ea (Ef rfl) (Ed (Ec (Eb [0, 1, 2, 7, 11, 12] rfl ?_)))))))))))
 refine Fj (S_loop (ι := (Nat × List Int × Int)) (fun p => p.1 ≤ (beats b).toNat ∧ p.2.1.length = p.1 ∧ bl s b (beats b).toNat a = (bl s b ((beats b).toNat - p.1) p.2.2).map (p.2.1 ++ ·)) (fun p => [(12, .w (.int .i64 (p.1 : Int))), (7, .ls 0 (p.2.1.map iR).length), (0, .w (.int .i64 p.2.2))]) (fun p => [.arr 1 (p.2.1.map iR)]) (fun p => (beats b).toNat - p.1) 1 (0, [], a) ⟨by simp, rfl, by simp⟩ rfl (hasOf ⟨rfl, rfl, rfl, trivial⟩ rfl) rfl (fun _ _ => rfl) (fun _ _ => ⟨rfl, rfl⟩) ?_)
 rintro ⟨i, pre, c⟩ hi
 obtain ⟨hi1, hi2, hi3⟩ := hi
 simp only at hi1 hi2 hi3
 refine Eb [0, 1, 2, 7, 11, 12] rfl ?_
 dsimp only
 refine Eh (En (Ea (o_lss rfl rfl) (Ed (Ec (Eb [0, 1, 2, 7, 11, 12, 13] rfl (Eh ?_))))))
 first | refine Ey rfl ?_ ?_ | refine Ev rfl ?_ ?_
 intro h1
 try rw [nnp] at h1
 refine Fa (Ec (Eb [0, 1, 2, 7, 11, 12] rfl (Eh (Fj (Eh (En (Ea (Ef rfl) (Ea (Ef rfl) (Ea (Ef rfl) (Ez rfl rfl (c_60 ..) (Ea (Ef rfl) ?_)))))))))))
 refine Ed (Ec (Eb [0, 1, 2, 7, 8, 11, 12] rfl (Eh (Eh (En (Ea (Ef rfl) (Ea (o_lss rfl rfl) (Ed (Ec (Eb [0, 1, 2, 7, 8, 11, 12, 19] rfl ?_))))))))))
 first | refine Ey rfl ?_ ?_ | refine Ev rfl ?_ ?_
 intro h2
 try rw [nnp] at h2
 refine Eh (En (Ea (Ef rfl) (Ed (Ec (Eb [6] rfl (Ep (Eu (Fd (Eu (Fw (Fd ?_)))))))))))
 refine Eu ?_
 · first | (refine ret_leafW (.inr rfl) rfl rfl (.nil 1 _) ?_; rw [bl_none hi3 (by omega) (by assumption)]; rfl; done) | (refine ret_leafA (.inr rfl) rfl rfl rfl ?_; rw [bl_end hi3 (by omega)]; done) | (refine ret_leafA (.inr rfl) rfl rfl rfl ?_; rw [bl_none hi3 (by omega) (by omega)]; rfl; done)
 intro h2
 try rw [nnp] at h2
 refine Fa (Ec (Eb [0, 1, 2, 7, 8, 11, 12] rfl (Eh (En (Ea (Ef rfl) (Ea (Ef rfl) (Ea (o_bs rfl rfl rfl rfl) ?_)))))))
 first | refine Ea (o_appL rfl rfl rfl rfl rfl rfl rfl (by simp [roomy]; omega)) ?_ | refine Ea (o_app rfl rfl rfl rfl rfl (by simp [roomy]; omega)) ?_
 refine Ea (Ef rfl) (Ed (Ec (Eb [1, 2, 7, 8, 11, 12] rfl (En (Ea (Ef rfl) (Ea (Ef rfl) (Ed (q_blkN (Ec (Eb [0, 1, 2, 7, 11, 12] rfl (En ?_)))))))))))
 first | refine Ea (Fs rfl rfl (by omega)) ?_ | refine Ea (o_add rfl rfl) ?_
 refine Ea (Ef rfl) (Ed (q_loopN ?_))
 · refine ⟨(i + 1, pre ++ [c], nextA c s b), ⟨by simp only; omega, by simp only [List.length_append, List.length_cons, List.length_nil]; omega, bl_step hi3 (by omega) (by assumption)⟩, by simp only; omega, hasOf ⟨rfl, ?_, rfl, trivial⟩ ?_⟩
   · rw [iR_app]; rfl
   · simp only; rw [iR_app]; rfl
 intro h1
 try rw [nnp] at h1
 refine s_exit (q_seqX (q_loopX (q_blkH (Ec (Eb [7] rfl (Eh (En (Ea (Ef rfl) (Ea (Ef rfl) (Ed (Ec ?_)))))))))))
 refine Eb [6] rfl (Ep ?_)
 · first | (refine ret_leafW (.inr rfl) rfl rfl (.nil 1 _) ?_; rw [bl_none hi3 (by omega) (by assumption)]; rfl; done) | (refine ret_leafA (.inr rfl) rfl rfl rfl ?_; rw [bl_end hi3 (by omega)]; done) | (refine ret_leafA (.inr rfl) rfl rfl rfl ?_; rw [bl_none hi3 (by omega) (by omega)]; rfl; done)
theorem c_179 (a s b : Int) : CV prg 179 [.w (.int .i64 a), .w (.int .i64 s), .w (.int .i64 b)] (fun res => res = .sl 1 ((burstL a s b).map iR)) := by
 have hb := beats_bd b
 refine Fo g179 (Eb [0, 1, 2] rfl (Eh (En (Ea (Ef rfl) (Ed (Ec (Eb [0, 1, 2] rfl (Eh (En (Ea (o_bs rfl rfl rfl rfl) (Ea (Ef rfl) ?_)))))))))))
 refine Ed (Ec (Eb [0, 1, 2, 7] rfl (Eh (Fj (S_loop (ι := (List Int × Int)) (fun p => p.1.length ≤ (beats b).toNat ∧ bl s b (beats b).toNat a = (bl s b ((beats b).toNat - p.1.length) p.2).map (p.1 ++ ·)) (fun p => [(7, .ls 0 (p.1.map iR).length), (0, .w (.int .i64 p.2))]) (fun p => [.arr 1 (p.1.map iR)]) (fun p => (beats b).toNat - p.1.length) 1 ([], a) ⟨by simp, by simp⟩ rfl (hasOf ⟨rfl, rfl, trivial⟩ rfl) rfl (fun _ _ => rfl) (fun _ _ => ⟨rfl, rfl⟩) ?_)))))
 rintro ⟨pre, c⟩ hi
 obtain ⟨hi1, hi3⟩ := hi
 simp only at hi1 hi3
 have hml : (pre.map iR).length = pre.length := List.length_map ..
 refine Eb [0, 1, 2, 7] rfl ?_
 dsimp only
 refine Eh (Eh (En (Ea (Ef rfl) (Ea (o_lenL rfl rfl rfl) (Ea (Ef rfl) (Ez rfl rfl (c_173 ..) (Ea (o_lss rfl rfl) (Ea (Ef rfl) ?_))))))))
 first | refine Ff rfl ?_ ?_ | refine Fe rfl ?_ ?_
 intro h1
 try rw [nnp] at h1
 refine Ea (Ef rfl) (Ei rfl (Ea (Ef rfl) (Ei rfl (Ea (Ef rfl) (Ei rfl (Ez rfl rfl (c_205 ..) (Ei rfl (Ea (o_geq rfl rfl) (Ea (Em rfl rfl) (Ed (Ec ?_)))))))))))
 refine Eb [0, 1, 2, 7, 15, 16, 17, 18, 19, 20] rfl ?_
 first | refine Ey rfl ?_ ?_ | refine Ev rfl ?_ ?_
 intro h2
 try rw [nnp] at h2
 refine Fa (Ec (Eb [0, 1, 2, 7, 15, 16, 17, 18, 19] rfl (Fj (Eh (En (Ea (Ef rfl) (Ea (Ef rfl) (Ea (o_bs rfl rfl rfl rfl) ?_))))))))
 first | refine Ea (o_appL rfl rfl rfl rfl rfl rfl rfl (by simp [roomy]; omega)) ?_ | refine Ea (o_app rfl rfl rfl rfl rfl (by simp [roomy]; omega)) ?_
 refine Ea (Ef rfl) (Ed (Ec (Eb [0, 1, 2, 7, 15, 16, 17, 18, 19] rfl (En (Ea (Ef rfl) (Ea (Ef rfl) (Ea (Ef rfl) (Ez rfl rfl (c_205 ..) (Ea (Ef rfl) (Ed (q_blkN ?_)))))))))))
 refine q_loopN ?_
 · refine ⟨(pre ++ [c], nextA c s b), ⟨by simp only [List.length_append, List.length_cons, List.length_nil]; omega, by simp only [List.length_append, List.length_cons, List.length_nil]; exact bl_step hi3 (by omega) (by omega)⟩, by simp only [List.length_append, List.length_cons, List.length_nil]; omega, hasOf ⟨?_, rfl, trivial⟩ ?_⟩
   · rw [iR_app]; rfl
   · simp only; rw [iR_app]; rfl
 intro h2
 try rw [nnp] at h2
 refine s_exit (q_seqX (q_loopX (q_blkH (Ec (Eb [2, 7] rfl (Eh (Eh (En (Ea (Ef rfl) (Ea (o_lenL rfl rfl rfl) (Ea (Ef rfl) ?_)))))))))))
 refine Ez rfl rfl (c_173 ..) (Ea (o_lss rfl rfl) (Ed (Ec (Eb [7, 33] rfl ?_))))
 first | refine Ey rfl ?_ ?_ | refine Ev rfl ?_ ?_
 intro h3
 try rw [nnp] at h3
 refine Eh (En (Ea (o_bs rfl rfl rfl rfl) (Ea (Ef rfl) (Ed (Ec (Eb [6] rfl (Ep (Eu ?_))))))))
 · first | (refine ret_leafW (.inr rfl) rfl rfl (.nil 1 _) ?_; rw [bl_none hi3 (by omega) (by assumption)]; rfl; done) | (refine ret_leafA (.inr rfl) rfl rfl rfl ?_; rw [bl_end hi3 (by omega)]; done) | (refine ret_leafA (.inr rfl) rfl rfl rfl ?_; rw [bl_none hi3 (by omega) (by omega)]; rfl; done)
 intro h3
 try rw [nnp] at h3
 refine Fa (Ec (Eb [7] rfl (Eh (En (Ea (Ef rfl) (Ea (Ef rfl) (Ed (Ec (Eb [6] rfl (Ep ?_))))))))))
 · first | (refine ret_leafW (.inr rfl) rfl rfl (.nil 1 _) ?_; rw [bl_none hi3 (by omega) (by assumption)]; rfl; done) | (refine ret_leafA (.inr rfl) rfl rfl rfl ?_; rw [bl_end hi3 (by omega)]; done) | (refine ret_leafA (.inr rfl) rfl rfl rfl ?_; rw [bl_none hi3 (by omega) (by omega)]; rfl; done)
 intro h1
 try rw [nnp] at h1
 refine Ee rfl (Ee rfl (Ee rfl (Ee rfl (Ee rfl (Ea (Ej rfl rfl) (Ed (Ec (Eb [0, 1, 2, 7, 15, 16, 17, 18, 19, 20] rfl (s_condF rfl (s_exit (q_seqX ?_)))))))))))
 refine q_loopX (q_blkH (Ec (Eb [2, 7] rfl (Eh (Eh (En (Ea (Ef rfl) (Ea (o_lenL rfl rfl rfl) (Ea (Ef rfl) (Ez rfl rfl (c_173 ..) (Ea (o_lss rfl rfl) ?_)))))))))))
 refine Ed (Ec (Eb [7, 33] rfl ?_))
 first | refine Ey rfl ?_ ?_ | refine Ev rfl ?_ ?_
 intro h4
 try rw [nnp] at h4
 refine Eh (En (Ea (o_bs rfl rfl rfl rfl) (Ea (Ef rfl) (Ed (Ec (Eb [6] rfl (Ep (Eu ?_))))))))
 · first | (refine ret_leafW (.inr rfl) rfl rfl (.nil 1 _) ?_; rw [bl_none hi3 (by omega) (by assumption)]; rfl; done) | (refine ret_leafA (.inr rfl) rfl rfl rfl ?_; rw [bl_end hi3 (by omega)]; done) | (refine ret_leafA (.inr rfl) rfl rfl rfl ?_; rw [bl_none hi3 (by omega) (by omega)]; rfl; done)
 intro h4
 try rw [nnp] at h4
 refine Fa (Ec (Eb [7] rfl (Eh (En (Ea (Ef rfl) (Ea (Ef rfl) (Ed (Ec (Eb [6] rfl (Ep ?_))))))))))
 · first | (refine ret_leafW (.inr rfl) rfl rfl (.nil 1 _) ?_; rw [bl_none hi3 (by omega) (by assumption)]; rfl; done) | (refine ret_leafA (.inr rfl) rfl rfl rfl ?_; rw [bl_end hi3 (by omega)]; done) | (refine ret_leafA (.inr rfl) rfl rfl rfl ?_; rw [bl_none hi3 (by omega) (by omega)]; rfl; done)
def onPage (l : List Int) (x : Int) : Bool := decide (IntKind.wrap .i64 (x.tdiv 64) = IntKind.wrap .i64 (((l[0]?).getD 0).tdiv 64))
theorem page_no {l : List Int} {x y : Int} (h0 : l[0]? = some y) (h : ¬ IntKind.wrap .i64 (x.tdiv 64) = IntKind.wrap .i64 (y.tdiv 64)) : onPage l x = false := by unfold onPage; rw [h0]; exact decide_eq_false h
theorem page_is {l : List Int} {x y : Int} (h0 : l[0]? = some y) (h : IntKind.wrap .i64 (x.tdiv 64) = IntKind.wrap .i64 (y.tdiv 64)) : onPage l x = true := by unfold onPage; rw [h0]; exact decide_eq_true h
def burstOk (a s b : Int) : Bool := (burstL a s b).all (onPage (burstL a s b)) && decide (0 < (burstL a s b).length)
theorem c_30 (a s b : Int) : CV prg 30 [.w (.int .i64 a), .w (.int .i64 s), .w (.int .i64 b)] (fun res => res = .w (.bool (burstOk a s b))) := by
 have hlen := burstL_le a s b
 refine Fo g30 (Eb [0, 1, 2] rfl (Eh (En (Ea (Ef rfl) (Ed (Ec (Eb [0, 1, 2] rfl (Eh (En (Ea (Ef rfl) (Ea (Ef rfl) ?_)))))))))))
 refine Ea (Ef rfl) (Ez rfl rfl (c_29 ..) (Ea (Ef rfl) (Ed (Ec (Eb [7] rfl (Eh (Eh (En (Ea (Ef rfl) ?_)))))))))
 first | refine Ea (Fk rfl) ?_ | refine Ea (Fu rfl) ?_ | refine Ea (o_lenL rfl rfl rfl) ?_ | refine Ea (o_lenN rfl) ?_
 refine Ea (Ef rfl) (Ed (Ec (Eb [7, 14, 15, 16] rfl (Fj (S_loop0 (ι := Nat) (fun i => i ≤ (burstL a s b).length ∧ ((burstL a s b).take i).all (onPage (burstL a s b)) = true) (fun i => [(16, .w (.int .i64 (i : Int)))]) (fun i => (burstL a s b).length - i) 0 (by simp) rfl ⟨rfl, trivial⟩ (fun _ _ => rfl) rfl ?_)))))
 intro i hi
 refine Eb [7, 14, 15, 16] rfl (Eh (En (Ea (o_lss rfl rfl) (Ed (Ec (Eb [7, 14, 15, 16, 17] rfl (Eh ?_)))))))
 first | refine Ey rfl ?_ ?_ | refine Ev rfl ?_ ?_
 intro h1
 try rw [nnp] at h1
 refine Fa (Ec (Eb [7, 14, 15, 16] rfl (Eh (Fj (Eh (En (s_iaM rfl rfl (by omega) ?_)))))))
 intro y2 e2
 try simp only [Int.toNat_natCast, Int.toNat_zero] at e2
 refine Ea (o_ld rfl rfl) (Ea (Ef rfl) (Ed (Ec (Eb [7, 9, 14, 15, 16] rfl (Eh (En (Ea (Ef rfl) ?_)))))))
 first | refine Ea (o_quo rfl rfl (by decide)) ?_ | refine Ea (o_quo rfl rfl (by omega)) ?_
 refine Ea (Ef rfl) (s_iaM rfl rfl (by omega) ?_)
 intro y3 e3
 try simp only [Int.toNat_natCast, Int.toNat_zero] at e3
 refine Ea (o_ld rfl rfl) ?_
 first | refine Ea (o_quo rfl rfl (by decide)) ?_ | refine Ea (o_quo rfl rfl (by omega)) ?_
 refine Ea (o_neq rfl rfl) (Ed (Ec (Eb [7, 14, 15, 16, 26] rfl ?_)))
 first | refine Ey rfl ?_ ?_ | refine Ev rfl ?_ ?_
 intro h4
 try rw [nnp] at h4
 refine Eh (En (Ea (Ef rfl) (Ed (Ec (Eb [6] rfl (Ep (Fd (Eu (Fw (Fd (Eu ?_)))))))))))
 refine Eg rfl rfl ?_
 rotate_left
 intro h4
 try rw [nnp] at h4
 refine Fa (q_blkN (Ec (Eb [7, 14, 15, 16] rfl (En ?_))))
 first | refine Ea (Fs rfl rfl (by omega)) ?_ | refine Ea (o_add rfl rfl) ?_
 refine Ea (Ef rfl) (Ed (q_loopN ?_))
 · exact ⟨i + 1, ⟨by omega, all_take (by assumption : (burstL a s b)[i]? = some _) hi.2 (page_is (by assumption : (burstL a s b)[0]? = some _) (by assumption))⟩, by omega, hasOf ⟨rfl, trivial⟩ rfl⟩
 intro h1
 try rw [nnp] at h1
 refine s_exit (q_seqX (q_loopX (q_blkH (Ec (Eb [7] rfl (Eh (En (Ea (Ef rfl) ?_))))))))
 first | refine Ea (Fk rfl) ?_ | refine Ea (Fu rfl) ?_ | refine Ea (o_lenL rfl rfl rfl) ?_ | refine Ea (o_lenN rfl) ?_
 refine Ea (o_gtr rfl rfl) (Ea (Ef rfl) (Ed (Ec (Eb [6] rfl (Ep (Eg rfl rfl ?_))))))
 rotate_left
 all_goals
  first | (unfold burstOk; rw [all_no (by assumption : (burstL a s b)[i]? = some _) (page_no (by assumption : (burstL a s b)[0]? = some _) (by assumption))]; rfl; done) | (unfold burstOk; rw [all_end hi.2 (by omega)]; simp; done)
theorem c_180 (a s b : Int) : CV prg 180 [.w (.int .i64 a), .w (.int .i64 s), .w (.int .i64 b)] (fun res => res = .w (.bool (burstOk a s b))) := by
 have hlen := burstL_le a s b
 refine Fo g180 (Eb [0, 1, 2] rfl (Eh (En (Ea (Ef rfl) (Ed (Ec (Eb [0, 1, 2] rfl (Eh (En (Ea (Ef rfl) (Ea (Ef rfl) ?_)))))))))))
 refine Ea (Ef rfl) (Ez rfl rfl (c_179 ..) (Ea (Ef rfl) (Ed (Ec (Eb [7] rfl (Eh (Eh (En (Ea (Ef rfl) (Ed (Ec ?_)))))))))))
 refine Eb [7, 8] rfl (Fj (S_loop0 (ι := Nat) (fun i => i ≤ (burstL a s b).length ∧ ((burstL a s b).take i).all (onPage (burstL a s b)) = true) (fun i => [(8, .w (.int .i64 (i : Int)))]) (fun i => (burstL a s b).length - i) 0 (by simp) rfl ⟨rfl, trivial⟩ (fun _ _ => rfl) rfl ?_))
 intro i hi
 refine Eb [7, 8] rfl (Eh (Eh (En (Ea (Ef rfl) (Ea (Ef rfl) ?_)))))
 first | refine Ea (Fk rfl) ?_ | refine Ea (Fu rfl) ?_ | refine Ea (o_lenL rfl rfl rfl) ?_ | refine Ea (o_lenN rfl) ?_
 refine Ea (o_lss rfl rfl) (Ed (Ec (Eb [7, 8, 16] rfl ?_)))
 first | refine Ey rfl ?_ ?_ | refine Ev rfl ?_ ?_
 intro h1
 try rw [nnp] at h1
 refine Fa (Ec (Eb [7, 8] rfl (Eh (Fj (Eh (En (Ea (Ef rfl) (Ea (Ef rfl) (s_iaM rfl rfl (by omega) ?_)))))))))
 intro y2 e2
 try simp only [Int.toNat_natCast, Int.toNat_zero] at e2
 refine Ea (o_ld rfl rfl) ?_
 first | refine Ea (o_quo rfl rfl (by decide)) ?_ | refine Ea (o_quo rfl rfl (by omega)) ?_
 refine Ea (Ef rfl) (s_iaM rfl rfl (by omega) ?_)
 intro y3 e3
 try simp only [Int.toNat_natCast, Int.toNat_zero] at e3
 refine Ea (o_ld rfl rfl) ?_
 first | refine Ea (o_quo rfl rfl (by decide)) ?_ | refine Ea (o_quo rfl rfl (by omega)) ?_
 refine Ea (o_neq rfl rfl) (Ed (Ec (Eb [7, 8, 28] rfl ?_)))
 first | refine Ey rfl ?_ ?_ | refine Ev rfl ?_ ?_
 intro h4
 try rw [nnp] at h4
 refine Eh (En (Ea (Ef rfl) (Ed (Ec (Eb [6] rfl (Ep (Fd (Eu (Fw (Fd (Eu ?_)))))))))))
 refine Eg rfl rfl ?_
 rotate_left
 intro h4
 try rw [nnp] at h4
 refine Fa (q_blkN (Ec (Eb [7, 8] rfl (En (Ea (Ef rfl) ?_)))))
 first | refine Ea (Fs rfl rfl (by omega)) ?_ | refine Ea (o_add rfl rfl) ?_
 refine Ea (Ef rfl) (Ed (q_loopN ?_))
 · exact ⟨i + 1, ⟨by omega, all_take (by assumption : (burstL a s b)[i]? = some _) hi.2 (page_is (by assumption : (burstL a s b)[0]? = some _) (by assumption))⟩, by omega, hasOf ⟨rfl, trivial⟩ rfl⟩
 intro h1
 try rw [nnp] at h1
 refine s_exit (q_seqX (q_loopX (q_blkH (Ec (Eb [7] rfl (Eh (En (Ea (Ef rfl) ?_))))))))
 first | refine Ea (Fk rfl) ?_ | refine Ea (Fu rfl) ?_ | refine Ea (o_lenL rfl rfl rfl) ?_ | refine Ea (o_lenN rfl) ?_
 refine Ea (o_gtr rfl rfl) (Ea (Ef rfl) (Ed (Ec (Eb [6] rfl (Ep (Eg rfl rfl ?_))))))
 rotate_left
 all_goals
  first | (unfold burstOk; rw [all_no (by assumption : (burstL a s b)[i]? = some _) (page_no (by assumption : (burstL a s b)[0]? = some _) (by assumption))]; rfl; done) | (unfold burstOk; rw [all_end hi.2 (by omega)]; simp; done)
theorem c_266 (xs : List Int) (hl : xs.length ≤ 140737488355328) (f : Nat) (caps : List V) (hc : caps.all (V.fzV 5) = true) (p : Int → Bool) (h : ∀ y, y ∈ xs → CV prg f (.w (.int .i64 y) :: caps) (fun v => v = .w (.bool (p y)))) : CV prg 266 [.sl 1 (xs.map iR), .fn f caps] (fun res => res = .w (.int .i64 (idxOf p xs))) := by
 refine Fo g266 (Eb [0, 1] rfl (Eh (En (Ea (Ef rfl) (Ed (Ec (Eb [0, 1] rfl (Eh (Eh (En (Ea (Ef rfl) ?_)))))))))))
 first | refine Ea (Fk rfl) ?_ | refine Ea (Fu rfl) ?_
 refine Ea (Ef rfl) (Ed (Ec (Eb [0, 1, 7, 8] rfl (Fj (S_loop0 (ι := Nat) (fun i => i ≤ xs.length ∧ (xs.take i).any p = false) (fun i => [(8, .w (.int .i64 (i : Int)))]) (fun i => xs.length - i) 0 (by simp) rfl ⟨rfl, trivial⟩ (fun _ _ => rfl) rfl ?_)))))
 intro i hi
 refine Eb [0, 1, 7, 8] rfl (Eh (En (Ea (o_lss rfl rfl) (Ed (Ec (Eb [0, 1, 7, 8, 9] rfl (Eh ?_)))))))
 first | refine Ey rfl ?_ ?_ | refine Ev rfl ?_ ?_
 intro h1
 try rw [nnp] at h1
 refine Fa (Ec (Eb [0, 1, 7, 8] rfl (Eh (Fj (Eh (En (Ea (Ef rfl) (Ea (Ef rfl) (Ed (Ec (Eb [0, 1, 5, 7, 8] rfl ?_)))))))))))
 refine Eh (En (Ea (Ef rfl) (Ea (Ef rfl) (Ea (Ef rfl) (s_iaM rfl rfl (by simp at *; omega) ?_)))))
 intro y2 e2
 try simp only [Int.toNat_natCast, Int.toNat_zero] at e2
 refine Ea (o_ld rfl rfl) (s_calli rfl rfl (fz1 rfl hc) (h _ (List.mem_of_getElem? (by assumption))) (Ed (Ec (Eb [0, 1, 5, 7, 8, 16] rfl ?_))))
 first | refine Ey rfl ?_ ?_ | refine Fp rfl ?_ ?_ | refine Fh rfl ?_ ?_ | refine Ev rfl ?_ ?_
 intro h3
 try rw [nnp] at h3
 refine Eh (En (Ea (Ef rfl) (Ea (Ef rfl) (Ed (Ec (Eb [4] rfl (Ep (Fd (Eu (Fw (Fd ?_)))))))))))
 refine Eu (Fc rfl rfl ?_)
 rotate_left
 intro h3
 try rw [nnp] at h3
 refine Fa (q_blkN (Ec (Eb [0, 1, 7, 8] rfl (En ?_))))
 first | refine Ea (Fs rfl rfl (by omega)) ?_ | refine Ea (o_add rfl rfl) ?_
 refine Ea (Ef rfl) (Ed (q_loopN ?_))
 · exact ⟨i + 1, ⟨by omega, any_take (by assumption) hi.2 (by assumption)⟩, by omega, hasOf ⟨rfl, trivial⟩ rfl⟩
 intro h1
 try rw [nnp] at h1
 refine s_exit (q_seqX (q_loopX (q_blkH (Ec (Eb [] rfl (Eh (En (Ea (Ef rfl) (Ed (Ec (Eb [4] rfl ?_)))))))))))
 refine Ep (Fc rfl rfl ?_)
 rotate_left
 all_goals
  first | exact (idxOf_at (by assumption) hi.2 (by assumption)).symm | exact (idxOf_no (any_end hi.2 (by omega))).symm
theorem c_257 (xs : List Int) (hl : xs.length ≤ 140737488355328) (f : Nat) (caps : List V) (hc : caps.all (V.fzV 5) = true) (p : Int → Bool) (h : ∀ y, y ∈ xs → CV prg f (.w (.int .i64 y) :: caps) (fun v => v = .w (.bool (p y)))) : CV prg 257 [.sl 1 (xs.map iR), .fn f caps] (fun res => res = .w (.bool (xs.any p))) := by
 refine Fo g257 (Eb [0, 1] rfl (Eh (En (Ea (Ef rfl) (Ed (Ec (Eb [0, 1] rfl (Eh (En (Ea (Ef rfl) (Ea (Ef rfl) ?_)))))))))))
 refine Ez rfl (fz2 rfl hc) (c_266 _ (by assumption) _ _ hc _ h) (Ea (o_geq rfl rfl) (Ea (Ef rfl) (Ed (Ec (Eb [4] rfl (Ep (Eg rfl rfl ?_)))))))
 rotate_left
 all_goals
  exact idxOf_any p xs
theorem c_271 (xs : List Req) (hl : xs.length ≤ 140737488355328) (f : Nat) (caps : List V) (hc : caps.all (V.fzV 5) = true) (p : Req → Bool) (h : ∀ y, y ∈ xs → CV prg f (.agg (Req.r y) :: caps) (fun v => v = .w (.bool (p y)))) : CV prg 271 [.sl 6 (xs.map Req.r), .fn f caps] (fun res => res = .w (.int .i64 (idxOf p xs))) := by
 refine Fo g271 (Eb [0, 1] rfl (Eh (En (Ea (Ef rfl) (Ed (Ec (Eb [0, 1] rfl (Eh (Eh (En (Ea (Ef rfl) ?_)))))))))))
 first | refine Ea (Fk rfl) ?_ | refine Ea (Fu rfl) ?_
 refine Ea (Ef rfl) (Ed (Ec (Eb [0, 1, 7, 8] rfl (Fj (S_loop0 (ι := Nat) (fun i => i ≤ xs.length ∧ (xs.take i).any p = false) (fun i => [(8, .w (.int .i64 (i : Int)))]) (fun i => xs.length - i) 0 (by simp) rfl ⟨rfl, trivial⟩ (fun _ _ => rfl) rfl ?_)))))
 intro i hi
 refine Eb [0, 1, 7, 8] rfl (Eh (En (Ea (o_lss rfl rfl) (Ed (Ec (Eb [0, 1, 7, 8, 9] rfl (Eh ?_)))))))
 first | refine Ey rfl ?_ ?_ | refine Ev rfl ?_ ?_
 intro h1
 try rw [nnp] at h1
 refine Fa (Ec (Eb [0, 1, 7, 8] rfl (Eh (Fj (Eh (En (Ea (Ef rfl) (Ea (Ef rfl) (Ed (Ec (Eb [0, 1, 5, 7, 8] rfl ?_)))))))))))
 refine Eh (En (Ea (Ef rfl) (Ea (Ef rfl) (Ea (Ef rfl) (s_iaM rfl rfl (by simp at *; omega) ?_)))))
 intro y2 e2
 try simp only [Int.toNat_natCast, Int.toNat_zero] at e2
 refine Ea (o_ldn rfl rfl) (s_calli rfl rfl (fz1 rfl hc) (h _ (List.mem_of_getElem? (by assumption))) (Ed (Ec (Eb [0, 1, 5, 7, 8, 16] rfl ?_))))
 first | refine Ey rfl ?_ ?_ | refine Fp rfl ?_ ?_ | refine Fh rfl ?_ ?_ | refine Ev rfl ?_ ?_
 intro h3
 try rw [nnp] at h3
 refine Eh (En (Ea (Ef rfl) (Ea (Ef rfl) (Ed (Ec (Eb [4] rfl (Ep (Fd (Eu (Fw (Fd ?_)))))))))))
 refine Eu (Fc rfl rfl ?_)
 rotate_left
 intro h3
 try rw [nnp] at h3
 refine Fa (q_blkN (Ec (Eb [0, 1, 7, 8] rfl (En ?_))))
 first | refine Ea (Fs rfl rfl (by omega)) ?_ | refine Ea (o_add rfl rfl) ?_
 refine Ea (Ef rfl) (Ed (q_loopN ?_))
 · exact ⟨i + 1, ⟨by omega, any_take (by assumption) hi.2 (by assumption)⟩, by omega, hasOf ⟨rfl, trivial⟩ rfl⟩
 intro h1
 try rw [nnp] at h1
 refine s_exit (q_seqX (q_loopX (q_blkH (Ec (Eb [] rfl (Eh (En (Ea (Ef rfl) (Ed (Ec (Eb [4] rfl ?_)))))))))))
 refine Ep (Fc rfl rfl ?_)
 rotate_left
 all_goals
  first | exact (idxOf_at (by assumption) hi.2 (by assumption)).symm | exact (idxOf_no (any_end hi.2 (by omega))).symm
theorem c_260 (xs : List Req) (hl : xs.length ≤ 140737488355328) (f : Nat) (caps : List V) (hc : caps.all (V.fzV 5) = true) (p : Req → Bool) (h : ∀ y, y ∈ xs → CV prg f (.agg (Req.r y) :: caps) (fun v => v = .w (.bool (p y)))) : CV prg 260 [.sl 6 (xs.map Req.r), .fn f caps] (fun res => res = .w (.bool (xs.any p))) := by
 refine Fo g260 (Eb [0, 1] rfl (Eh (En (Ea (Ef rfl) (Ed (Ec (Eb [0, 1] rfl (Eh (En (Ea (Ef rfl) (Ea (Ef rfl) ?_)))))))))))
 refine Ez rfl (fz2 rfl hc) (c_271 _ (by assumption) _ _ hc _ h) (Ea (o_geq rfl rfl) (Ea (Ef rfl) (Ed (Ec (Eb [4] rfl (Ep (Eg rfl rfl ?_)))))))
 rotate_left
 all_goals
  exact idxOf_any p xs
def Req.ok (x : Req) : Bool := burstOk x.addr x.size x.burst && decide ((x.data.length : Int) = if x.write then beats x.burst else 0) && x.data.all fun v => inB v 0 (limit x.size - 1)
theorem data_not (l : Int) (xs : List Int) : (!xs.any (fun v => !inB v 0 l)) = xs.all (fun v => inB v 0 l) := by
 induction xs with
 | nil => rfl
 | cons m xs ih => simp only [List.any_cons, List.all_cons, Bool.not_or, Bool.not_not, ih]
theorem c_67 (d : Int) (x : Req) : CV prg 67 [.w (.int .i64 d), .rp x.r 0] (fun res => res = .w (.bool (!inB d 0 (limit x.size - 1)))) := by
 refine Fo g67 (Eb [0, 1] rfl (Eh (En (Ea (Ef rfl) (Ed (Ec (Eb [0, 1] rfl (Eh (En (Ea (Ef rfl) (Ea (o_fa rfl) ?_)))))))))))
 refine Ea (o_ld rfl rfl) ?_
 first | refine Ez rfl rfl (c_92 ..) ?_ | refine Ew rfl rfl (by simp) (c_92 ..) rfl ?_
 refine Ea (Fg rfl) (Ea (Ef rfl) (Ed (Ec (Eb [3] rfl (Ep (Eg rfl rfl ?_))))))
 rotate_left
 all_goals
  rfl
theorem c_66 (x : Req) (hs : x.small) : CV prg 66 [.agg x.r] (fun res => res = .w (.bool x.ok)) := by
 have hd : x.data.length ≤ 1048576 := hs
 refine Fo g66 (Eb [0] rfl (Eh (En (Ea (o_box rfl rfl rfl) (Ea (Ef rfl) (Ed (Ec (Eb [1] rfl (Eh (En (Ea (Ef rfl) ?_)))))))))))
 refine Ed (Ec (Eb [1, 3] rfl (Eh (Eh (En (Ea (Ek rfl) (Ea (Eo rfl rfl rfl) (Ed (Ec (Eb [1, 3, 5] rfl ?_))))))))))
 first | refine Ey rfl ?_ ?_ | refine Fp rfl ?_ ?_ | refine Fh rfl ?_ ?_ | refine Ev rfl ?_ ?_
 intro h1
 try rw [nnp] at h1
 refine En (Ea (Ek rfl) (Ea (Eo rfl rfl rfl) ?_))
 first | refine Ez rfl rfl (c_22 ..) ?_ | refine Ew rfl rfl (by simp) (c_22 ..) rfl ?_
 refine Ea (Ef rfl) (Ed (Ec (Eb [1, 3] rfl (Eh (En (Ea (Ek rfl) (Ea (Eo rfl rfl rfl) (Ea (Ek rfl) (Ea (Eo rfl rfl rfl) (Ea (Ek rfl) (Ea (Eo rfl rfl rfl) ?_)))))))))))
 first | refine Ez rfl rfl (c_30 ..) ?_ | refine Ew rfl rfl (by simp) (c_30 ..) rfl ?_
 refine Ea (Ef rfl) ?_
 first | refine Ff rfl ?_ ?_ | refine Ft rfl ?_ ?_ | refine s_gNT rfl ?_ ?_ | refine Fe rfl ?_ ?_
 intro h2
 try rw [nnp] at h2
 refine Ea (Ek rfl) (Ei rfl (Ea (Eo rfl rfl rfl) (Ei rfl ?_)))
 first | refine Ea (Fk rfl) ?_ | refine Ea (Fu rfl) ?_ | refine Ea (o_lenL rfl rfl rfl) ?_ | refine Ea (o_lenN rfl) ?_
 refine Ei rfl (Ea (Ef rfl) (Ei rfl (Ea (Fv rfl rfl) (Ea (Em rfl rfl) (Er (is := [1, 22]) rfl (Ea (Ef rfl) ?_))))))
 first | refine Ff rfl ?_ ?_ | refine Fe rfl ?_ ?_
 intro h3
 try rw [nnp] at h3
 refine Ea (Ek rfl) (Ei rfl (Ea (Eo rfl rfl rfl) (Ei rfl (Ea (o_fn rfl) (Ei rfl (Ew rfl rfl (by simp) (c_257 _ (by omega) _ _ rfl (fun d => !inB d 0 (limit x.size - 1)) (fun y _ => c_67 y x)) rfl (Ei rfl (Ea (Fg rfl) (Ea (Em rfl rfl) (Ea (Ef rfl) (Ed ?_)))))))))))
 refine Ec (Eb [2] rfl (Ep (Eg rfl rfl ?_)))
 rotate_left
 intro h3
 try rw [nnp] at h3
 refine Ee rfl (Ee rfl (Ee rfl (Ee rfl (Ee rfl (Ea (Ej rfl rfl) (Ea (Ef rfl) (Ed (Ec (Eb [2] rfl (Ep (Eg rfl rfl ?_)))))))))))
 rotate_left
 intro h2
 try rw [nnp] at h2
 refine Ee rfl (Ee rfl (Ee rfl (Ee rfl (Ee rfl (Ea (Ej rfl rfl) (Er (is := [1, 22]) rfl (Ea (Ef rfl) (Ee rfl (Ee rfl (Ee rfl (Ee rfl ?_)))))))))))
 refine Ee rfl (Ea (Ej rfl rfl) (Ea (Ef rfl) (Ed (Ec (Eb [2] rfl (Ep (Eg rfl rfl ?_)))))))
 rotate_left
 intro h1
 try rw [nnp] at h1
 refine Fa (Ec (Eb [1, 3] rfl (Eh (En (Ea (Ek rfl) (Ea (Eo rfl rfl rfl) (Ea (Ek rfl) (Ea (Eo rfl rfl rfl) (Ea (Ek rfl) (Ea (Eo rfl rfl rfl) ?_))))))))))
 first | refine Ez rfl rfl (c_30 ..) ?_ | refine Ew rfl rfl (by simp) (c_30 ..) rfl ?_
 refine Ea (Ef rfl) ?_
 first | refine Ff rfl ?_ ?_ | refine Ft rfl ?_ ?_ | refine s_gNT rfl ?_ ?_ | refine Fe rfl ?_ ?_
 intro h4
 try rw [nnp] at h4
 refine Ea (Ek rfl) (Ei rfl (Ea (Eo rfl rfl rfl) (Ei rfl ?_)))
 first | refine Ea (Fk rfl) ?_ | refine Ea (Fu rfl) ?_ | refine Ea (o_lenL rfl rfl rfl) ?_ | refine Ea (o_lenN rfl) ?_
 refine Ei rfl (Ea (Ef rfl) (Ei rfl (Ea (Fv rfl rfl) (Ea (Em rfl rfl) (Er (is := [1, 22]) rfl (Ea (Ef rfl) ?_))))))
 first | refine Ff rfl ?_ ?_ | refine Fe rfl ?_ ?_
 intro h5
 try rw [nnp] at h5
 refine Ea (Ek rfl) (Ei rfl (Ea (Eo rfl rfl rfl) (Ei rfl (Ea (o_fn rfl) (Ei rfl (Ew rfl rfl (by simp) (c_257 _ (by omega) _ _ rfl (fun d => !inB d 0 (limit x.size - 1)) (fun y _ => c_67 y x)) rfl (Ei rfl (Ea (Fg rfl) (Ea (Em rfl rfl) (Ea (Ef rfl) (Ed ?_)))))))))))
 refine Ec (Eb [2] rfl (Ep (Eg rfl rfl ?_)))
 rotate_left
 intro h5
 try rw [nnp] at h5
 refine Ee rfl (Ee rfl (Ee rfl (Ee rfl (Ee rfl (Ea (Ej rfl rfl) (Ea (Ef rfl) (Ed (Ec (Eb [2] rfl (Ep (Eg rfl rfl ?_)))))))))))
 rotate_left
 intro h4
 try rw [nnp] at h4
 refine Ee rfl (Ee rfl (Ee rfl (Ee rfl (Ee rfl (Ea (Ej rfl rfl) (Er (is := [1, 22]) rfl (Ea (Ef rfl) (Ee rfl (Ee rfl (Ee rfl (Ee rfl ?_)))))))))))
 refine Ee rfl (Ea (Ej rfl rfl) (Ea (Ef rfl) (Ed (Ec (Eb [2] rfl (Ep (Eg rfl rfl ?_)))))))
 rotate_left
 all_goals
  first | (rw [data_not]; simp_all [Req.ok]; done) | (simp_all [Req.ok]; done)
end Go.Proofs.YtoppcdecolponaaGreat.AL
