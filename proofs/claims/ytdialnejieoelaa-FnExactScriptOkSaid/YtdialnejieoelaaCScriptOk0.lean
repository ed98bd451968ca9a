/- What functions do with plain data, each by the form of its code. Printed by program. -/
import Derived.Test.YtdialnejieoelaaSpec0
import Derived.Test.YtdialnejieoelaaIrScriptOk
namespace Go.Proofs.Ytdialnejieoelaa.AL
open Go
set_option linter.unusedVariables false
set_option linter.unusedSimpArgs false
set_option maxRecDepth 4096

theorem c_230 (a b c : Int) : CV prg 230 [.w (.int .i64 a), .w (.int .i64 b), .w (.int .i64 c)] (fun res => res = .w (.bool (inB a b c))) := by
  refine cv_in g230 ?_
  refine s_keep [0, 1, 2] rfl ?_
  refine S_seq ?_
  refine s_rg ?_
  refine s_op (o_mv rfl) ?_
  refine s_nilO ?_
  refine q_seqN ?_
  refine s_keep [0, 1, 2] rfl ?_
  refine S_seq ?_
  refine s_rg ?_
  refine s_op (o_mv rfl) ?_
  refine s_op (o_mv rfl) ?_
  first | refine s_op (o_geq rfl rfl) ?_ | refine s_op (o_bin rfl rfl rfl rfl) ?_
  refine s_op (o_mv rfl) ?_
  first | refine s_gDT rfl ?_ ?_ | refine s_gNDT rfl ?_ ?_ | refine s_gNT rfl ?_ ?_ | refine s_gB rfl ?_ ?_
  · intro h1
    try rw [Decidable.not_not] at h1
    refine s_op (o_mv rfl) ?_
    refine s_gT rfl ?_
    refine s_op (o_mv rfl) ?_
    refine s_gT rfl ?_
    first | refine s_op (o_leq rfl rfl) ?_ | refine s_op (o_bin rfl rfl rfl rfl) ?_
    refine s_op (o_pickT rfl rfl) ?_
    refine s_op (o_mv rfl) ?_
    refine s_nilO ?_
    refine q_seqN ?_
    refine s_keep [6] rfl ?_
    refine s_ret ?_
    refine ret_leaf (.inr rfl) rfl rfl ?_
    refine congrArg (fun b => V.w (.bool b)) ?_
    simp_all [inB] <;> omega
  · intro h1
    try rw [Decidable.not_not] at h1
    refine s_gF rfl ?_
    refine s_gF rfl ?_
    refine s_gF rfl ?_
    refine s_op (o_pickF rfl rfl) ?_
    refine s_op (o_mv rfl) ?_
    refine s_nilO ?_
    refine q_seqN ?_
    refine s_keep [6] rfl ?_
    refine s_ret ?_
    refine ret_leaf (.inr rfl) rfl rfl ?_
    refine congrArg (fun b => V.w (.bool b)) ?_
    simp_all [inB] <;> omega

theorem c_103 (a b c : Int) : CV prg 103 [.w (.int .i64 a), .w (.int .i64 b), .w (.int .i64 c)] (fun res => res = .w (.bool (inB a b c))) := by
  refine cv_in g103 ?_
  refine s_keep [0, 1, 2] rfl ?_
  refine S_seq ?_
  refine s_rg ?_
  refine s_op (o_mv rfl) ?_
  refine s_nilO ?_
  refine q_seqN ?_
  refine s_keep [0, 1, 2] rfl ?_
  refine S_seq ?_
  refine s_rg ?_
  refine s_op (o_mv rfl) ?_
  refine s_op (o_mv rfl) ?_
  first | refine s_op (o_leq rfl rfl) ?_ | refine s_op (o_bin rfl rfl rfl rfl) ?_
  refine s_op (o_mv rfl) ?_
  first | refine s_gDT rfl ?_ ?_ | refine s_gNDT rfl ?_ ?_ | refine s_gNT rfl ?_ ?_ | refine s_gB rfl ?_ ?_
  · intro h1
    try rw [Decidable.not_not] at h1
    refine s_op (o_mv rfl) ?_
    refine s_gT rfl ?_
    refine s_op (o_mv rfl) ?_
    refine s_gT rfl ?_
    first | refine s_op (o_leq rfl rfl) ?_ | refine s_op (o_bin rfl rfl rfl rfl) ?_
    refine s_op (o_pickT rfl rfl) ?_
    refine s_op (o_mv rfl) ?_
    refine s_nilO ?_
    refine q_seqN ?_
    refine s_keep [6] rfl ?_
    refine s_ret ?_
    refine ret_leaf (.inr rfl) rfl rfl ?_
    refine congrArg (fun b => V.w (.bool b)) ?_
    simp_all [inB] <;> omega
  · intro h1
    try rw [Decidable.not_not] at h1
    refine s_gF rfl ?_
    refine s_gF rfl ?_
    refine s_gF rfl ?_
    refine s_op (o_pickF rfl rfl) ?_
    refine s_op (o_mv rfl) ?_
    refine s_nilO ?_
    refine q_seqN ?_
    refine s_keep [6] rfl ?_
    refine s_ret ?_
    refine ret_leaf (.inr rfl) rfl rfl ?_
    refine congrArg (fun b => V.w (.bool b)) ?_
    simp_all [inB] <;> omega

theorem cost_leaf {x : Conf} (h1 : inB x.maxRetry 0 3 = true) (h2 : inB x.maxWait 0 3 = true) : IntKind.wrap .i64 (IntKind.wrap .i64 (x.maxRetry + 2) * IntKind.wrap .i64 (x.maxWait + 6)) = x.cost := by
  unfold Conf.cost
  rw [h1, h2]
  simp only [inB, Bool.and_eq_true, decide_eq_true_eq] at h1 h2
  have hr : x.maxRetry = 0 ∨ x.maxRetry = 1 ∨ x.maxRetry = 2 ∨ x.maxRetry = 3 := by omega
  rw [wrap_in (x.maxRetry + 2) (by omega), wrap_in (x.maxWait + 6) (by omega), wrap_in]
  · rfl
  · rcases hr with h | h | h | h <;> rw [h] <;> omega


theorem c_186 (x : Conf) : CV prg 186 [.agg x.r] (fun res => res = .w (.int .i64 x.cost)) := by
  refine cv_in g186 ?_
  refine s_keep [0] rfl ?_
  refine S_seq ?_
  refine s_rg ?_
  refine s_op (o_box rfl rfl rfl) ?_
  refine s_op (o_mv rfl) ?_
  refine s_nilO ?_
  refine q_seqN ?_
  refine s_keep [1] rfl ?_
  refine S_seq ?_
  refine S_seq ?_
  refine s_rg ?_
  refine s_op (o_faC rfl) ?_
  refine s_op (o_ldC rfl rfl rfl) ?_
  first | refine s_call rfl rfl (c_230 ..) ?_ | refine s_callL rfl rfl (by simp) (c_230 ..) rfl ?_
  refine s_op (o_not rfl) ?_
  refine s_op (o_mv rfl) ?_
  first | refine s_gDF rfl ?_ ?_ | refine s_gNDF rfl ?_ ?_ | refine s_gNF rfl ?_ ?_ | refine s_gB rfl ?_ ?_
  · intro h1
    try rw [Decidable.not_not] at h1
    refine s_op (o_faC rfl) ?_
    refine s_gT rfl ?_
    refine s_op (o_ldC rfl rfl rfl) ?_
    refine s_gT rfl ?_
    first | refine s_call rfl rfl (c_230 ..) ?_ | refine s_callL rfl rfl (by simp) (c_230 ..) rfl ?_
    refine s_gT rfl ?_
    refine s_op (o_not rfl) ?_
    refine s_op (o_pickF rfl rfl) ?_
    refine s_nilO ?_
    refine q_seqN ?_
    refine s_keep [1, 12] rfl ?_
    first | refine s_condD rfl ?_ ?_ | refine s_condN rfl ?_ ?_ | refine s_condNB rfl ?_ ?_ | refine s_condB rfl ?_ ?_
    · intro h2
      try rw [Decidable.not_not] at h2
      refine S_seq ?_
      refine s_rg ?_
      refine s_op (o_mv rfl) ?_
      refine s_nilO ?_
      refine q_seqN ?_
      refine s_keep [2] rfl ?_
      refine s_ret ?_
      refine q_seqR ?_
      refine ret_leaf (.inr rfl) rfl rfl ?_
      refine congrArg (fun b => V.w (.int .i64 b)) ?_
      first | exact cost_leaf (by assumption) (by assumption) | simp_all [Conf.cost]
    · intro h2
      try rw [Decidable.not_not] at h2
      refine s_skip ?_
      refine q_seqN ?_
      refine s_keep [1] rfl ?_
      refine S_seq ?_
      refine s_rg ?_
      refine s_op (o_faC rfl) ?_
      refine s_op (o_ldC rfl rfl rfl) ?_
      refine s_op (o_add rfl rfl) ?_
      refine s_op (o_faC rfl) ?_
      refine s_op (o_ldC rfl rfl rfl) ?_
      refine s_op (o_add rfl rfl) ?_
      refine s_op (o_mul rfl rfl) ?_
      refine s_op (o_mv rfl) ?_
      refine s_nilO ?_
      refine q_seqN ?_
      refine s_keep [2] rfl ?_
      refine s_ret ?_
      refine ret_leaf (.inr rfl) rfl rfl ?_
      refine congrArg (fun b => V.w (.int .i64 b)) ?_
      first | exact cost_leaf (by assumption) (by assumption) | simp_all [Conf.cost]
  · intro h1
    try rw [Decidable.not_not] at h1
    refine s_gF rfl ?_
    refine s_gF rfl ?_
    refine s_gF rfl ?_
    refine s_gF rfl ?_
    refine s_op (o_pickT rfl rfl) ?_
    refine s_nilO ?_
    refine q_seqN ?_
    refine s_keep [1, 12] rfl ?_
    refine s_condT rfl ?_
    refine S_seq ?_
    refine s_rg ?_
    refine s_op (o_mv rfl) ?_
    refine s_nilO ?_
    refine q_seqN ?_
    refine s_keep [2] rfl ?_
    refine s_ret ?_
    refine q_seqR ?_
    refine ret_leaf (.inr rfl) rfl rfl ?_
    refine congrArg (fun b => V.w (.int .i64 b)) ?_
    first | exact cost_leaf (by assumption) (by assumption) | simp_all [Conf.cost]

theorem c_37 (x : Conf) : CV prg 37 [.agg x.r] (fun res => res = .w (.int .i64 x.cost)) := by
  refine cv_in g37 ?_
  refine s_keep [0] rfl ?_
  refine S_seq ?_
  refine s_rg ?_
  refine s_op (o_box rfl rfl rfl) ?_
  refine s_op (o_mv rfl) ?_
  refine s_nilO ?_
  refine q_seqN ?_
  refine s_keep [1] rfl ?_
  refine S_seq ?_
  refine S_seq ?_
  refine s_rg ?_
  refine s_op (o_faC rfl) ?_
  refine s_op (o_ldC rfl rfl rfl) ?_
  first | refine s_call rfl rfl (c_103 ..) ?_ | refine s_callL rfl rfl (by simp) (c_103 ..) rfl ?_
  refine s_op (o_not rfl) ?_
  refine s_op (o_mv rfl) ?_
  first | refine s_gDF rfl ?_ ?_ | refine s_gNDF rfl ?_ ?_ | refine s_gNF rfl ?_ ?_ | refine s_gB rfl ?_ ?_
  · intro h1
    try rw [Decidable.not_not] at h1
    refine s_op (o_faC rfl) ?_
    refine s_gT rfl ?_
    refine s_op (o_ldC rfl rfl rfl) ?_
    refine s_gT rfl ?_
    first | refine s_call rfl rfl (c_103 ..) ?_ | refine s_callL rfl rfl (by simp) (c_103 ..) rfl ?_
    refine s_gT rfl ?_
    refine s_op (o_not rfl) ?_
    refine s_op (o_pickF rfl rfl) ?_
    refine s_nilO ?_
    refine q_seqN ?_
    refine s_keep [1, 12] rfl ?_
    first | refine s_condD rfl ?_ ?_ | refine s_condN rfl ?_ ?_ | refine s_condNB rfl ?_ ?_ | refine s_condB rfl ?_ ?_
    · intro h2
      try rw [Decidable.not_not] at h2
      refine S_seq ?_
      refine s_rg ?_
      refine s_op (o_mv rfl) ?_
      refine s_nilO ?_
      refine q_seqN ?_
      refine s_keep [2] rfl ?_
      refine s_ret ?_
      refine q_seqR ?_
      refine ret_leaf (.inr rfl) rfl rfl ?_
      refine congrArg (fun b => V.w (.int .i64 b)) ?_
      first | exact cost_leaf (by assumption) (by assumption) | simp_all [Conf.cost]
    · intro h2
      try rw [Decidable.not_not] at h2
      refine s_skip ?_
      refine q_seqN ?_
      refine s_keep [1] rfl ?_
      refine S_seq ?_
      refine s_rg ?_
      refine s_op (o_faC rfl) ?_
      refine s_op (o_ldC rfl rfl rfl) ?_
      refine s_op (o_add rfl rfl) ?_
      refine s_op (o_faC rfl) ?_
      refine s_op (o_ldC rfl rfl rfl) ?_
      refine s_op (o_add rfl rfl) ?_
      refine s_op (o_mul rfl rfl) ?_
      refine s_op (o_mv rfl) ?_
      refine s_nilO ?_
      refine q_seqN ?_
      refine s_keep [2] rfl ?_
      refine s_ret ?_
      refine ret_leaf (.inr rfl) rfl rfl ?_
      refine congrArg (fun b => V.w (.int .i64 b)) ?_
      first | exact cost_leaf (by assumption) (by assumption) | simp_all [Conf.cost]
  · intro h1
    try rw [Decidable.not_not] at h1
    refine s_gF rfl ?_
    refine s_gF rfl ?_
    refine s_gF rfl ?_
    refine s_gF rfl ?_
    refine s_op (o_pickT rfl rfl) ?_
    refine s_nilO ?_
    refine q_seqN ?_
    refine s_keep [1, 12] rfl ?_
    refine s_condT rfl ?_
    refine S_seq ?_
    refine s_rg ?_
    refine s_op (o_mv rfl) ?_
    refine s_nilO ?_
    refine q_seqN ?_
    refine s_keep [2] rfl ?_
    refine s_ret ?_
    refine q_seqR ?_
    refine ret_leaf (.inr rfl) rfl rfl ?_
    refine congrArg (fun b => V.w (.int .i64 b)) ?_
    first | exact cost_leaf (by assumption) (by assumption) | simp_all [Conf.cost]

theorem c_214 (x : Conf) : CV prg 214 [.agg x.r] (fun res => res = .w (.int .i64 x.slot)) := by
  have hc := x.cost_bd
  refine cv_in g214 ?_
  refine s_keep [0] rfl ?_
  refine S_seq ?_
  refine s_rg ?_
  refine s_op (o_box rfl rfl rfl) ?_
  refine s_op (o_mv rfl) ?_
  refine s_nilO ?_
  refine q_seqN ?_
  refine s_keep [1] rfl ?_
  refine S_seq ?_
  refine S_seq ?_
  refine s_rg ?_
  refine s_op (o_ldnC rfl rfl rfl) ?_
  first | refine s_call rfl rfl (c_186 ..) ?_ | refine s_callL rfl rfl (by simp) (c_186 ..) rfl ?_
  first | refine s_op (o_eql rfl rfl) ?_ | refine s_op (o_bin rfl rfl rfl rfl) ?_
  refine s_op (o_mv rfl) ?_
  first | refine s_gDF rfl ?_ ?_ | refine s_gNDF rfl ?_ ?_ | refine s_gNF rfl ?_ ?_ | refine s_gB rfl ?_ ?_
  · intro h1
    try rw [Decidable.not_not] at h1
    try have h1' := inB_t h1
    refine s_op (o_faC rfl) ?_
    refine s_gT rfl ?_
    refine s_op (o_ldC rfl rfl rfl) ?_
    refine s_gT rfl ?_
    first | refine s_call rfl rfl (c_230 ..) ?_ | refine s_callL rfl rfl (by simp) (c_230 ..) rfl ?_
    refine s_gT rfl ?_
    refine s_op (o_not rfl) ?_
    refine s_op (o_pickF rfl rfl) ?_
    refine s_nilO ?_
    refine q_seqN ?_
    refine s_keep [1, 11] rfl ?_
    first | refine s_condD rfl ?_ ?_ | refine s_condN rfl ?_ ?_ | refine s_condNB rfl ?_ ?_ | refine s_condB rfl ?_ ?_
    · intro h2
      try rw [Decidable.not_not] at h2
      try have h2' := inB_t h2
      refine S_seq ?_
      refine s_rg ?_
      refine s_op (o_mv rfl) ?_
      refine s_nilO ?_
      refine q_seqN ?_
      refine s_keep [2] rfl ?_
      refine s_ret ?_
      refine q_seqR ?_
      refine ret_leaf (.inr rfl) rfl rfl ?_
      refine congrArg (fun b => V.w (.int .i64 b)) ?_
      first | (simp_all [Conf.slot]; done) | (simp_all [Conf.slot, inB]; omega)
    · intro h2
      try rw [Decidable.not_not] at h2
      try have h2' := inB_t h2
      refine s_skip ?_
      refine q_seqN ?_
      refine s_keep [1] rfl ?_
      refine S_seq ?_
      refine s_rg ?_
      refine s_op (o_ldnC rfl rfl rfl) ?_
      first | refine s_call rfl rfl (c_186 ..) ?_ | refine s_callL rfl rfl (by simp) (c_186 ..) rfl ?_
      first | refine s_op (o_muln rfl rfl (by omega)) ?_ | refine s_op (o_mul rfl rfl) ?_
      refine s_op (o_faC rfl) ?_
      refine s_op (o_ldC rfl rfl rfl) ?_
      first | refine s_op (o_addn rfl rfl (by omega)) ?_ | refine s_op (o_add rfl rfl) ?_
      refine s_op (o_mv rfl) ?_
      refine s_nilO ?_
      refine q_seqN ?_
      refine s_keep [2] rfl ?_
      refine s_ret ?_
      refine ret_leaf (.inr rfl) rfl rfl ?_
      refine congrArg (fun b => V.w (.int .i64 b)) ?_
      first | (simp_all [Conf.slot]; done) | (simp_all [Conf.slot, inB]; omega)
  · intro h1
    try rw [Decidable.not_not] at h1
    try have h1' := inB_t h1
    refine s_gF rfl ?_
    refine s_gF rfl ?_
    refine s_gF rfl ?_
    refine s_gF rfl ?_
    refine s_op (o_pickT rfl rfl) ?_
    refine s_nilO ?_
    refine q_seqN ?_
    refine s_keep [1, 11] rfl ?_
    refine s_condT rfl ?_
    refine S_seq ?_
    refine s_rg ?_
    refine s_op (o_mv rfl) ?_
    refine s_nilO ?_
    refine q_seqN ?_
    refine s_keep [2] rfl ?_
    refine s_ret ?_
    refine q_seqR ?_
    refine ret_leaf (.inr rfl) rfl rfl ?_
    refine congrArg (fun b => V.w (.int .i64 b)) ?_
    first | (simp_all [Conf.slot]; done) | (simp_all [Conf.slot, inB]; omega)

theorem c_74 (x : Conf) : CV prg 74 [.agg x.r] (fun res => res = .w (.int .i64 x.slot)) := by
  have hc := x.cost_bd
  refine cv_in g74 ?_
  refine s_keep [0] rfl ?_
  refine S_seq ?_
  refine s_rg ?_
  refine s_op (o_box rfl rfl rfl) ?_
  refine s_op (o_mv rfl) ?_
  refine s_nilO ?_
  refine q_seqN ?_
  refine s_keep [1] rfl ?_
  refine S_seq ?_
  refine S_seq ?_
  refine s_rg ?_
  refine s_op (o_ldnC rfl rfl rfl) ?_
  first | refine s_call rfl rfl (c_37 ..) ?_ | refine s_callL rfl rfl (by simp) (c_37 ..) rfl ?_
  first | refine s_op (o_eql rfl rfl) ?_ | refine s_op (o_bin rfl rfl rfl rfl) ?_
  refine s_op (o_mv rfl) ?_
  first | refine s_gDF rfl ?_ ?_ | refine s_gNDF rfl ?_ ?_ | refine s_gNF rfl ?_ ?_ | refine s_gB rfl ?_ ?_
  · intro h1
    try rw [Decidable.not_not] at h1
    try have h1' := inB_t h1
    refine s_op (o_faC rfl) ?_
    refine s_gT rfl ?_
    refine s_op (o_ldC rfl rfl rfl) ?_
    refine s_gT rfl ?_
    first | refine s_call rfl rfl (c_103 ..) ?_ | refine s_callL rfl rfl (by simp) (c_103 ..) rfl ?_
    refine s_gT rfl ?_
    refine s_op (o_not rfl) ?_
    refine s_op (o_pickF rfl rfl) ?_
    refine s_nilO ?_
    refine q_seqN ?_
    refine s_keep [1, 11] rfl ?_
    first | refine s_condD rfl ?_ ?_ | refine s_condN rfl ?_ ?_ | refine s_condNB rfl ?_ ?_ | refine s_condB rfl ?_ ?_
    · intro h2
      try rw [Decidable.not_not] at h2
      try have h2' := inB_t h2
      refine S_seq ?_
      refine s_rg ?_
      refine s_op (o_mv rfl) ?_
      refine s_nilO ?_
      refine q_seqN ?_
      refine s_keep [2] rfl ?_
      refine s_ret ?_
      refine q_seqR ?_
      refine ret_leaf (.inr rfl) rfl rfl ?_
      refine congrArg (fun b => V.w (.int .i64 b)) ?_
      first | (simp_all [Conf.slot]; done) | (simp_all [Conf.slot, inB]; omega)
    · intro h2
      try rw [Decidable.not_not] at h2
      try have h2' := inB_t h2
      refine s_skip ?_
      refine q_seqN ?_
      refine s_keep [1] rfl ?_
      refine S_seq ?_
      refine s_rg ?_
      refine s_op (o_ldnC rfl rfl rfl) ?_
      first | refine s_call rfl rfl (c_37 ..) ?_ | refine s_callL rfl rfl (by simp) (c_37 ..) rfl ?_
      first | refine s_op (o_muln rfl rfl (by omega)) ?_ | refine s_op (o_mul rfl rfl) ?_
      refine s_op (o_faC rfl) ?_
      refine s_op (o_ldC rfl rfl rfl) ?_
      first | refine s_op (o_addn rfl rfl (by omega)) ?_ | refine s_op (o_add rfl rfl) ?_
      refine s_op (o_mv rfl) ?_
      refine s_nilO ?_
      refine q_seqN ?_
      refine s_keep [2] rfl ?_
      refine s_ret ?_
      refine ret_leaf (.inr rfl) rfl rfl ?_
      refine congrArg (fun b => V.w (.int .i64 b)) ?_
      first | (simp_all [Conf.slot]; done) | (simp_all [Conf.slot, inB]; omega)
  · intro h1
    try rw [Decidable.not_not] at h1
    try have h1' := inB_t h1
    refine s_gF rfl ?_
    refine s_gF rfl ?_
    refine s_gF rfl ?_
    refine s_gF rfl ?_
    refine s_op (o_pickT rfl rfl) ?_
    refine s_nilO ?_
    refine q_seqN ?_
    refine s_keep [1, 11] rfl ?_
    refine s_condT rfl ?_
    refine S_seq ?_
    refine s_rg ?_
    refine s_op (o_mv rfl) ?_
    refine s_nilO ?_
    refine q_seqN ?_
    refine s_keep [2] rfl ?_
    refine s_ret ?_
    refine q_seqR ?_
    refine ret_leaf (.inr rfl) rfl rfl ?_
    refine congrArg (fun b => V.w (.int .i64 b)) ?_
    first | (simp_all [Conf.slot]; done) | (simp_all [Conf.slot, inB]; omega)

theorem c_245 (x : Conf) : CV prg 245 [.agg x.r] (fun res => res = .w (.bool (inB x.quantum 1 4 && decide (0 < x.cost) && inB x.maxSplit 1 12 && inB x.lockMost 1 40))) := by
  refine cv_in g245 ?_
  refine s_keep [0] rfl ?_
  refine S_seq ?_
  refine s_rg ?_
  refine s_op (o_box rfl rfl rfl) ?_
  refine s_op (o_mv rfl) ?_
  refine s_nilO ?_
  refine q_seqN ?_
  refine s_keep [1] rfl ?_
  refine S_seq ?_
  refine s_rg ?_
  refine s_op (o_faC rfl) ?_
  refine s_op (o_ldC rfl rfl rfl) ?_
  first | refine s_call rfl rfl (c_230 ..) ?_ | refine s_callL rfl rfl (by simp) (c_230 ..) rfl ?_
  refine s_op (o_mv rfl) ?_
  first | refine s_gDT rfl ?_ ?_ | refine s_gNDT rfl ?_ ?_ | refine s_gNT rfl ?_ ?_ | refine s_gB rfl ?_ ?_
  · intro h1
    try rw [Decidable.not_not] at h1
    refine s_op (o_ldnC rfl rfl rfl) ?_
    refine s_gT rfl ?_
    first | refine s_call rfl rfl (c_186 ..) ?_ | refine s_callL rfl rfl (by simp) (c_186 ..) rfl ?_
    refine s_gT rfl ?_
    first | refine s_op (o_gtr rfl rfl) ?_ | refine s_op (o_bin rfl rfl rfl rfl) ?_
    refine s_op (o_pickT rfl rfl) ?_
    refine s_op (o_mv rfl) ?_
    first | refine s_gDT rfl ?_ ?_ | refine s_gNDT rfl ?_ ?_ | refine s_gNT rfl ?_ ?_ | refine s_gB rfl ?_ ?_
    · intro h2
      try rw [Decidable.not_not] at h2
      refine s_op (o_faC rfl) ?_
      refine s_gT rfl ?_
      refine s_op (o_ldC rfl rfl rfl) ?_
      refine s_gT rfl ?_
      first | refine s_call rfl rfl (c_230 ..) ?_ | refine s_callL rfl rfl (by simp) (c_230 ..) rfl ?_
      refine s_op (o_pickT rfl rfl) ?_
      refine s_op (o_mv rfl) ?_
      refine s_keepO (is := [1, 16]) rfl ?_
      first | refine s_gDT rfl ?_ ?_ | refine s_gNDT rfl ?_ ?_ | refine s_gNT rfl ?_ ?_ | refine s_gB rfl ?_ ?_
      · intro h3
        try rw [Decidable.not_not] at h3
        refine s_op (o_faC rfl) ?_
        refine s_gT rfl ?_
        refine s_op (o_ldC rfl rfl rfl) ?_
        refine s_gT rfl ?_
        first | refine s_call rfl rfl (c_230 ..) ?_ | refine s_callL rfl rfl (by simp) (c_230 ..) rfl ?_
        refine s_op (o_pickT rfl rfl) ?_
        refine s_op (o_mv rfl) ?_
        refine s_nilO ?_
        refine q_seqN ?_
        refine s_keep [2] rfl ?_
        refine s_ret ?_
        refine ret_leaf (.inr rfl) rfl rfl ?_
        refine congrArg (fun b => V.w (.bool b)) ?_
        simp_all <;> omega
      · intro h3
        try rw [Decidable.not_not] at h3
        refine s_gF rfl ?_
        refine s_gF rfl ?_
        refine s_gF rfl ?_
        refine s_op (o_pickF rfl rfl) ?_
        refine s_op (o_mv rfl) ?_
        refine s_nilO ?_
        refine q_seqN ?_
        refine s_keep [2] rfl ?_
        refine s_ret ?_
        refine ret_leaf (.inr rfl) rfl rfl ?_
        refine congrArg (fun b => V.w (.bool b)) ?_
        simp_all <;> omega
    · intro h2
      try rw [Decidable.not_not] at h2
      refine s_gF rfl ?_
      refine s_gF rfl ?_
      refine s_gF rfl ?_
      refine s_op (o_pickF rfl rfl) ?_
      refine s_op (o_mv rfl) ?_
      refine s_keepO (is := [1, 16]) rfl ?_
      refine s_gF rfl ?_
      refine s_gF rfl ?_
      refine s_gF rfl ?_
      refine s_op (o_pickF rfl rfl) ?_
      refine s_op (o_mv rfl) ?_
      refine s_nilO ?_
      refine q_seqN ?_
      refine s_keep [2] rfl ?_
      refine s_ret ?_
      refine ret_leaf (.inr rfl) rfl rfl ?_
      refine congrArg (fun b => V.w (.bool b)) ?_
      simp_all <;> omega
  · intro h1
    try rw [Decidable.not_not] at h1
    refine s_gF rfl ?_
    refine s_gF rfl ?_
    refine s_gF rfl ?_
    refine s_op (o_pickF rfl rfl) ?_
    refine s_op (o_mv rfl) ?_
    refine s_gF rfl ?_
    refine s_gF rfl ?_
    refine s_gF rfl ?_
    refine s_op (o_pickF rfl rfl) ?_
    refine s_op (o_mv rfl) ?_
    refine s_keepO (is := [1, 16]) rfl ?_
    refine s_gF rfl ?_
    refine s_gF rfl ?_
    refine s_gF rfl ?_
    refine s_op (o_pickF rfl rfl) ?_
    refine s_op (o_mv rfl) ?_
    refine s_nilO ?_
    refine q_seqN ?_
    refine s_keep [2] rfl ?_
    refine s_ret ?_
    refine ret_leaf (.inr rfl) rfl rfl ?_
    refine congrArg (fun b => V.w (.bool b)) ?_
    simp_all <;> omega

theorem prios_step {xs : List MConf} {i : Nat} {y : MConf} (h : xs[i]? = some y) : priosOf (xs.take (i + 1)) = priosOf (xs.take i) + if y.prio then 1 else 0 := by
  rw [take_get h, priosOf, List.countP_append]; simp [priosOf, List.countP_cons]
theorem prios_i (xs : List MConf) (i : Nat) : priosOf (xs.take i) ≤ i := by
  have := priosOf_le (xs.take i); rw [List.length_take] at this; omega
theorem prios_end {xs : List MConf} {i : Nat} (h : ¬ (i : Int) < xs.length) : priosOf (xs.take i) = priosOf xs := by rw [take_end (by omega)]


theorem c_101 (x : Conf) (hl : x.masters.length ≤ 1048576) : CV prg 101 [.agg x.r] (fun res => res = .w (.int .i64 (priosOf x.masters : Int))) := by
  refine cv_in g101 ?_
  refine s_keep [0] rfl ?_
  refine S_seq ?_
  refine s_rg ?_
  refine s_op (o_box rfl rfl rfl) ?_
  refine s_op (o_mv rfl) ?_
  refine s_nilO ?_
  refine q_seqN ?_
  refine s_keep [1] rfl ?_
  refine S_seq ?_
  refine s_rg ?_
  refine s_op (o_mv rfl) ?_
  refine s_nilO ?_
  refine q_seqN ?_
  refine s_keep [1, 3] rfl ?_
  refine S_seq ?_
  refine S_seq ?_
  refine s_rg ?_
  refine s_op (o_faC rfl) ?_
  refine s_op (o_ldC rfl rfl rfl) ?_
  first | refine s_op (o_lenM rfl) ?_ | refine s_op (o_len rfl) ?_ | refine s_op (o_lenL rfl rfl rfl) ?_ | refine s_op (o_lenN rfl) ?_
  refine s_op (o_mv rfl) ?_
  refine s_nilO ?_
  refine q_seqN ?_
  refine s_keep [3, 7, 8, 9] rfl ?_
  refine S_block ?_
  refine S_loop0 (ι := Nat) (fun i => i ≤ x.masters.length) (fun i => [(9, .w (.int .i64 (i : Int))), (3, .w (.int .i64 (priosOf (x.masters.take i) : Int)))]) (fun i => x.masters.length - i) 0 (by simp) rfl ⟨rfl, rfl, trivial⟩ (fun _ _ => rfl) rfl ?_
  intro i hi
  have hp := prios_i x.masters i
  refine s_keep [3, 7, 8, 9] rfl ?_
  refine S_seq ?_
  refine s_rg ?_
  first | refine s_op (o_lss rfl rfl) ?_ | refine s_op (o_bin rfl rfl rfl rfl) ?_
  refine s_nilO ?_
  refine q_seqN ?_
  refine s_keep [3, 7, 8, 9, 10] rfl ?_
  refine S_seq ?_
  first | refine s_condD rfl ?_ ?_ | refine s_condN rfl ?_ ?_ | refine s_condNB rfl ?_ ?_ | refine s_condB rfl ?_ ?_
  · intro h1
    try rw [Decidable.not_not] at h1
    refine s_skip ?_
    refine q_seqN ?_
    refine s_keep [3, 7, 8, 9] rfl ?_
    refine S_seq ?_
    refine S_block ?_
    refine S_seq ?_
    refine s_rg ?_
    refine s_iaM rfl rfl (by simp at *; omega) ?_
    intro y2 e2
    try simp only [Int.toNat_natCast, Int.toNat_zero] at e2
    refine s_op (o_ldn rfl rfl) ?_
    refine s_op (o_new rfl rfl) ?_
    refine s_opN (o_stnC rfl rfl rfl rfl rfl rfl rfl) ?_
    refine s_nilO ?_
    refine q_seqN ?_
    refine s_keep [3, 5, 7, 8, 9] rfl ?_
    refine S_seq ?_
    refine s_rg ?_
    refine s_op (o_faC rfl) ?_
    refine s_op (o_ldC rfl rfl rfl) ?_
    refine s_nilO ?_
    refine q_seqN ?_
    refine s_keep [3, 7, 8, 9, 14] rfl ?_
    first | refine s_condD rfl ?_ ?_ | refine s_condN rfl ?_ ?_ | refine s_condNB rfl ?_ ?_ | refine s_condB rfl ?_ ?_
    · intro h3
      try rw [Decidable.not_not] at h3
      refine s_rg ?_
      refine s_op (o_mv rfl) ?_
      first | refine s_op (o_addn rfl rfl (by omega)) ?_ | refine s_op (o_add rfl rfl) ?_
      refine s_op (o_mv rfl) ?_
      refine s_nilO ?_
      refine q_blkN ?_
      refine q_seqN ?_
      refine s_keep [3, 7, 8, 9] rfl ?_
      refine s_rg ?_
      first | refine s_op (o_addn rfl rfl (by omega)) ?_ | refine s_op (o_add rfl rfl) ?_
      refine s_op (o_mv rfl) ?_
      refine s_nilO ?_
      refine q_loopN ?_
      refine ⟨i + 1, by omega, by omega, hasOf ⟨rfl, ?_, trivial⟩ rfl⟩
      rw [prios_step (by assumption)]; simp_all; rfl
    · intro h3
      try rw [Decidable.not_not] at h3
      refine s_skip ?_
      refine q_blkN ?_
      refine q_seqN ?_
      refine s_keep [3, 7, 8, 9] rfl ?_
      refine s_rg ?_
      first | refine s_op (o_addn rfl rfl (by omega)) ?_ | refine s_op (o_add rfl rfl) ?_
      refine s_op (o_mv rfl) ?_
      refine s_nilO ?_
      refine q_loopN ?_
      refine ⟨i + 1, by omega, by omega, hasOf ⟨rfl, ?_, trivial⟩ rfl⟩
      rw [prios_step (by assumption)]; simp_all; rfl
  · intro h1
    try rw [Decidable.not_not] at h1
    refine s_exit ?_
    refine q_seqX ?_
    refine q_loopX ?_
    refine q_blkH ?_
    refine q_seqN ?_
    refine s_keep [3] rfl ?_
    refine S_seq ?_
    refine s_rg ?_
    refine s_op (o_mv rfl) ?_
    refine s_op (o_mv rfl) ?_
    refine s_nilO ?_
    refine q_seqN ?_
    refine s_keep [2] rfl ?_
    refine s_ret ?_
    refine ret_leaf (.inr rfl) rfl rfl ?_
    refine congrArg (fun b => V.w (.int .i64 b)) ?_
    rw [prios_end (by assumption)]

theorem least_a {x : Conf} (hl : x.masters.length ≤ 1048576) : IntKind.wrap .i64 (IntKind.wrap .i64 (2 * x.slot) * (priosOf x.masters : Int)) = x.least := by
  have h1 := x.slot_bd
  have h2 := priosOf_le x.masters
  rw [wrap_in (2 * x.slot) (by omega)]
  have h3 : 0 ≤ 2 * x.slot * (priosOf x.masters : Int) := Int.mul_nonneg (by omega) (by omega)
  have h4 : 2 * x.slot * (priosOf x.masters : Int) ≤ 260 * 1048576 := Int.mul_le_mul (by omega) (by omega) (by omega) (by omega)
  rw [wrap_in _ (by omega)]; rfl
theorem least_b {x : Conf} (hl : x.masters.length ≤ 1048576) : IntKind.wrap .i64 (IntKind.wrap .i64 (2 * (priosOf x.masters : Int)) * x.slot) = x.least := by
  rw [← least_a hl]
  have h1 := x.slot_bd
  have h2 := priosOf_le x.masters
  rw [wrap_in (2 * x.slot) (by omega), wrap_in (2 * (priosOf x.masters : Int)) (by omega), Int.mul_right_comm]


theorem c_50 (x : Conf) (hl : x.masters.length ≤ 1048576) : CV prg 50 [.agg x.r] (fun res => res = .w (.int .i64 x.least)) := by
  refine cv_in g50 ?_
  refine s_keep [0] rfl ?_
  refine S_seq ?_
  refine s_rg ?_
  refine s_op (o_box rfl rfl rfl) ?_
  refine s_op (o_mv rfl) ?_
  refine s_nilO ?_
  refine q_seqN ?_
  refine s_keep [1] rfl ?_
  refine S_seq ?_
  refine s_rg ?_
  refine s_op (o_ldnC rfl rfl rfl) ?_
  first | refine s_call rfl rfl (c_74 ..) ?_ | refine s_callL rfl rfl (by simp) (c_74 ..) rfl ?_
  refine s_op (o_mul rfl rfl) ?_
  refine s_op (o_ldnC rfl rfl rfl) ?_
  first | refine s_call rfl rfl (c_101 _ (by assumption)) ?_ | refine s_callL rfl rfl (by simp) (c_101 _ (by assumption)) rfl ?_
  refine s_op (o_mul rfl rfl) ?_
  refine s_op (o_mv rfl) ?_
  refine s_nilO ?_
  refine q_seqN ?_
  refine s_keep [2] rfl ?_
  refine s_ret ?_
  refine ret_leaf (.inr rfl) rfl rfl ?_
  refine congrArg (fun b => V.w (.int .i64 b)) ?_
  exact least_a hl

theorem MConf.ok_a {l : Int} {m : MConf} (h : inB m.weight 1 4 = false) : MConf.ok l m = false := by simp [MConf.ok, h]
theorem mok_p {l : Int} {m : MConf} (h : inB m.weight 1 4 = true) (hp : m.prio = true) : MConf.ok l m = (inB m.every l 1000 && inB m.cap 1 8) := by simp [MConf.ok, h, hp]
theorem mok_n {l : Int} {m : MConf} (h : inB m.weight 1 4 = true) (hp : m.prio = false) : MConf.ok l m = (decide (m.every = 0) && decide (m.cap = 0)) := by simp [MConf.ok, h, hp]


theorem c_35 (m : MConf) (x : Conf) (hl : x.masters.length ≤ 1048576) : CV prg 35 [.agg m.r, .rp x.r 0] (fun res => res = .w (.bool (!MConf.ok x.least m))) := by
  refine cv_in g35 ?_
  refine s_keep [0, 1] rfl ?_
  refine S_seq ?_
  refine s_rg ?_
  refine s_op (o_box rfl rfl rfl) ?_
  refine s_op (o_mv rfl) ?_
  refine s_nilO ?_
  refine q_seqN ?_
  refine s_keep [1, 2] rfl ?_
  refine S_seq ?_
  refine S_block ?_
  refine S_seq ?_
  refine s_rg ?_
  refine s_op (o_faC rfl) ?_
  refine s_op (o_ldC rfl rfl rfl) ?_
  first | refine s_call rfl rfl (c_103 ..) ?_ | refine s_callL rfl rfl (by simp) (c_103 ..) rfl ?_
  refine s_op (o_not rfl) ?_
  refine s_op (o_mv rfl) ?_
  refine s_nilO ?_
  refine q_seqN ?_
  refine s_keep [1, 2, 4] rfl ?_
  first | refine s_condD rfl ?_ ?_ | refine s_condN rfl ?_ ?_ | refine s_condNB rfl ?_ ?_ | refine s_condB rfl ?_ ?_
  · intro h1
    try rw [Decidable.not_not] at h1
    refine S_seq ?_
    refine s_rg ?_
    refine s_op (o_mv rfl) ?_
    refine s_nilO ?_
    refine q_seqN ?_
    refine s_keep [3] rfl ?_
    refine s_ret ?_
    refine q_blkR ?_
    refine q_seqR ?_
    refine ret_leaf (.inr rfl) rfl rfl ?_
    refine congrArg (fun b => V.w (.bool b)) ?_
    simp_all [MConf.ok]
  · intro h1
    try rw [Decidable.not_not] at h1
    refine S_seq ?_
    refine s_rg ?_
    refine s_op (o_faC rfl) ?_
    refine s_op (o_ldC rfl rfl rfl) ?_
    refine s_op (o_mv rfl) ?_
    refine s_nilO ?_
    refine q_seqN ?_
    refine s_keep [1, 2, 9] rfl ?_
    first | refine s_condD rfl ?_ ?_ | refine s_condN rfl ?_ ?_ | refine s_condNB rfl ?_ ?_ | refine s_condB rfl ?_ ?_
    · intro h2
      try rw [Decidable.not_not] at h2
      refine S_seq ?_
      refine s_rg ?_
      refine s_op (o_faC rfl) ?_
      refine s_op (o_ldC rfl rfl rfl) ?_
      refine s_op (o_ldn rfl rfl) ?_
      first | refine s_call rfl rfl (c_50 _ (by assumption)) ?_ | refine s_callL rfl rfl (by simp) (c_50 _ (by assumption)) rfl ?_
      first | refine s_call rfl rfl (c_103 ..) ?_ | refine s_callL rfl rfl (by simp) (c_103 ..) rfl ?_
      refine s_op (o_not rfl) ?_
      refine s_op (o_mv rfl) ?_
      first | refine s_gDF rfl ?_ ?_ | refine s_gNDF rfl ?_ ?_ | refine s_gNF rfl ?_ ?_ | refine s_gB rfl ?_ ?_
      · intro h3
        try rw [Decidable.not_not] at h3
        refine s_op (o_faC rfl) ?_
        refine s_gT rfl ?_
        refine s_op (o_ldC rfl rfl rfl) ?_
        refine s_gT rfl ?_
        first | refine s_call rfl rfl (c_103 ..) ?_ | refine s_callL rfl rfl (by simp) (c_103 ..) rfl ?_
        refine s_gT rfl ?_
        refine s_op (o_not rfl) ?_
        refine s_op (o_pickF rfl rfl) ?_
        refine s_op (o_mv rfl) ?_
        refine s_nilO ?_
        refine q_seqN ?_
        refine s_keep [3] rfl ?_
        refine s_ret ?_
        refine q_blkR ?_
        refine q_seqR ?_
        refine ret_leaf (.inr rfl) rfl rfl ?_
        refine congrArg (fun b => V.w (.bool b)) ?_
        simp_all [MConf.ok]
      · intro h3
        try rw [Decidable.not_not] at h3
        refine s_gF rfl ?_
        refine s_gF rfl ?_
        refine s_gF rfl ?_
        refine s_gF rfl ?_
        refine s_op (o_pickT rfl rfl) ?_
        refine s_op (o_mv rfl) ?_
        refine s_nilO ?_
        refine q_seqN ?_
        refine s_keep [3] rfl ?_
        refine s_ret ?_
        refine q_blkR ?_
        refine q_seqR ?_
        refine ret_leaf (.inr rfl) rfl rfl ?_
        refine congrArg (fun b => V.w (.bool b)) ?_
        simp_all [MConf.ok]
    · intro h2
      try rw [Decidable.not_not] at h2
      refine s_skip ?_
      refine q_blkN ?_
      refine q_seqN ?_
      refine s_keep [2] rfl ?_
      refine S_seq ?_
      refine s_rg ?_
      refine s_op (o_faC rfl) ?_
      refine s_op (o_ldC rfl rfl rfl) ?_
      first | refine s_op (o_neq rfl rfl) ?_ | refine s_op (o_bin rfl rfl rfl rfl) ?_
      refine s_op (o_mv rfl) ?_
      first | refine s_gDF rfl ?_ ?_ | refine s_gNDF rfl ?_ ?_ | refine s_gNF rfl ?_ ?_ | refine s_gB rfl ?_ ?_
      · intro h4
        try rw [Decidable.not_not] at h4
        refine s_op (o_faC rfl) ?_
        refine s_gT rfl ?_
        refine s_op (o_ldC rfl rfl rfl) ?_
        refine s_gT rfl ?_
        first | refine s_op (o_neq rfl rfl) ?_ | refine s_op (o_bin rfl rfl rfl rfl) ?_
        refine s_op (o_pickF rfl rfl) ?_
        refine s_op (o_mv rfl) ?_
        refine s_nilO ?_
        refine q_seqN ?_
        refine s_keep [3] rfl ?_
        refine s_ret ?_
        refine ret_leaf (.inr rfl) rfl rfl ?_
        refine congrArg (fun b => V.w (.bool b)) ?_
        simp_all [MConf.ok]
      · intro h4
        try rw [Decidable.not_not] at h4
        refine s_gF rfl ?_
        refine s_gF rfl ?_
        refine s_gF rfl ?_
        refine s_op (o_pickT rfl rfl) ?_
        refine s_op (o_mv rfl) ?_
        refine s_nilO ?_
        refine q_seqN ?_
        refine s_keep [3] rfl ?_
        refine s_ret ?_
        refine ret_leaf (.inr rfl) rfl rfl ?_
        refine congrArg (fun b => V.w (.bool b)) ?_
        simp_all [MConf.ok]

theorem c_269 (xs : List MConf) (hl : xs.length ≤ 140737488355328) (f : Nat) (caps : List V) (hc : caps.all (V.fzV 5) = true) (p : MConf → Bool) (h : ∀ y, y ∈ xs → CV prg f (.agg (MConf.r y) :: caps) (fun v => v = .w (.bool (p y)))) : CV prg 269 [.sl 4 (xs.map MConf.r), .fn f caps] (fun res => res = .w (.int .i64 (idxOf p xs))) := by
  refine cv_in g269 ?_
  refine s_keep [0, 1] rfl ?_
  refine S_seq ?_
  refine s_rg ?_
  refine s_op (o_mv rfl) ?_
  refine s_nilO ?_
  refine q_seqN ?_
  refine s_keep [0, 1] rfl ?_
  refine S_seq ?_
  refine S_seq ?_
  refine s_rg ?_
  refine s_op (o_mv rfl) ?_
  first | refine s_op (o_lenM rfl) ?_ | refine s_op (o_len rfl) ?_
  refine s_op (o_mv rfl) ?_
  refine s_nilO ?_
  refine q_seqN ?_
  refine s_keep [0, 1, 7, 8] rfl ?_
  refine S_block ?_
  refine S_loop0 (ι := Nat) (fun i => i ≤ xs.length ∧ (xs.take i).any p = false) (fun i => [(8, .w (.int .i64 (i : Int)))]) (fun i => xs.length - i) 0 (by simp) rfl ⟨rfl, trivial⟩ (fun _ _ => rfl) rfl ?_
  intro i hi
  refine s_keep [0, 1, 7, 8] rfl ?_
  refine S_seq ?_
  refine s_rg ?_
  first | refine s_op (o_lss rfl rfl) ?_ | refine s_op (o_bin rfl rfl rfl rfl) ?_
  refine s_nilO ?_
  refine q_seqN ?_
  refine s_keep [0, 1, 7, 8, 9] rfl ?_
  refine S_seq ?_
  first | refine s_condD rfl ?_ ?_ | refine s_condN rfl ?_ ?_ | refine s_condNB rfl ?_ ?_ | refine s_condB rfl ?_ ?_
  · intro h1
    try rw [Decidable.not_not] at h1
    refine s_skip ?_
    refine q_seqN ?_
    refine s_keep [0, 1, 7, 8] rfl ?_
    refine S_seq ?_
    refine S_block ?_
    refine S_seq ?_
    refine s_rg ?_
    refine s_op (o_mv rfl) ?_
    refine s_op (o_mv rfl) ?_
    refine s_nilO ?_
    refine q_seqN ?_
    refine s_keep [0, 1, 5, 7, 8] rfl ?_
    refine S_seq ?_
    refine s_rg ?_
    refine s_op (o_mv rfl) ?_
    refine s_op (o_mv rfl) ?_
    refine s_op (o_mv rfl) ?_
    refine s_iaM rfl rfl (by simp at *; omega) ?_
    intro y2 e2
    try simp only [Int.toNat_natCast, Int.toNat_zero] at e2
    refine s_op (o_ldn rfl rfl) ?_
    refine s_calli rfl rfl (fz1 rfl hc) (h _ (List.mem_of_getElem? (by assumption))) ?_
    refine s_nilO ?_
    refine q_seqN ?_
    refine s_keep [0, 1, 5, 7, 8, 16] rfl ?_
    first | refine s_condD rfl ?_ ?_ | refine s_condN rfl ?_ ?_ | refine s_condNB rfl ?_ ?_ | refine s_condB rfl ?_ ?_
    · intro h3
      try rw [Decidable.not_not] at h3
      refine S_seq ?_
      refine s_rg ?_
      refine s_op (o_mv rfl) ?_
      refine s_op (o_mv rfl) ?_
      refine s_nilO ?_
      refine q_seqN ?_
      refine s_keep [4] rfl ?_
      refine s_ret ?_
      refine q_blkR ?_
      refine q_seqR ?_
      refine q_loopR ?_
      refine q_blkR ?_
      refine q_seqR ?_
      refine ret_leaf (.inr rfl) rfl rfl ?_
      refine congrArg (fun b => V.w (.int .i64 b)) ?_
      first | exact (idxOf_at (by assumption) hi.2 (by assumption)).symm | exact (idxOf_no (any_end hi.2 (by omega))).symm
    · intro h3
      try rw [Decidable.not_not] at h3
      refine s_skip ?_
      refine q_blkN ?_
      refine q_seqN ?_
      refine s_keep [0, 1, 7, 8] rfl ?_
      refine s_rg ?_
      first | refine s_op (o_addn rfl rfl (by omega)) ?_ | refine s_op (o_add rfl rfl) ?_
      refine s_op (o_mv rfl) ?_
      refine s_nilO ?_
      refine q_loopN ?_
      exact ⟨i + 1, ⟨by omega, any_take (by assumption) hi.2 (by assumption)⟩, by omega, hasOf ⟨rfl, trivial⟩ rfl⟩
  · intro h1
    try rw [Decidable.not_not] at h1
    refine s_exit ?_
    refine q_seqX ?_
    refine q_loopX ?_
    refine q_blkH ?_
    refine q_seqN ?_
    refine s_keep [] rfl ?_
    refine S_seq ?_
    refine s_rg ?_
    refine s_op (o_mv rfl) ?_
    refine s_nilO ?_
    refine q_seqN ?_
    refine s_keep [4] rfl ?_
    refine s_ret ?_
    refine ret_leaf (.inr rfl) rfl rfl ?_
    refine congrArg (fun b => V.w (.int .i64 b)) ?_
    first | exact (idxOf_at (by assumption) hi.2 (by assumption)).symm | exact (idxOf_no (any_end hi.2 (by omega))).symm

theorem c_258 (xs : List MConf) (hl : xs.length ≤ 140737488355328) (f : Nat) (caps : List V) (hc : caps.all (V.fzV 5) = true) (p : MConf → Bool) (h : ∀ y, y ∈ xs → CV prg f (.agg (MConf.r y) :: caps) (fun v => v = .w (.bool (p y)))) : CV prg 258 [.sl 4 (xs.map MConf.r), .fn f caps] (fun res => res = .w (.bool (xs.any p))) := by
  refine cv_in g258 ?_
  refine s_keep [0, 1] rfl ?_
  refine S_seq ?_
  refine s_rg ?_
  refine s_op (o_mv rfl) ?_
  refine s_nilO ?_
  refine q_seqN ?_
  refine s_keep [0, 1] rfl ?_
  refine S_seq ?_
  refine s_rg ?_
  refine s_op (o_mv rfl) ?_
  refine s_op (o_mv rfl) ?_
  refine s_call rfl (fz2 rfl hc) (c_269 _ (by assumption) _ _ hc _ h) ?_
  first | refine s_op (o_geq rfl rfl) ?_ | refine s_op (o_bin rfl rfl rfl rfl) ?_
  refine s_op (o_mv rfl) ?_
  refine s_nilO ?_
  refine q_seqN ?_
  refine s_keep [4] rfl ?_
  refine s_ret ?_
  refine ret_leaf (.inr rfl) rfl rfl ?_
  refine congrArg (fun b => V.w (.bool b)) ?_
  exact idxOf_any p xs

theorem ok_not (l : Int) (xs : List MConf) : (!xs.any (fun m => !MConf.ok l m)) = xs.all (MConf.ok l) := by
  induction xs with
  | nil => rfl
  | cons m xs ih => simp only [List.any_cons, List.all_cons, Bool.not_or, Bool.not_not, ih]


theorem c_34 (x : Conf) (hl : x.masters.length ≤ 1048576) : CV prg 34 [.agg x.r] (fun res => res = .w (.bool x.ok)) := by
  refine cv_in g34 ?_
  refine s_keep [0] rfl ?_
  refine S_seq ?_
  refine s_rg ?_
  refine s_op (o_box rfl rfl rfl) ?_
  refine s_op (o_mv rfl) ?_
  refine s_nilO ?_
  refine q_seqN ?_
  refine s_keep [1] rfl ?_
  refine S_seq ?_
  refine S_seq ?_
  refine s_rg ?_
  refine s_op (o_faC rfl) ?_
  refine s_op (o_ldC rfl rfl rfl) ?_
  first | refine s_op (o_lenM rfl) ?_ | refine s_op (o_len rfl) ?_ | refine s_op (o_lenL rfl rfl rfl) ?_ | refine s_op (o_lenN rfl) ?_
  refine s_call rfl rfl (c_103 ..) ?_
  refine s_op (o_not rfl) ?_
  refine s_op (o_mv rfl) ?_
  first | refine s_gDF rfl ?_ ?_ | refine s_gNDF rfl ?_ ?_ | refine s_gNF rfl ?_ ?_ | refine s_gB rfl ?_ ?_
  · intro h1
    try rw [Decidable.not_not] at h1
    refine s_op (o_faC rfl) ?_
    refine s_gT rfl ?_
    refine s_op (o_ldC rfl rfl rfl) ?_
    refine s_gT rfl ?_
    first | refine s_call rfl rfl (c_103 ..) ?_ | refine s_callL rfl rfl (by simp) (c_103 ..) rfl ?_
    refine s_gT rfl ?_
    refine s_op (o_not rfl) ?_
    refine s_op (o_pickF rfl rfl) ?_
    refine s_op (o_mv rfl) ?_
    first | refine s_gDF rfl ?_ ?_ | refine s_gNDF rfl ?_ ?_ | refine s_gNF rfl ?_ ?_ | refine s_gB rfl ?_ ?_
    · intro h2
      try rw [Decidable.not_not] at h2
      refine s_op (o_faC rfl) ?_
      refine s_gT rfl ?_
      refine s_op (o_ldC rfl rfl rfl) ?_
      refine s_keepO (is := [1, 14, 16]) rfl ?_
      refine s_gT rfl ?_
      first | refine s_call rfl rfl (c_103 ..) ?_ | refine s_callL rfl rfl (by simp) (c_103 ..) rfl ?_
      refine s_gT rfl ?_
      refine s_op (o_not rfl) ?_
      refine s_op (o_pickF rfl rfl) ?_
      refine s_op (o_mv rfl) ?_
      first | refine s_gDF rfl ?_ ?_ | refine s_gNDF rfl ?_ ?_ | refine s_gNF rfl ?_ ?_ | refine s_gB rfl ?_ ?_
      · intro h3
        try rw [Decidable.not_not] at h3
        refine s_op (o_ldnC rfl rfl rfl) ?_
        refine s_gT rfl ?_
        first | refine s_call rfl rfl (c_74 ..) ?_ | refine s_callL rfl rfl (by simp) (c_74 ..) rfl ?_
        refine s_gT rfl ?_
        first | refine s_op (o_eql rfl rfl) ?_ | refine s_op (o_bin rfl rfl rfl rfl) ?_
        refine s_op (o_pickF rfl rfl) ?_
        refine s_nilO ?_
        refine q_seqN ?_
        refine s_keep [1, 24] rfl ?_
        first | refine s_condD rfl ?_ ?_ | refine s_condN rfl ?_ ?_ | refine s_condNB rfl ?_ ?_ | refine s_condB rfl ?_ ?_
        · intro h4
          try rw [Decidable.not_not] at h4
          refine S_seq ?_
          refine s_rg ?_
          refine s_op (o_mv rfl) ?_
          refine s_nilO ?_
          refine q_seqN ?_
          refine s_keep [2] rfl ?_
          refine s_ret ?_
          refine q_seqR ?_
          refine ret_leaf (.inr rfl) rfl rfl ?_
          refine congrArg (fun b => V.w (.bool b)) ?_
          first | (rw [ok_not]; simp_all [Conf.ok]; done) | (simp_all [Conf.ok]; done)
        · intro h4
          try rw [Decidable.not_not] at h4
          refine s_skip ?_
          refine q_seqN ?_
          refine s_keep [1] rfl ?_
          refine S_seq ?_
          refine s_rg ?_
          refine s_op (o_faC rfl) ?_
          refine s_op (o_ldC rfl rfl rfl) ?_
          refine s_op (o_fn rfl) ?_
          refine s_callL rfl rfl (by simp) (c_258 _ (by omega) _ _ rfl (fun m => !MConf.ok x.least m) (fun y _ => c_35 y x hl)) rfl ?_
          refine s_op (o_not rfl) ?_
          refine s_op (o_mv rfl) ?_
          refine s_nilO ?_
          refine q_seqN ?_
          refine s_keep [2] rfl ?_
          refine s_ret ?_
          refine ret_leaf (.inr rfl) rfl rfl ?_
          refine congrArg (fun b => V.w (.bool b)) ?_
          first | (rw [ok_not]; simp_all [Conf.ok]; done) | (simp_all [Conf.ok]; done)
      · intro h3
        try rw [Decidable.not_not] at h3
        refine s_gF rfl ?_
        refine s_gF rfl ?_
        refine s_gF rfl ?_
        refine s_op (o_pickT rfl rfl) ?_
        refine s_nilO ?_
        refine q_seqN ?_
        refine s_keep [1, 24] rfl ?_
        refine s_condT rfl ?_
        refine S_seq ?_
        refine s_rg ?_
        refine s_op (o_mv rfl) ?_
        refine s_nilO ?_
        refine q_seqN ?_
        refine s_keep [2] rfl ?_
        refine s_ret ?_
        refine q_seqR ?_
        refine ret_leaf (.inr rfl) rfl rfl ?_
        refine congrArg (fun b => V.w (.bool b)) ?_
        first | (rw [ok_not]; simp_all [Conf.ok]; done) | (simp_all [Conf.ok]; done)
    · intro h2
      try rw [Decidable.not_not] at h2
      refine s_gF rfl ?_
      refine s_gF rfl ?_
      refine s_keepO (is := [1, 14, 16]) rfl ?_
      refine s_gF rfl ?_
      refine s_gF rfl ?_
      refine s_op (o_pickT rfl rfl) ?_
      refine s_op (o_mv rfl) ?_
      refine s_gF rfl ?_
      refine s_gF rfl ?_
      refine s_gF rfl ?_
      refine s_op (o_pickT rfl rfl) ?_
      refine s_nilO ?_
      refine q_seqN ?_
      refine s_keep [1, 24] rfl ?_
      refine s_condT rfl ?_
      refine S_seq ?_
      refine s_rg ?_
      refine s_op (o_mv rfl) ?_
      refine s_nilO ?_
      refine q_seqN ?_
      refine s_keep [2] rfl ?_
      refine s_ret ?_
      refine q_seqR ?_
      refine ret_leaf (.inr rfl) rfl rfl ?_
      refine congrArg (fun b => V.w (.bool b)) ?_
      first | (rw [ok_not]; simp_all [Conf.ok]; done) | (simp_all [Conf.ok]; done)
  · intro h1
    try rw [Decidable.not_not] at h1
    refine s_gF rfl ?_
    refine s_gF rfl ?_
    refine s_gF rfl ?_
    refine s_gF rfl ?_
    refine s_op (o_pickT rfl rfl) ?_
    refine s_op (o_mv rfl) ?_
    refine s_gF rfl ?_
    refine s_gF rfl ?_
    refine s_keepO (is := [1, 14, 16]) rfl ?_
    refine s_gF rfl ?_
    refine s_gF rfl ?_
    refine s_op (o_pickT rfl rfl) ?_
    refine s_op (o_mv rfl) ?_
    refine s_gF rfl ?_
    refine s_gF rfl ?_
    refine s_gF rfl ?_
    refine s_op (o_pickT rfl rfl) ?_
    refine s_nilO ?_
    refine q_seqN ?_
    refine s_keep [1, 24] rfl ?_
    refine s_condT rfl ?_
    refine S_seq ?_
    refine s_rg ?_
    refine s_op (o_mv rfl) ?_
    refine s_nilO ?_
    refine q_seqN ?_
    refine s_keep [2] rfl ?_
    refine s_ret ?_
    refine q_seqR ?_
    refine ret_leaf (.inr rfl) rfl rfl ?_
    refine congrArg (fun b => V.w (.bool b)) ?_
    first | (rw [ok_not]; simp_all [Conf.ok]; done) | (simp_all [Conf.ok]; done)

theorem c_184 (x : Conf) (hl : x.masters.length ≤ 1048576) : CV prg 184 [.agg x.r] (fun res => res = .w (.bool x.ok)) := by
  have hL := least_b hl
  refine cv_in g184 ?_
  refine s_keep [0] rfl ?_
  refine S_seq ?_
  refine s_rg ?_
  refine s_op (o_box rfl rfl rfl) ?_
  refine s_op (o_mv rfl) ?_
  refine s_nilO ?_
  refine q_seqN ?_
  refine s_keep [1] rfl ?_
  refine S_seq ?_
  refine s_rg ?_
  refine s_op (o_mv rfl) ?_
  refine s_nilO ?_
  refine q_seqN ?_
  refine s_keep [1, 3] rfl ?_
  refine S_seq ?_
  refine S_seq ?_
  refine s_rg ?_
  refine s_op (o_mv rfl) ?_
  refine s_nilO ?_
  refine q_seqN ?_
  refine s_keep [1, 3, 4] rfl ?_
  refine S_block ?_
  refine S_loop0 (ι := Nat) (fun i => i ≤ x.masters.length) (fun i => [(4, .w (.int .i64 (i : Int))), (3, .w (.int .i64 (priosOf (x.masters.take i) : Int)))]) (fun i => x.masters.length - i) 0 (by simp) rfl ⟨rfl, rfl, trivial⟩ (fun _ _ => rfl) rfl ?_
  intro i hi
  have hp := prios_i x.masters i
  refine s_keep [1, 3, 4] rfl ?_
  refine S_seq ?_
  refine S_seq ?_
  refine s_rg ?_
  refine s_op (o_mv rfl) ?_
  refine s_op (o_faC rfl) ?_
  refine s_op (o_ldC rfl rfl rfl) ?_
  first | refine s_op (o_lenM rfl) ?_ | refine s_op (o_len rfl) ?_ | refine s_op (o_lenL rfl rfl rfl) ?_ | refine s_op (o_lenN rfl) ?_
  first | refine s_op (o_lss rfl rfl) ?_ | refine s_op (o_bin rfl rfl rfl rfl) ?_
  refine s_nilO ?_
  refine q_seqN ?_
  refine s_keep [1, 3, 4, 11] rfl ?_
  first | refine s_condD rfl ?_ ?_ | refine s_condN rfl ?_ ?_ | refine s_condNB rfl ?_ ?_ | refine s_condB rfl ?_ ?_
  · intro h1
    try rw [Decidable.not_not] at h1
    try rw [hL] at h1
    refine s_skip ?_
    refine q_seqN ?_
    refine s_keep [1, 3, 4] rfl ?_
    refine S_seq ?_
    refine S_block ?_
    refine S_seq ?_
    refine s_rg ?_
    refine s_op (o_faC rfl) ?_
    refine s_op (o_ldC rfl rfl rfl) ?_
    refine s_op (o_mv rfl) ?_
    refine s_iaM rfl rfl (by simp at *; omega) ?_
    intro y2 e2
    try simp only [Int.toNat_natCast, Int.toNat_zero] at e2
    refine s_op (o_fa rfl) ?_
    refine s_op (o_ld rfl rfl) ?_
    refine s_nilO ?_
    refine q_seqN ?_
    refine s_keep [1, 3, 4, 19] rfl ?_
    first | refine s_condD rfl ?_ ?_ | refine s_condN rfl ?_ ?_ | refine s_condNB rfl ?_ ?_ | refine s_condB rfl ?_ ?_
    · intro h3
      try rw [Decidable.not_not] at h3
      try rw [hL] at h3
      refine s_rg ?_
      refine s_op (o_mv rfl) ?_
      first | refine s_op (o_addn rfl rfl (by omega)) ?_ | refine s_op (o_add rfl rfl) ?_
      refine s_op (o_mv rfl) ?_
      refine s_nilO ?_
      refine q_blkN ?_
      refine q_seqN ?_
      refine s_keep [1, 3, 4] rfl ?_
      refine s_rg ?_
      refine s_op (o_mv rfl) ?_
      first | refine s_op (o_addn rfl rfl (by omega)) ?_ | refine s_op (o_add rfl rfl) ?_
      refine s_op (o_mv rfl) ?_
      refine s_nilO ?_
      refine q_loopN ?_
      refine ⟨i + 1, by omega, by omega, hasOf ⟨rfl, ?_, trivial⟩ rfl⟩
      rw [prios_step (by assumption)]; simp_all; rfl
    · intro h3
      try rw [Decidable.not_not] at h3
      try rw [hL] at h3
      refine s_skip ?_
      refine q_blkN ?_
      refine q_seqN ?_
      refine s_keep [1, 3, 4] rfl ?_
      refine s_rg ?_
      refine s_op (o_mv rfl) ?_
      first | refine s_op (o_addn rfl rfl (by omega)) ?_ | refine s_op (o_add rfl rfl) ?_
      refine s_op (o_mv rfl) ?_
      refine s_nilO ?_
      refine q_loopN ?_
      refine ⟨i + 1, by omega, by omega, hasOf ⟨rfl, ?_, trivial⟩ rfl⟩
      rw [prios_step (by assumption)]; simp_all; rfl
  · intro h1
    try rw [Decidable.not_not] at h1
    try rw [hL] at h1
    refine s_exit ?_
    refine q_seqX ?_
    refine q_loopX ?_
    refine q_blkH ?_
    refine q_seqN ?_
    refine s_keep [1, 3] rfl ?_
    refine S_seq ?_
    refine S_seq ?_
    refine s_rg ?_
    refine s_op (o_mv rfl) ?_
    refine s_nilO ?_
    refine q_seqN ?_
    refine s_keep [1, 3, 5] rfl ?_
    refine S_block ?_
    refine s_eqv 3 rfl (congrArg (fun n : Nat => V.w (.int .i64 (n : Int))) (by rw [take_end (by omega)])) ?_
    refine S_loop0 (ι := Nat) (fun i => i ≤ x.masters.length ∧ (x.masters.take i).all (MConf.ok x.least) = true) (fun i => [(5, .w (.int .i64 (i : Int)))]) (fun i => x.masters.length - i) 0 (by simp) rfl ⟨rfl, trivial⟩ (fun _ _ => rfl) rfl ?_
    intro i hi
    refine s_keep [1, 3, 5] rfl ?_
    refine S_seq ?_
    refine S_seq ?_
    refine s_rg ?_
    refine s_op (o_mv rfl) ?_
    refine s_op (o_faC rfl) ?_
    refine s_op (o_ldC rfl rfl rfl) ?_
    first | refine s_op (o_lenM rfl) ?_ | refine s_op (o_len rfl) ?_ | refine s_op (o_lenL rfl rfl rfl) ?_ | refine s_op (o_lenN rfl) ?_
    first | refine s_op (o_lss rfl rfl) ?_ | refine s_op (o_bin rfl rfl rfl rfl) ?_
    refine s_nilO ?_
    refine q_seqN ?_
    refine s_keep [1, 3, 5, 26] rfl ?_
    first | refine s_condD rfl ?_ ?_ | refine s_condN rfl ?_ ?_ | refine s_condNB rfl ?_ ?_ | refine s_condB rfl ?_ ?_
    · intro h4
      try rw [Decidable.not_not] at h4
      try rw [hL] at h4
      refine s_skip ?_
      refine q_seqN ?_
      refine s_keep [1, 3, 5] rfl ?_
      refine S_seq ?_
      refine S_block ?_
      refine S_seq ?_
      refine s_rg ?_
      refine s_op (o_faC rfl) ?_
      refine s_op (o_ldC rfl rfl rfl) ?_
      refine s_op (o_mv rfl) ?_
      refine s_iaM rfl rfl (by simp at *; omega) ?_
      intro y5 e5
      try simp only [Int.toNat_natCast, Int.toNat_zero] at e5
      refine s_op (o_ldn rfl rfl) ?_
      refine s_op (o_new rfl rfl) ?_
      refine s_opN (o_stnC rfl rfl rfl rfl rfl rfl rfl) ?_
      refine s_nilO ?_
      refine q_seqN ?_
      refine s_keep [1, 3, 5, 6] rfl ?_
      refine S_seq ?_
      refine s_rg ?_
      refine s_op (o_faC rfl) ?_
      refine s_op (o_ldC rfl rfl rfl) ?_
      first | refine s_call rfl rfl (c_230 ..) ?_ | refine s_callL rfl rfl (by simp) (c_230 ..) rfl ?_
      refine s_op (o_not rfl) ?_
      refine s_op (o_mv rfl) ?_
      first | refine s_gDF rfl ?_ ?_ | refine s_gNDF rfl ?_ ?_ | refine s_gNF rfl ?_ ?_ | refine s_gB rfl ?_ ?_
      · intro h6
        try rw [Decidable.not_not] at h6
        try rw [hL] at h6
        refine s_op (o_faC rfl) ?_
        refine s_gT rfl ?_
        refine s_op (o_ldC rfl rfl rfl) ?_
        refine s_gT rfl ?_
        refine s_op (o_not rfl) ?_
        refine s_gT rfl ?_
        refine s_op (o_mv rfl) ?_
        first | refine s_gDT rfl ?_ ?_ | refine s_gNDT rfl ?_ ?_ | refine s_gNT rfl ?_ ?_ | refine s_gB rfl ?_ ?_
        · intro h7
          try rw [Decidable.not_not] at h7
          try rw [hL] at h7
          refine s_op (o_faC rfl) ?_
          refine s_gT rfl ?_
          refine s_op (o_ldC rfl rfl rfl) ?_
          refine s_gT rfl ?_
          first | refine s_op (o_neq rfl rfl) ?_ | refine s_op (o_bin rfl rfl rfl rfl) ?_
          refine s_gT rfl ?_
          refine s_op (o_mv rfl) ?_
          first | refine s_gDF rfl ?_ ?_ | refine s_gNDF rfl ?_ ?_ | refine s_gNF rfl ?_ ?_ | refine s_gB rfl ?_ ?_
          · intro h8
            try rw [Decidable.not_not] at h8
            try rw [hL] at h8
            refine s_op (o_faC rfl) ?_
            refine s_keepO (is := [1, 3, 5, 6, 38, 39, 40, 41, 42, 43, 44, 45, 46, 47]) rfl ?_
            refine s_gT rfl ?_
            refine s_op (o_ldC rfl rfl rfl) ?_
            refine s_gT rfl ?_
            first | refine s_op (o_neq rfl rfl) ?_ | refine s_op (o_bin rfl rfl rfl rfl) ?_
            refine s_gT rfl ?_
            refine s_op (o_pickF rfl rfl) ?_
            refine s_gT rfl ?_
            refine s_op (o_pickT rfl rfl) ?_
            refine s_op (o_pickF rfl rfl) ?_
            refine s_op (o_mv rfl) ?_
            first | refine s_gDF rfl ?_ ?_ | refine s_gNDF rfl ?_ ?_ | refine s_gNF rfl ?_ ?_ | refine s_gB rfl ?_ ?_
            · intro h9
              try rw [Decidable.not_not] at h9
              try rw [hL] at h9
              refine s_op (o_faC rfl) ?_
              refine s_gT rfl ?_
              refine s_op (o_ldC rfl rfl rfl) ?_
              refine s_gT rfl ?_
              refine s_op (o_mv rfl) ?_
              first | refine s_gDT rfl ?_ ?_ | refine s_gNDT rfl ?_ ?_ | refine s_gNT rfl ?_ ?_ | refine s_gB rfl ?_ ?_
              · intro h10
                try rw [Decidable.not_not] at h10
                try rw [hL] at h10
                refine s_op (o_faC rfl) ?_
                refine s_gT rfl ?_
                refine s_op (o_ldC rfl rfl rfl) ?_
                refine s_gT rfl ?_
                refine s_op (o_mv rfl) ?_
                refine s_gT rfl ?_
                refine s_op (o_mul rfl rfl) ?_
                refine s_gT rfl ?_
                refine s_op (o_ldnC rfl rfl rfl) ?_
                refine s_keepO (is := [1, 3, 5, 6, 39, 40, 41, 42, 43, 44, 45, 46, 47, 48, 49, 50, 51, 53, 54, 55, 56, 57, 58, 59, 60, 61]) rfl ?_
                refine s_gT rfl ?_
                first | refine s_call rfl rfl (c_214 ..) ?_ | refine s_callL rfl rfl (by simp) (c_214 ..) rfl ?_
                refine s_gT rfl ?_
                refine s_op (o_mul rfl rfl) ?_
                refine s_gT rfl ?_
                first | refine s_call rfl rfl (c_230 ..) ?_ | refine s_callL rfl rfl (by simp) (c_230 ..) rfl ?_
                refine s_gT rfl ?_
                refine s_op (o_not rfl) ?_
                refine s_gT rfl ?_
                refine s_op (o_mv rfl) ?_
                first | refine s_gDF rfl ?_ ?_ | refine s_gNDF rfl ?_ ?_ | refine s_gNF rfl ?_ ?_ | refine s_gB rfl ?_ ?_
                · intro h11
                  try rw [Decidable.not_not] at h11
                  try rw [hL] at h11
                  refine s_op (o_faC rfl) ?_
                  refine s_gT rfl ?_
                  refine s_op (o_ldC rfl rfl rfl) ?_
                  refine s_gT rfl ?_
                  first | refine s_call rfl rfl (c_230 ..) ?_ | refine s_callL rfl rfl (by simp) (c_230 ..) rfl ?_
                  refine s_gT rfl ?_
                  refine s_op (o_not rfl) ?_
                  refine s_gT rfl ?_
                  refine s_op (o_pickF rfl rfl) ?_
                  refine s_gT rfl ?_
                  refine s_op (o_pickT rfl rfl) ?_
                  refine s_op (o_pickF rfl rfl) ?_
                  refine s_nilO ?_
                  refine q_seqN ?_
                  refine s_keep [1, 3, 5, 39, 40, 41, 42, 43, 44, 45, 46, 47, 48, 49, 50, 51, 54, 55, 56, 57, 58, 59, 60, 61, 62, 63, 64, 65, 66, 67, 68, 69, 70, 71, 72, 73] rfl ?_
                  first | refine s_condD rfl ?_ ?_ | refine s_condN rfl ?_ ?_ | refine s_condNB rfl ?_ ?_ | refine s_condB rfl ?_ ?_
                  · intro h12
                    try rw [Decidable.not_not] at h12
                    try rw [hL] at h12
                    refine S_seq ?_
                    refine s_rg ?_
                    refine s_op (o_mv rfl) ?_
                    refine s_nilO ?_
                    refine q_seqN ?_
                    refine s_keep [2] rfl ?_
                    refine s_ret ?_
                    refine q_blkR ?_
                    refine q_seqR ?_
                    refine q_loopR ?_
                    refine q_blkR ?_
                    refine q_seqR ?_
                    refine ret_leaf (.inr rfl) rfl rfl ?_
                    refine congrArg (fun b => V.w (.bool b)) ?_
                    first | (refine ok_no (by assumption) ?_; clear hi; simp_all [MConf.ok]; done) | (rw [ok_is (all_end hi.2 (by omega))]; clear hi; simp_all; done)
                  · intro h12
                    try rw [Decidable.not_not] at h12
                    try rw [hL] at h12
                    refine s_skip ?_
                    refine q_blkN ?_
                    refine q_seqN ?_
                    refine s_keep [1, 3, 5, 39, 40, 41, 42, 43, 44, 45, 46, 47, 48, 49, 50, 51, 54, 55, 56, 57, 58, 59, 60, 61, 62, 63, 64, 65, 66, 67, 68, 69, 70, 71, 72] rfl ?_
                    refine s_rg ?_
                    refine s_op (o_mv rfl) ?_
                    first | refine s_op (o_addn rfl rfl (by omega)) ?_ | refine s_op (o_add rfl rfl) ?_
                    refine s_op (o_mv rfl) ?_
                    refine s_nilO ?_
                    refine q_loopN ?_
                    refine ⟨i + 1, ⟨by omega, all_take (by assumption) hi.2 ?_⟩, by omega, hasOf ⟨rfl, trivial⟩ rfl⟩
                    clear hi
                    simp_all [MConf.ok]
                · intro h11
                  try rw [Decidable.not_not] at h11
                  try rw [hL] at h11
                  refine s_gF rfl ?_
                  refine s_gF rfl ?_
                  refine s_gF rfl ?_
                  refine s_gF rfl ?_
                  refine s_gT rfl ?_
                  refine s_op (o_pickT rfl rfl) ?_
                  refine s_gT rfl ?_
                  refine s_op (o_pickT rfl rfl) ?_
                  refine s_op (o_pickF rfl rfl) ?_
                  refine s_nilO ?_
                  refine q_seqN ?_
                  refine s_keep [1, 3, 5, 39, 40, 41, 42, 43, 44, 45, 46, 47, 48, 49, 50, 51, 54, 55, 56, 57, 58, 59, 60, 61, 62, 63, 64, 65, 66, 67, 68, 69, 70, 71, 72, 73] rfl ?_
                  refine s_condT rfl ?_
                  refine S_seq ?_
                  refine s_rg ?_
                  refine s_op (o_mv rfl) ?_
                  refine s_nilO ?_
                  refine q_seqN ?_
                  refine s_keep [2] rfl ?_
                  refine s_ret ?_
                  refine q_blkR ?_
                  refine q_seqR ?_
                  refine q_loopR ?_
                  refine q_blkR ?_
                  refine q_seqR ?_
                  refine ret_leaf (.inr rfl) rfl rfl ?_
                  refine congrArg (fun b => V.w (.bool b)) ?_
                  first | (refine ok_no (by assumption) ?_; clear hi; simp_all [MConf.ok]; done) | (rw [ok_is (all_end hi.2 (by omega))]; clear hi; simp_all; done)
              · intro h10
                try rw [Decidable.not_not] at h10
                try rw [hL] at h10
                refine s_gF rfl ?_
                refine s_gF rfl ?_
                refine s_gF rfl ?_
                refine s_gF rfl ?_
                refine s_gF rfl ?_
                refine s_keepO (is := [1, 3, 5, 6, 39, 40, 41, 42, 43, 44, 45, 46, 47, 48, 49, 50, 51, 53, 54, 55, 56, 57, 58, 59, 60, 61]) rfl ?_
                refine s_gF rfl ?_
                refine s_gF rfl ?_
                refine s_gF rfl ?_
                refine s_gF rfl ?_
                refine s_gF rfl ?_
                refine s_gN rfl ?_
                refine s_gN rfl ?_
                refine s_gN rfl ?_
                refine s_gN rfl ?_
                refine s_gF rfl ?_
                refine s_gT rfl ?_
                refine s_op (o_pickF rfl rfl) ?_
                refine s_op (o_pickF rfl rfl) ?_
                refine s_nilO ?_
                refine q_seqN ?_
                refine s_keep [1, 3, 5, 39, 40, 41, 42, 43, 44, 45, 46, 47, 48, 49, 50, 51, 54, 55, 56, 57, 58, 59, 60, 61, 62, 63, 64, 65, 66, 67, 68, 69, 70, 71, 72, 73] rfl ?_
                refine s_condF rfl ?_
                refine s_skip ?_
                refine q_blkN ?_
                refine q_seqN ?_
                refine s_keep [1, 3, 5, 39, 40, 41, 42, 43, 44, 45, 46, 47, 48, 49, 50, 51, 54, 55, 56, 57, 58, 59, 60, 61, 62, 63, 64, 65, 66, 67, 68, 69, 70, 71, 72] rfl ?_
                refine s_rg ?_
                refine s_op (o_mv rfl) ?_
                first | refine s_op (o_addn rfl rfl (by omega)) ?_ | refine s_op (o_add rfl rfl) ?_
                refine s_op (o_mv rfl) ?_
                refine s_nilO ?_
                refine q_loopN ?_
                refine ⟨i + 1, ⟨by omega, all_take (by assumption) hi.2 ?_⟩, by omega, hasOf ⟨rfl, trivial⟩ rfl⟩
                clear hi
                simp_all [MConf.ok]
            · intro h9
              try rw [Decidable.not_not] at h9
              try rw [hL] at h9
              refine s_gF rfl ?_
              refine s_gF rfl ?_
              refine s_gF rfl ?_
              refine s_gN rfl ?_
              refine s_gN rfl ?_
              refine s_gN rfl ?_
              refine s_gN rfl ?_
              refine s_gN rfl ?_
              refine s_keepO (is := [1, 3, 5, 6, 39, 40, 41, 42, 43, 44, 45, 46, 47, 48, 49, 50, 51, 53, 54, 55, 56, 57, 58, 59, 60, 61]) rfl ?_
              refine s_gN rfl ?_
              refine s_gN rfl ?_
              refine s_gN rfl ?_
              refine s_gN rfl ?_
              refine s_gN rfl ?_
              refine s_gN rfl ?_
              refine s_gN rfl ?_
              refine s_gN rfl ?_
              refine s_gN rfl ?_
              refine s_gN rfl ?_
              refine s_gF rfl ?_
              refine s_op (o_pickT rfl rfl) ?_
              refine s_nilO ?_
              refine q_seqN ?_
              refine s_keep [1, 3, 5, 39, 40, 41, 42, 43, 44, 45, 46, 47, 48, 49, 50, 51, 54, 55, 56, 57, 58, 59, 60, 61, 62, 63, 64, 65, 66, 67, 68, 69, 70, 71, 72, 73] rfl ?_
              refine s_condT rfl ?_
              refine S_seq ?_
              refine s_rg ?_
              refine s_op (o_mv rfl) ?_
              refine s_nilO ?_
              refine q_seqN ?_
              refine s_keep [2] rfl ?_
              refine s_ret ?_
              refine q_blkR ?_
              refine q_seqR ?_
              refine q_loopR ?_
              refine q_blkR ?_
              refine q_seqR ?_
              refine ret_leaf (.inr rfl) rfl rfl ?_
              refine congrArg (fun b => V.w (.bool b)) ?_
              first | (refine ok_no (by assumption) ?_; clear hi; simp_all [MConf.ok]; done) | (rw [ok_is (all_end hi.2 (by omega))]; clear hi; simp_all; done)
          · intro h8
            try rw [Decidable.not_not] at h8
            try rw [hL] at h8
            refine s_gF rfl ?_
            refine s_keepO (is := [1, 3, 5, 6, 38, 39, 40, 41, 42, 43, 44, 45, 46, 47]) rfl ?_
            refine s_gF rfl ?_
            refine s_gF rfl ?_
            refine s_gT rfl ?_
            refine s_op (o_pickT rfl rfl) ?_
            refine s_gT rfl ?_
            refine s_op (o_pickT rfl rfl) ?_
            refine s_op (o_pickF rfl rfl) ?_
            refine s_op (o_mv rfl) ?_
            refine s_gF rfl ?_
            refine s_gF rfl ?_
            refine s_gF rfl ?_
            refine s_gN rfl ?_
            refine s_gN rfl ?_
            refine s_gN rfl ?_
            refine s_gN rfl ?_
            refine s_gN rfl ?_
            refine s_keepO (is := [1, 3, 5, 6, 39, 40, 41, 42, 43, 44, 45, 46, 47, 48, 49, 50, 51, 53, 54, 55, 56, 57, 58, 59, 60, 61]) rfl ?_
            refine s_gN rfl ?_
            refine s_gN rfl ?_
            refine s_gN rfl ?_
            refine s_gN rfl ?_
            refine s_gN rfl ?_
            refine s_gN rfl ?_
            refine s_gN rfl ?_
            refine s_gN rfl ?_
            refine s_gN rfl ?_
            refine s_gN rfl ?_
            refine s_gF rfl ?_
            refine s_op (o_pickT rfl rfl) ?_
            refine s_nilO ?_
            refine q_seqN ?_
            refine s_keep [1, 3, 5, 39, 40, 41, 42, 43, 44, 45, 46, 47, 48, 49, 50, 51, 54, 55, 56, 57, 58, 59, 60, 61, 62, 63, 64, 65, 66, 67, 68, 69, 70, 71, 72, 73] rfl ?_
            refine s_condT rfl ?_
            refine S_seq ?_
            refine s_rg ?_
            refine s_op (o_mv rfl) ?_
            refine s_nilO ?_
            refine q_seqN ?_
            refine s_keep [2] rfl ?_
            refine s_ret ?_
            refine q_blkR ?_
            refine q_seqR ?_
            refine q_loopR ?_
            refine q_blkR ?_
            refine q_seqR ?_
            refine ret_leaf (.inr rfl) rfl rfl ?_
            refine congrArg (fun b => V.w (.bool b)) ?_
            first | (refine ok_no (by assumption) ?_; clear hi; simp_all [MConf.ok]; done) | (rw [ok_is (all_end hi.2 (by omega))]; clear hi; simp_all; done)
        · intro h7
          try rw [Decidable.not_not] at h7
          try rw [hL] at h7
          refine s_gF rfl ?_
          refine s_gF rfl ?_
          refine s_gF rfl ?_
          refine s_gF rfl ?_
          refine s_gN rfl ?_
          refine s_keepO (is := [1, 3, 5, 6, 38, 39, 40, 41, 42, 43, 44, 45, 46, 47]) rfl ?_
          refine s_gN rfl ?_
          refine s_gN rfl ?_
          refine s_gF rfl ?_
          refine s_gT rfl ?_
          refine s_op (o_pickF rfl rfl) ?_
          refine s_op (o_pickF rfl rfl) ?_
          refine s_op (o_mv rfl) ?_
          refine s_gT rfl ?_
          refine s_op (o_faC rfl) ?_
          refine s_gT rfl ?_
          refine s_op (o_ldC rfl rfl rfl) ?_
          refine s_gT rfl ?_
          refine s_op (o_mv rfl) ?_
          first | refine s_gDT rfl ?_ ?_ | refine s_gNDT rfl ?_ ?_ | refine s_gNT rfl ?_ ?_ | refine s_gB rfl ?_ ?_
          · intro h13
            try rw [Decidable.not_not] at h13
            try rw [hL] at h13
            refine s_op (o_faC rfl) ?_
            refine s_gT rfl ?_
            refine s_op (o_ldC rfl rfl rfl) ?_
            refine s_gT rfl ?_
            refine s_op (o_mv rfl) ?_
            refine s_gT rfl ?_
            refine s_op (o_mul rfl rfl) ?_
            refine s_gT rfl ?_
            refine s_op (o_ldnC rfl rfl rfl) ?_
            refine s_keepO (is := [1, 3, 5, 6, 39, 40, 41, 42, 43, 44, 45, 46, 47, 48, 49, 50, 51, 53, 54, 55, 56, 57, 58, 59, 60, 61]) rfl ?_
            refine s_gT rfl ?_
            first | refine s_call rfl rfl (c_214 ..) ?_ | refine s_callL rfl rfl (by simp) (c_214 ..) rfl ?_
            refine s_gT rfl ?_
            refine s_op (o_mul rfl rfl) ?_
            refine s_gT rfl ?_
            first | refine s_call rfl rfl (c_230 ..) ?_ | refine s_callL rfl rfl (by simp) (c_230 ..) rfl ?_
            refine s_gT rfl ?_
            refine s_op (o_not rfl) ?_
            refine s_gT rfl ?_
            refine s_op (o_mv rfl) ?_
            first | refine s_gDF rfl ?_ ?_ | refine s_gNDF rfl ?_ ?_ | refine s_gNF rfl ?_ ?_ | refine s_gB rfl ?_ ?_
            · intro h14
              try rw [Decidable.not_not] at h14
              try rw [hL] at h14
              refine s_op (o_faC rfl) ?_
              refine s_gT rfl ?_
              refine s_op (o_ldC rfl rfl rfl) ?_
              refine s_gT rfl ?_
              first | refine s_call rfl rfl (c_230 ..) ?_ | refine s_callL rfl rfl (by simp) (c_230 ..) rfl ?_
              refine s_gT rfl ?_
              refine s_op (o_not rfl) ?_
              refine s_gT rfl ?_
              refine s_op (o_pickF rfl rfl) ?_
              refine s_gT rfl ?_
              refine s_op (o_pickT rfl rfl) ?_
              refine s_op (o_pickF rfl rfl) ?_
              refine s_nilO ?_
              refine q_seqN ?_
              refine s_keep [1, 3, 5, 39, 40, 41, 42, 43, 44, 45, 46, 47, 48, 49, 50, 51, 54, 55, 56, 57, 58, 59, 60, 61, 62, 63, 64, 65, 66, 67, 68, 69, 70, 71, 72, 73] rfl ?_
              first | refine s_condD rfl ?_ ?_ | refine s_condN rfl ?_ ?_ | refine s_condNB rfl ?_ ?_ | refine s_condB rfl ?_ ?_
              · intro h15
                try rw [Decidable.not_not] at h15
                try rw [hL] at h15
                refine S_seq ?_
                refine s_rg ?_
                refine s_op (o_mv rfl) ?_
                refine s_nilO ?_
                refine q_seqN ?_
                refine s_keep [2] rfl ?_
                refine s_ret ?_
                refine q_blkR ?_
                refine q_seqR ?_
                refine q_loopR ?_
                refine q_blkR ?_
                refine q_seqR ?_
                refine ret_leaf (.inr rfl) rfl rfl ?_
                refine congrArg (fun b => V.w (.bool b)) ?_
                first | (refine ok_no (by assumption) ?_; clear hi; simp_all [MConf.ok]; done) | (rw [ok_is (all_end hi.2 (by omega))]; clear hi; simp_all; done)
              · intro h15
                try rw [Decidable.not_not] at h15
                try rw [hL] at h15
                refine s_skip ?_
                refine q_blkN ?_
                refine q_seqN ?_
                refine s_keep [1, 3, 5, 39, 40, 41, 42, 43, 44, 45, 46, 47, 48, 49, 50, 51, 54, 55, 56, 57, 58, 59, 60, 61, 62, 63, 64, 65, 66, 67, 68, 69, 70, 71, 72] rfl ?_
                refine s_rg ?_
                refine s_op (o_mv rfl) ?_
                first | refine s_op (o_addn rfl rfl (by omega)) ?_ | refine s_op (o_add rfl rfl) ?_
                refine s_op (o_mv rfl) ?_
                refine s_nilO ?_
                refine q_loopN ?_
                refine ⟨i + 1, ⟨by omega, all_take (by assumption) hi.2 ?_⟩, by omega, hasOf ⟨rfl, trivial⟩ rfl⟩
                clear hi
                simp_all [MConf.ok]
            · intro h14
              try rw [Decidable.not_not] at h14
              try rw [hL] at h14
              refine s_gF rfl ?_
              refine s_gF rfl ?_
              refine s_gF rfl ?_
              refine s_gF rfl ?_
              refine s_gT rfl ?_
              refine s_op (o_pickT rfl rfl) ?_
              refine s_gT rfl ?_
              refine s_op (o_pickT rfl rfl) ?_
              refine s_op (o_pickF rfl rfl) ?_
              refine s_nilO ?_
              refine q_seqN ?_
              refine s_keep [1, 3, 5, 39, 40, 41, 42, 43, 44, 45, 46, 47, 48, 49, 50, 51, 54, 55, 56, 57, 58, 59, 60, 61, 62, 63, 64, 65, 66, 67, 68, 69, 70, 71, 72, 73] rfl ?_
              refine s_condT rfl ?_
              refine S_seq ?_
              refine s_rg ?_
              refine s_op (o_mv rfl) ?_
              refine s_nilO ?_
              refine q_seqN ?_
              refine s_keep [2] rfl ?_
              refine s_ret ?_
              refine q_blkR ?_
              refine q_seqR ?_
              refine q_loopR ?_
              refine q_blkR ?_
              refine q_seqR ?_
              refine ret_leaf (.inr rfl) rfl rfl ?_
              refine congrArg (fun b => V.w (.bool b)) ?_
              first | (refine ok_no (by assumption) ?_; clear hi; simp_all [MConf.ok]; done) | (rw [ok_is (all_end hi.2 (by omega))]; clear hi; simp_all; done)
          · intro h13
            try rw [Decidable.not_not] at h13
            try rw [hL] at h13
            refine s_gF rfl ?_
            refine s_gF rfl ?_
            refine s_gF rfl ?_
            refine s_gF rfl ?_
            refine s_gF rfl ?_
            refine s_keepO (is := [1, 3, 5, 6, 39, 40, 41, 42, 43, 44, 45, 46, 47, 48, 49, 50, 51, 53, 54, 55, 56, 57, 58, 59, 60, 61]) rfl ?_
            refine s_gF rfl ?_
            refine s_gF rfl ?_
            refine s_gF rfl ?_
            refine s_gF rfl ?_
            refine s_gF rfl ?_
            refine s_gN rfl ?_
            refine s_gN rfl ?_
            refine s_gN rfl ?_
            refine s_gN rfl ?_
            refine s_gF rfl ?_
            refine s_gT rfl ?_
            refine s_op (o_pickF rfl rfl) ?_
            refine s_op (o_pickF rfl rfl) ?_
            refine s_nilO ?_
            refine q_seqN ?_
            refine s_keep [1, 3, 5, 39, 40, 41, 42, 43, 44, 45, 46, 47, 48, 49, 50, 51, 54, 55, 56, 57, 58, 59, 60, 61, 62, 63, 64, 65, 66, 67, 68, 69, 70, 71, 72, 73] rfl ?_
            refine s_condF rfl ?_
            refine s_skip ?_
            refine q_blkN ?_
            refine q_seqN ?_
            refine s_keep [1, 3, 5, 39, 40, 41, 42, 43, 44, 45, 46, 47, 48, 49, 50, 51, 54, 55, 56, 57, 58, 59, 60, 61, 62, 63, 64, 65, 66, 67, 68, 69, 70, 71, 72] rfl ?_
            refine s_rg ?_
            refine s_op (o_mv rfl) ?_
            first | refine s_op (o_addn rfl rfl (by omega)) ?_ | refine s_op (o_add rfl rfl) ?_
            refine s_op (o_mv rfl) ?_
            refine s_nilO ?_
            refine q_loopN ?_
            refine ⟨i + 1, ⟨by omega, all_take (by assumption) hi.2 ?_⟩, by omega, hasOf ⟨rfl, trivial⟩ rfl⟩
            clear hi
            simp_all [MConf.ok]
      · intro h6
        try rw [Decidable.not_not] at h6
        try rw [hL] at h6
        refine s_gF rfl ?_
        refine s_gF rfl ?_
        refine s_gF rfl ?_
        refine s_gF rfl ?_
        refine s_gN rfl ?_
        refine s_gN rfl ?_
        refine s_gN rfl ?_
        refine s_gN rfl ?_
        refine s_gN rfl ?_
        refine s_keepO (is := [1, 3, 5, 6, 38, 39, 40, 41, 42, 43, 44, 45, 46, 47]) rfl ?_
        refine s_gN rfl ?_
        refine s_gN rfl ?_
        refine s_gN rfl ?_
        refine s_gF rfl ?_
        refine s_op (o_pickT rfl rfl) ?_
        refine s_op (o_mv rfl) ?_
        refine s_gF rfl ?_
        refine s_gF rfl ?_
        refine s_gF rfl ?_
        refine s_gN rfl ?_
        refine s_gN rfl ?_
        refine s_gN rfl ?_
        refine s_gN rfl ?_
        refine s_gN rfl ?_
        refine s_keepO (is := [1, 3, 5, 6, 39, 40, 41, 42, 43, 44, 45, 46, 47, 48, 49, 50, 51, 53, 54, 55, 56, 57, 58, 59, 60, 61]) rfl ?_
        refine s_gN rfl ?_
        refine s_gN rfl ?_
        refine s_gN rfl ?_
        refine s_gN rfl ?_
        refine s_gN rfl ?_
        refine s_gN rfl ?_
        refine s_gN rfl ?_
        refine s_gN rfl ?_
        refine s_gN rfl ?_
        refine s_gN rfl ?_
        refine s_gF rfl ?_
        refine s_op (o_pickT rfl rfl) ?_
        refine s_nilO ?_
        refine q_seqN ?_
        refine s_keep [1, 3, 5, 39, 40, 41, 42, 43, 44, 45, 46, 47, 48, 49, 50, 51, 54, 55, 56, 57, 58, 59, 60, 61, 62, 63, 64, 65, 66, 67, 68, 69, 70, 71, 72, 73] rfl ?_
        refine s_condT rfl ?_
        refine S_seq ?_
        refine s_rg ?_
        refine s_op (o_mv rfl) ?_
        refine s_nilO ?_
        refine q_seqN ?_
        refine s_keep [2] rfl ?_
        refine s_ret ?_
        refine q_blkR ?_
        refine q_seqR ?_
        refine q_loopR ?_
        refine q_blkR ?_
        refine q_seqR ?_
        refine ret_leaf (.inr rfl) rfl rfl ?_
        refine congrArg (fun b => V.w (.bool b)) ?_
        first | (refine ok_no (by assumption) ?_; clear hi; simp_all [MConf.ok]; done) | (rw [ok_is (all_end hi.2 (by omega))]; clear hi; simp_all; done)
    · intro h4
      try rw [Decidable.not_not] at h4
      try rw [hL] at h4
      refine s_exit ?_
      refine q_seqX ?_
      refine q_loopX ?_
      refine q_blkH ?_
      refine q_seqN ?_
      refine s_keep [1] rfl ?_
      refine S_seq ?_
      refine s_rg ?_
      refine s_op (o_faC rfl) ?_
      refine s_op (o_ldC rfl rfl rfl) ?_
      first | refine s_op (o_lenM rfl) ?_ | refine s_op (o_len rfl) ?_ | refine s_op (o_lenL rfl rfl rfl) ?_ | refine s_op (o_lenN rfl) ?_
      refine s_call rfl rfl (c_230 ..) ?_
      refine s_op (o_mv rfl) ?_
      first | refine s_gDT rfl ?_ ?_ | refine s_gNDT rfl ?_ ?_ | refine s_gNT rfl ?_ ?_ | refine s_gB rfl ?_ ?_
      · intro h16
        try rw [Decidable.not_not] at h16
        try rw [hL] at h16
        refine s_op (o_ldnC rfl rfl rfl) ?_
        refine s_gT rfl ?_
        first | refine s_call rfl rfl (c_245 ..) ?_ | refine s_callL rfl rfl (by simp) (c_245 ..) rfl ?_
        refine s_op (o_pickT rfl rfl) ?_
        refine s_op (o_mv rfl) ?_
        refine s_nilO ?_
        refine q_seqN ?_
        refine s_keep [2] rfl ?_
        refine s_ret ?_
        refine ret_leaf (.inr rfl) rfl rfl ?_
        refine congrArg (fun b => V.w (.bool b)) ?_
        first | (refine ok_no (by assumption) ?_; clear hi; simp_all [MConf.ok]; done) | (rw [ok_is (all_end hi.2 (by omega))]; clear hi; simp_all; done)
      · intro h16
        try rw [Decidable.not_not] at h16
        try rw [hL] at h16
        refine s_gF rfl ?_
        refine s_gF rfl ?_
        refine s_op (o_pickF rfl rfl) ?_
        refine s_op (o_mv rfl) ?_
        refine s_nilO ?_
        refine q_seqN ?_
        refine s_keep [2] rfl ?_
        refine s_ret ?_
        refine ret_leaf (.inr rfl) rfl rfl ?_
        refine congrArg (fun b => V.w (.bool b)) ?_
        first | (refine ok_no (by assumption) ?_; clear hi; simp_all [MConf.ok]; done) | (rw [ok_is (all_end hi.2 (by omega))]; clear hi; simp_all; done)

def Conf.small (x : Conf) : Prop := x.masters.length ≤ 1048576

def Conf.sz (x : Conf) : Nat := x.masters.length

theorem Conf.small_of {x : Conf} (h : x.sz ≤ 1048576) : x.small := by unfold Conf.small; unfold Conf.sz at h; omega

theorem c_133 (x y : MConf) : CV prg 133 [.agg x.r, .agg y.r] (fun res => res = .w (.bool (decide (x = y)))) := by
  refine cv_in g133 ?_
  refine s_keep [0, 1] rfl ?_
  refine S_seq ?_
  refine s_rg ?_
  refine s_op (o_box rfl rfl rfl) ?_
  refine s_op (o_box rfl rfl rfl) ?_
  refine s_op (o_mv rfl) ?_
  refine s_nilO ?_
  refine q_seqN ?_
  refine s_keep [2, 3] rfl ?_
  refine S_seq ?_
  refine S_seq ?_
  refine s_rg ?_
  refine s_op (o_faC rfl) ?_
  refine s_op (o_ldC rfl rfl rfl) ?_
  refine s_op (o_faC rfl) ?_
  refine s_op (o_ldC rfl rfl rfl) ?_
  first | refine s_op (o_neq rfl rfl) ?_ | refine s_op (o_bin rfl rfl rfl rfl) ?_
  refine s_nilO ?_
  refine q_seqN ?_
  refine s_keep [2, 3, 9] rfl ?_
  first | refine s_condD rfl ?_ ?_ | refine s_condN rfl ?_ ?_ | refine s_condNB rfl ?_ ?_ | refine s_condB rfl ?_ ?_
  · intro h1
    try rw [Decidable.not_not] at h1
    refine S_seq ?_
    refine s_rg ?_
    refine s_op (o_mv rfl) ?_
    refine s_nilO ?_
    refine q_seqN ?_
    refine s_keep [4] rfl ?_
    refine s_ret ?_
    refine q_seqR ?_
    refine ret_leaf (.inr rfl) rfl rfl ?_
    refine congrArg (fun b => V.w (.bool b)) ?_
    cases x; cases y; simp_all
  · intro h1
    try rw [Decidable.not_not] at h1
    refine s_skip ?_
    refine q_seqN ?_
    refine s_keep [2, 3] rfl ?_
    refine S_seq ?_
    refine S_seq ?_
    refine s_rg ?_
    refine s_op (o_faC rfl) ?_
    refine s_op (o_ldC rfl rfl rfl) ?_
    refine s_op (o_faC rfl) ?_
    refine s_op (o_ldC rfl rfl rfl) ?_
    refine s_op (o_eqb rfl rfl) ?_
    refine s_nilO ?_
    refine q_seqN ?_
    refine s_keep [2, 3, 14] rfl ?_
    first | refine s_condD rfl ?_ ?_ | refine s_condN rfl ?_ ?_ | refine s_condNB rfl ?_ ?_ | refine s_condB rfl ?_ ?_
    · intro h2
      try rw [Decidable.not_not] at h2
      refine S_seq ?_
      refine s_rg ?_
      refine s_op (o_mv rfl) ?_
      refine s_nilO ?_
      refine q_seqN ?_
      refine s_keep [4] rfl ?_
      refine s_ret ?_
      refine q_seqR ?_
      refine ret_leaf (.inr rfl) rfl rfl ?_
      refine congrArg (fun b => V.w (.bool b)) ?_
      cases x; cases y; simp_all
    · intro h2
      try rw [Decidable.not_not] at h2
      refine s_skip ?_
      refine q_seqN ?_
      refine s_keep [2, 3] rfl ?_
      refine S_seq ?_
      refine S_seq ?_
      refine s_rg ?_
      refine s_op (o_faC rfl) ?_
      refine s_op (o_ldC rfl rfl rfl) ?_
      refine s_op (o_faC rfl) ?_
      refine s_op (o_ldC rfl rfl rfl) ?_
      first | refine s_op (o_neq rfl rfl) ?_ | refine s_op (o_bin rfl rfl rfl rfl) ?_
      refine s_nilO ?_
      refine q_seqN ?_
      refine s_keep [2, 3, 19] rfl ?_
      first | refine s_condD rfl ?_ ?_ | refine s_condN rfl ?_ ?_ | refine s_condNB rfl ?_ ?_ | refine s_condB rfl ?_ ?_
      · intro h3
        try rw [Decidable.not_not] at h3
        refine S_seq ?_
        refine s_rg ?_
        refine s_op (o_mv rfl) ?_
        refine s_nilO ?_
        refine q_seqN ?_
        refine s_keep [4] rfl ?_
        refine s_ret ?_
        refine q_seqR ?_
        refine ret_leaf (.inr rfl) rfl rfl ?_
        refine congrArg (fun b => V.w (.bool b)) ?_
        cases x; cases y; simp_all
      · intro h3
        try rw [Decidable.not_not] at h3
        refine s_skip ?_
        refine q_seqN ?_
        refine s_keep [2, 3] rfl ?_
        refine S_seq ?_
        refine S_seq ?_
        refine s_rg ?_
        refine s_op (o_faC rfl) ?_
        refine s_op (o_ldC rfl rfl rfl) ?_
        refine s_op (o_faC rfl) ?_
        refine s_op (o_ldC rfl rfl rfl) ?_
        first | refine s_op (o_neq rfl rfl) ?_ | refine s_op (o_bin rfl rfl rfl rfl) ?_
        refine s_nilO ?_
        refine q_seqN ?_
        refine s_keep [24] rfl ?_
        first | refine s_condD rfl ?_ ?_ | refine s_condN rfl ?_ ?_ | refine s_condNB rfl ?_ ?_ | refine s_condB rfl ?_ ?_
        · intro h4
          try rw [Decidable.not_not] at h4
          refine S_seq ?_
          refine s_rg ?_
          refine s_op (o_mv rfl) ?_
          refine s_nilO ?_
          refine q_seqN ?_
          refine s_keep [4] rfl ?_
          refine s_ret ?_
          refine q_seqR ?_
          refine ret_leaf (.inr rfl) rfl rfl ?_
          refine congrArg (fun b => V.w (.bool b)) ?_
          cases x; cases y; simp_all
        · intro h4
          try rw [Decidable.not_not] at h4
          refine s_skip ?_
          refine q_seqN ?_
          refine s_keep [] rfl ?_
          refine S_seq ?_
          refine s_rg ?_
          refine s_op (o_mv rfl) ?_
          refine s_nilO ?_
          refine q_seqN ?_
          refine s_keep [4] rfl ?_
          refine s_ret ?_
          refine ret_leaf (.inr rfl) rfl rfl ?_
          refine congrArg (fun b => V.w (.bool b)) ?_
          cases x; cases y; simp_all

theorem c_134 (xs ys : List MConf) (hl : xs.length ≤ 1048576) : CV prg 134 [.sl 4 (xs.map MConf.r), .sl 4 (ys.map MConf.r)] (fun res => res = .w (.bool (decide (xs = ys)))) := by
  refine cv_in g134 ?_
  refine s_keep [0, 1] rfl ?_
  refine S_seq ?_
  refine s_rg ?_
  refine s_op (o_mv rfl) ?_
  refine s_nilO ?_
  refine q_seqN ?_
  refine s_keep [0, 1] rfl ?_
  refine S_seq ?_
  refine S_seq ?_
  refine s_rg ?_
  refine s_op (o_mv rfl) ?_
  first | refine s_op (o_lenM rfl) ?_ | refine s_op (o_len rfl) ?_
  refine s_op (o_mv rfl) ?_
  first | refine s_op (o_lenM rfl) ?_ | refine s_op (o_len rfl) ?_
  first | refine s_op (o_neq rfl rfl) ?_ | refine s_op (o_bin rfl rfl rfl rfl) ?_
  refine s_nilO ?_
  refine q_seqN ?_
  refine s_keep [0, 1, 10] rfl ?_
  first | refine s_condD rfl ?_ ?_ | refine s_condN rfl ?_ ?_ | refine s_condNB rfl ?_ ?_ | refine s_condB rfl ?_ ?_
  · intro h1
    try rw [Decidable.not_not] at h1
    refine S_seq ?_
    refine s_rg ?_
    refine s_op (o_mv rfl) ?_
    refine s_nilO ?_
    refine q_seqN ?_
    refine s_keep [4] rfl ?_
    refine s_ret ?_
    refine q_seqR ?_
    refine ret_leaf (.inr rfl) rfl rfl ?_
    refine congrArg (fun b => V.w (.bool b)) ?_
    first | exact (decide_eq_false (ne_at (by assumption) (by assumption) (by assumption))).symm | exact (decide_eq_true (eq_end hi.2.1 (by omega) hi.2.2)).symm | exact (decide_eq_false (fun e => by subst e; simp_all)).symm
  · intro h1
    try rw [Decidable.not_not] at h1
    refine s_skip ?_
    refine q_seqN ?_
    refine s_keep [0, 1] rfl ?_
    refine S_seq ?_
    refine S_seq ?_
    refine s_rg ?_
    refine s_op (o_mv rfl) ?_
    refine s_nilO ?_
    refine q_seqN ?_
    refine s_keep [0, 1, 5] rfl ?_
    refine S_block ?_
    refine S_loop0 (ι := Nat) (fun i => i ≤ xs.length ∧ xs.take i = ys.take i ∧ xs.length = ys.length) (fun i => [(5, .w (.int .i64 (i : Int)))]) (fun i => xs.length - i) 0 ⟨by simp, by simp, by omega⟩ rfl ⟨rfl, trivial⟩ (fun _ _ => rfl) rfl ?_
    intro i hi
    refine s_keep [0, 1, 5] rfl ?_
    refine S_seq ?_
    refine S_seq ?_
    refine s_rg ?_
    refine s_op (o_mv rfl) ?_
    refine s_op (o_mv rfl) ?_
    first | refine s_op (o_lenM rfl) ?_ | refine s_op (o_len rfl) ?_
    first | refine s_op (o_lss rfl rfl) ?_ | refine s_op (o_bin rfl rfl rfl rfl) ?_
    refine s_nilO ?_
    refine q_seqN ?_
    refine s_keep [0, 1, 5, 14] rfl ?_
    first | refine s_condD rfl ?_ ?_ | refine s_condN rfl ?_ ?_ | refine s_condNB rfl ?_ ?_ | refine s_condB rfl ?_ ?_
    · intro h2
      try rw [Decidable.not_not] at h2
      refine s_skip ?_
      refine q_seqN ?_
      refine s_keep [0, 1, 5] rfl ?_
      refine S_seq ?_
      refine S_block ?_
      refine S_seq ?_
      refine s_rg ?_
      refine s_op (o_mv rfl) ?_
      refine s_op (o_mv rfl) ?_
      refine s_iaM rfl rfl (by omega) ?_
      intro y3 e3
      try simp only [Int.toNat_natCast, Int.toNat_zero] at e3
      refine s_op (o_ldn rfl rfl) ?_
      refine s_op (o_mv rfl) ?_
      refine s_op (o_mv rfl) ?_
      refine s_iaM rfl rfl (by omega) ?_
      intro y4 e4
      try simp only [Int.toNat_natCast, Int.toNat_zero] at e4
      refine s_op (o_ldn rfl rfl) ?_
      first | refine s_call rfl rfl (c_133 _ _) ?_ | refine s_callL rfl rfl (by simp) (c_133 _ _) rfl ?_
      refine s_op (o_not rfl) ?_
      refine s_nilO ?_
      refine q_seqN ?_
      refine s_keep [0, 1, 5, 26] rfl ?_
      first | refine s_condD rfl ?_ ?_ | refine s_condN rfl ?_ ?_ | refine s_condNB rfl ?_ ?_ | refine s_condB rfl ?_ ?_
      · intro h5
        try rw [Decidable.not_not] at h5
        refine S_seq ?_
        refine s_rg ?_
        refine s_op (o_mv rfl) ?_
        refine s_nilO ?_
        refine q_seqN ?_
        refine s_keep [4] rfl ?_
        refine s_ret ?_
        refine q_blkR ?_
        refine q_seqR ?_
        refine q_loopR ?_
        refine q_blkR ?_
        refine q_seqR ?_
        refine ret_leaf (.inr rfl) rfl rfl ?_
        refine congrArg (fun b => V.w (.bool b)) ?_
        first | exact (decide_eq_false (ne_at (by assumption) (by assumption) (by assumption))).symm | exact (decide_eq_true (eq_end hi.2.1 (by omega) hi.2.2)).symm | exact (decide_eq_false (fun e => by subst e; simp_all)).symm
      · intro h5
        try rw [Decidable.not_not] at h5
        refine s_skip ?_
        refine q_blkN ?_
        refine q_seqN ?_
        refine s_keep [0, 1, 5] rfl ?_
        refine s_rg ?_
        refine s_op (o_mv rfl) ?_
        first | refine s_op (o_addn rfl rfl (by omega)) ?_ | refine s_op (o_add rfl rfl) ?_
        refine s_op (o_mv rfl) ?_
        refine s_nilO ?_
        refine q_loopN ?_
        refine ⟨i + 1, ⟨by omega, eq_take (by assumption) (by assumption) hi.2.1 ?_, hi.2.2⟩, by omega, hasOf ⟨rfl, trivial⟩ rfl⟩
        assumption
    · intro h2
      try rw [Decidable.not_not] at h2
      refine s_exit ?_
      refine q_seqX ?_
      refine q_loopX ?_
      refine q_blkH ?_
      refine q_seqN ?_
      refine s_keep [] rfl ?_
      refine S_seq ?_
      refine s_rg ?_
      refine s_op (o_mv rfl) ?_
      refine s_nilO ?_
      refine q_seqN ?_
      refine s_keep [4] rfl ?_
      refine s_ret ?_
      refine ret_leaf (.inr rfl) rfl rfl ?_
      refine congrArg (fun b => V.w (.bool b)) ?_
      first | exact (decide_eq_false (ne_at (by assumption) (by assumption) (by assumption))).symm | exact (decide_eq_true (eq_end hi.2.1 (by omega) hi.2.2)).symm | exact (decide_eq_false (fun e => by subst e; simp_all)).symm

theorem c_128 (x y : Conf) (hs : x.small) : CV prg 128 [.agg x.r, .agg y.r] (fun res => res = .w (.bool (decide (x = y)))) := by
  refine cv_in g128 ?_
  refine s_keep [0, 1] rfl ?_
  refine S_seq ?_
  refine s_rg ?_
  refine s_op (o_box rfl rfl rfl) ?_
  refine s_op (o_box rfl rfl rfl) ?_
  refine s_op (o_mv rfl) ?_
  refine s_nilO ?_
  refine q_seqN ?_
  refine s_keep [2, 3] rfl ?_
  refine S_seq ?_
  refine S_seq ?_
  refine s_rg ?_
  refine s_op (o_faC rfl) ?_
  refine s_op (o_ldC rfl rfl rfl) ?_
  refine s_op (o_faC rfl) ?_
  refine s_op (o_ldC rfl rfl rfl) ?_
  first | refine s_call rfl rfl (c_134 _ _ hs) ?_ | refine s_callL rfl rfl (by simp) (c_134 _ _ hs) rfl ?_
  refine s_op (o_not rfl) ?_
  refine s_nilO ?_
  refine q_seqN ?_
  refine s_keep [2, 3, 10] rfl ?_
  first | refine s_condD rfl ?_ ?_ | refine s_condN rfl ?_ ?_ | refine s_condNB rfl ?_ ?_ | refine s_condB rfl ?_ ?_
  · intro h1
    try rw [Decidable.not_not] at h1
    refine S_seq ?_
    refine s_rg ?_
    refine s_op (o_mv rfl) ?_
    refine s_nilO ?_
    refine q_seqN ?_
    refine s_keep [4] rfl ?_
    refine s_ret ?_
    refine q_seqR ?_
    refine ret_leaf (.inr rfl) rfl rfl ?_
    refine congrArg (fun b => V.w (.bool b)) ?_
    cases x; cases y; simp_all
  · intro h1
    try rw [Decidable.not_not] at h1
    refine s_skip ?_
    refine q_seqN ?_
    refine s_keep [2, 3] rfl ?_
    refine S_seq ?_
    refine S_seq ?_
    refine s_rg ?_
    refine s_op (o_faC rfl) ?_
    refine s_op (o_ldC rfl rfl rfl) ?_
    refine s_op (o_faC rfl) ?_
    refine s_op (o_ldC rfl rfl rfl) ?_
    first | refine s_op (o_neq rfl rfl) ?_ | refine s_op (o_bin rfl rfl rfl rfl) ?_
    refine s_nilO ?_
    refine q_seqN ?_
    refine s_keep [2, 3, 15] rfl ?_
    first | refine s_condD rfl ?_ ?_ | refine s_condN rfl ?_ ?_ | refine s_condNB rfl ?_ ?_ | refine s_condB rfl ?_ ?_
    · intro h2
      try rw [Decidable.not_not] at h2
      refine S_seq ?_
      refine s_rg ?_
      refine s_op (o_mv rfl) ?_
      refine s_nilO ?_
      refine q_seqN ?_
      refine s_keep [4] rfl ?_
      refine s_ret ?_
      refine q_seqR ?_
      refine ret_leaf (.inr rfl) rfl rfl ?_
      refine congrArg (fun b => V.w (.bool b)) ?_
      cases x; cases y; simp_all
    · intro h2
      try rw [Decidable.not_not] at h2
      refine s_skip ?_
      refine q_seqN ?_
      refine s_keep [2, 3] rfl ?_
      refine S_seq ?_
      refine S_seq ?_
      refine s_rg ?_
      refine s_op (o_faC rfl) ?_
      refine s_op (o_ldC rfl rfl rfl) ?_
      refine s_op (o_faC rfl) ?_
      refine s_op (o_ldC rfl rfl rfl) ?_
      first | refine s_op (o_neq rfl rfl) ?_ | refine s_op (o_bin rfl rfl rfl rfl) ?_
      refine s_nilO ?_
      refine q_seqN ?_
      refine s_keep [2, 3, 20] rfl ?_
      first | refine s_condD rfl ?_ ?_ | refine s_condN rfl ?_ ?_ | refine s_condNB rfl ?_ ?_ | refine s_condB rfl ?_ ?_
      · intro h3
        try rw [Decidable.not_not] at h3
        refine S_seq ?_
        refine s_rg ?_
        refine s_op (o_mv rfl) ?_
        refine s_nilO ?_
        refine q_seqN ?_
        refine s_keep [4] rfl ?_
        refine s_ret ?_
        refine q_seqR ?_
        refine ret_leaf (.inr rfl) rfl rfl ?_
        refine congrArg (fun b => V.w (.bool b)) ?_
        cases x; cases y; simp_all
      · intro h3
        try rw [Decidable.not_not] at h3
        refine s_skip ?_
        refine q_seqN ?_
        refine s_keep [2, 3] rfl ?_
        refine S_seq ?_
        refine S_seq ?_
        refine s_rg ?_
        refine s_op (o_faC rfl) ?_
        refine s_op (o_ldC rfl rfl rfl) ?_
        refine s_op (o_faC rfl) ?_
        refine s_op (o_ldC rfl rfl rfl) ?_
        first | refine s_op (o_neq rfl rfl) ?_ | refine s_op (o_bin rfl rfl rfl rfl) ?_
        refine s_nilO ?_
        refine q_seqN ?_
        refine s_keep [2, 3, 25] rfl ?_
        first | refine s_condD rfl ?_ ?_ | refine s_condN rfl ?_ ?_ | refine s_condNB rfl ?_ ?_ | refine s_condB rfl ?_ ?_
        · intro h4
          try rw [Decidable.not_not] at h4
          refine S_seq ?_
          refine s_rg ?_
          refine s_op (o_mv rfl) ?_
          refine s_nilO ?_
          refine q_seqN ?_
          refine s_keep [4] rfl ?_
          refine s_ret ?_
          refine q_seqR ?_
          refine ret_leaf (.inr rfl) rfl rfl ?_
          refine congrArg (fun b => V.w (.bool b)) ?_
          cases x; cases y; simp_all
        · intro h4
          try rw [Decidable.not_not] at h4
          refine s_skip ?_
          refine q_seqN ?_
          refine s_keep [2, 3] rfl ?_
          refine S_seq ?_
          refine S_seq ?_
          refine s_rg ?_
          refine s_op (o_faC rfl) ?_
          refine s_op (o_ldC rfl rfl rfl) ?_
          refine s_op (o_faC rfl) ?_
          refine s_op (o_ldC rfl rfl rfl) ?_
          first | refine s_op (o_neq rfl rfl) ?_ | refine s_op (o_bin rfl rfl rfl rfl) ?_
          refine s_nilO ?_
          refine q_seqN ?_
          refine s_keep [2, 3, 30] rfl ?_
          first | refine s_condD rfl ?_ ?_ | refine s_condN rfl ?_ ?_ | refine s_condNB rfl ?_ ?_ | refine s_condB rfl ?_ ?_
          · intro h5
            try rw [Decidable.not_not] at h5
            refine S_seq ?_
            refine s_rg ?_
            refine s_op (o_mv rfl) ?_
            refine s_nilO ?_
            refine q_seqN ?_
            refine s_keep [4] rfl ?_
            refine s_ret ?_
            refine q_seqR ?_
            refine ret_leaf (.inr rfl) rfl rfl ?_
            refine congrArg (fun b => V.w (.bool b)) ?_
            cases x; cases y; simp_all
          · intro h5
            try rw [Decidable.not_not] at h5
            refine s_skip ?_
            refine q_seqN ?_
            refine s_keep [2, 3] rfl ?_
            refine S_seq ?_
            refine S_seq ?_
            refine s_rg ?_
            refine s_op (o_faC rfl) ?_
            refine s_op (o_ldC rfl rfl rfl) ?_
            refine s_op (o_faC rfl) ?_
            refine s_op (o_ldC rfl rfl rfl) ?_
            first | refine s_op (o_neq rfl rfl) ?_ | refine s_op (o_bin rfl rfl rfl rfl) ?_
            refine s_nilO ?_
            refine q_seqN ?_
            refine s_keep [35] rfl ?_
            first | refine s_condD rfl ?_ ?_ | refine s_condN rfl ?_ ?_ | refine s_condNB rfl ?_ ?_ | refine s_condB rfl ?_ ?_
            · intro h6
              try rw [Decidable.not_not] at h6
              refine S_seq ?_
              refine s_rg ?_
              refine s_op (o_mv rfl) ?_
              refine s_nilO ?_
              refine q_seqN ?_
              refine s_keep [4] rfl ?_
              refine s_ret ?_
              refine q_seqR ?_
              refine ret_leaf (.inr rfl) rfl rfl ?_
              refine congrArg (fun b => V.w (.bool b)) ?_
              cases x; cases y; simp_all
            · intro h6
              try rw [Decidable.not_not] at h6
              refine s_skip ?_
              refine q_seqN ?_
              refine s_keep [] rfl ?_
              refine S_seq ?_
              refine s_rg ?_
              refine s_op (o_mv rfl) ?_
              refine s_nilO ?_
              refine q_seqN ?_
              refine s_keep [4] rfl ?_
              refine s_ret ?_
              refine ret_leaf (.inr rfl) rfl rfl ?_
              refine congrArg (fun b => V.w (.bool b)) ?_
              cases x; cases y; simp_all

theorem c_164 (x : MConf) : CV prg 164 [.agg x.r] (fun res => res = .agg x.r) := by
  refine cv_in g164 ?_
  refine s_keep [0] rfl ?_
  refine S_seq ?_
  refine s_rg ?_
  refine s_op (o_box rfl rfl rfl) ?_
  refine s_op (o_new rfl rfl) ?_
  refine s_nilO ?_
  refine q_seqN ?_
  refine s_keep [1, 2] rfl ?_
  refine S_seq ?_
  refine s_rg ?_
  refine s_op (o_new rfl rfl) ?_
  refine s_nilO ?_
  refine q_seqN ?_
  refine s_keep [1, 2, 3] rfl ?_
  refine S_seq ?_
  refine s_rg ?_
  refine s_op (o_faC rfl) ?_
  refine s_op (o_ldC rfl rfl rfl) ?_
  refine s_op (o_faC rfl) ?_
  refine s_opN (o_stC rfl rfl rfl rfl rfl rfl) ?_
  refine s_nilO ?_
  refine q_seqN ?_
  refine s_keep [1, 2, 3] rfl ?_
  refine S_seq ?_
  refine s_rg ?_
  refine s_op (o_faC rfl) ?_
  refine s_op (o_ldC rfl rfl rfl) ?_
  refine s_op (o_faC rfl) ?_
  refine s_opN (o_stC rfl rfl rfl rfl rfl rfl) ?_
  refine s_nilO ?_
  refine q_seqN ?_
  refine s_keep [1, 2, 3] rfl ?_
  refine S_seq ?_
  refine s_rg ?_
  refine s_op (o_faC rfl) ?_
  refine s_op (o_ldC rfl rfl rfl) ?_
  refine s_op (o_faC rfl) ?_
  refine s_opN (o_stC rfl rfl rfl rfl rfl rfl) ?_
  refine s_nilO ?_
  refine q_seqN ?_
  refine s_keep [1, 2, 3] rfl ?_
  refine S_seq ?_
  refine s_rg ?_
  refine s_op (o_faC rfl) ?_
  refine s_op (o_ldC rfl rfl rfl) ?_
  refine s_op (o_faC rfl) ?_
  refine s_opN (o_stC rfl rfl rfl rfl rfl rfl) ?_
  refine s_nilO ?_
  refine q_seqN ?_
  refine s_keep [2, 3] rfl ?_
  refine S_seq ?_
  refine s_rg ?_
  refine s_op (o_ldnC rfl rfl rfl) ?_
  refine s_opN (o_stnC rfl rfl rfl rfl rfl rfl rfl) ?_
  refine s_nilO ?_
  refine q_seqN ?_
  refine s_keep [2] rfl ?_
  refine s_ret ?_
  refine ret_leaf (.inr rfl) rfl rfl ?_
  rfl

theorem c_165 (xs : List MConf) (hl : xs.length ≤ 1048576) : CV prg 165 [.sl 4 (xs.map MConf.r)] (fun res => res = .sl 4 (xs.map MConf.r)) := by
  refine cv_in g165 ?_
  refine s_keep [0] rfl ?_
  refine S_seq ?_
  refine s_rg ?_
  refine s_op (o_mv rfl) ?_
  refine s_nilO ?_
  refine q_seqN ?_
  refine s_keep [0] rfl ?_
  refine S_seq ?_
  refine s_rg ?_
  refine s_op (o_mv rfl) ?_
  first | refine s_op (o_lenM rfl) ?_ | refine s_op (o_len rfl) ?_
  refine s_op (o_mk rfl rfl rfl rfl ⟨by omega, by unfold roomy; omega, by unfold roomy; omega⟩ rfl) ?_
  refine s_op (o_mv rfl) ?_
  refine s_nilO ?_
  refine q_seqN ?_
  refine s_keep [0, 3] rfl ?_
  refine S_seq ?_
  refine S_seq ?_
  refine s_rg ?_
  refine s_op (o_mv rfl) ?_
  refine s_nilO ?_
  refine q_seqN ?_
  refine s_keep [0, 3, 4] rfl ?_
  refine S_block ?_
  refine S_loop (ι := Nat) (fun i => i ≤ xs.length) (fun i => [(4, .w (.int .i64 (i : Int)))]) (fun i => [.arr 4 (tabV MConf.r [.w (.int .i64 0), .w (.bool false), .w (.int .i64 0), .w (.int .i64 0)] xs i)]) (fun i => xs.length - i) 1 0 (by simp) rfl (hasOf ⟨rfl, trivial⟩ (by rw [tabV_zero]; rfl)) rfl (fun _ _ => rfl) (fun _ _ => ⟨rfl, rfl⟩) ?_
  intro i hi
  refine s_keep [0, 3, 4] rfl ?_
  refine S_seq ?_
  refine S_seq ?_
  refine s_rg ?_
  refine s_op (o_mv rfl) ?_
  refine s_op (o_mv rfl) ?_
  first | refine s_op (o_lenM rfl) ?_ | refine s_op (o_len rfl) ?_
  first | refine s_op (o_lss rfl rfl) ?_ | refine s_op (o_bin rfl rfl rfl rfl) ?_
  refine s_nilO ?_
  refine q_seqN ?_
  refine s_keep [0, 3, 4, 11] rfl ?_
  first | refine s_condD rfl ?_ ?_ | refine s_condN rfl ?_ ?_ | refine s_condNB rfl ?_ ?_ | refine s_condB rfl ?_ ?_
  · intro h1
    try rw [Decidable.not_not] at h1
    refine s_skip ?_
    refine q_seqN ?_
    refine s_keep [0, 3, 4] rfl ?_
    refine S_seq ?_
    refine S_block ?_
    refine s_rg ?_
    refine s_op (o_mv rfl) ?_
    refine s_op (o_mv rfl) ?_
    refine s_op (o_mv rfl) ?_
    refine s_op (o_mv rfl) ?_
    refine s_iaM rfl rfl (by first | omega | (rw [List.length_replicate]; omega)) ?_
    intro y2 e2
    try simp only [Int.toNat_natCast, Int.toNat_zero] at e2
    refine s_op (o_ldn rfl rfl) ?_
    first | refine s_call rfl rfl (c_164 _) ?_ | refine s_callL rfl rfl (by simp) (c_164 _) rfl ?_
    refine s_op (o_iaL rfl rfl (by rw [tabV_len _ _ _ _ (by omega), List.length_replicate]; rfl) rfl (by first | omega | (rw [List.length_replicate]; omega))) ?_
    refine s_opN (o_stnA rfl rfl rfl rfl rfl (by rw [tabV_len _ _ _ _ (by omega), List.length_replicate]; rfl) (by rw [Int.toNat_natCast]; exact tabV_at _ _ (by omega)) rfl rfl) ?_
    refine s_nilO ?_
    refine q_blkN ?_
    refine q_seqN ?_
    refine s_keep [0, 3, 4] rfl ?_
    refine s_rg ?_
    refine s_op (o_mv rfl) ?_
    first | refine s_op (o_addn rfl rfl (by omega)) ?_ | refine s_op (o_add rfl rfl) ?_
    refine s_op (o_mv rfl) ?_
    refine s_nilO ?_
    refine q_loopN ?_
    refine ⟨i + 1, by omega, by omega, hasOf ⟨rfl, trivial⟩ ?_⟩
    rw [← tabV_set MConf.r [.w (.int .i64 0), .w (.bool false), .w (.int .i64 0), .w (.int .i64 0)] (by assumption)]; rfl
  · intro h1
    try rw [Decidable.not_not] at h1
    refine s_exit ?_
    refine q_seqX ?_
    refine q_loopX ?_
    refine q_blkH ?_
    refine q_seqN ?_
    refine s_keep [3] rfl ?_
    refine S_seq ?_
    refine s_rg ?_
    refine s_op (o_mv rfl) ?_
    refine s_op (o_mv rfl) ?_
    refine s_nilO ?_
    refine q_seqN ?_
    refine s_keep [2] rfl ?_
    refine s_ret ?_
    refine ret_leafA (.inr rfl) rfl rfl (by rw [tabV_len _ _ _ _ (by omega), List.length_replicate]; rfl) ?_
    rw [tabV_end _ _ _ (by omega)]

theorem c_159 (x : Conf) (hs : x.small) : CV prg 159 [.agg x.r] (fun res => res = .agg x.r) := by
  refine cv_in g159 ?_
  refine s_keep [0] rfl ?_
  refine S_seq ?_
  refine s_rg ?_
  refine s_op (o_box rfl rfl rfl) ?_
  refine s_op (o_new rfl rfl) ?_
  refine s_nilO ?_
  refine q_seqN ?_
  refine s_keep [1, 2] rfl ?_
  refine S_seq ?_
  refine s_rg ?_
  refine s_op (o_new rfl rfl) ?_
  refine s_nilO ?_
  refine q_seqN ?_
  refine s_keep [1, 2, 3] rfl ?_
  refine S_seq ?_
  refine s_rg ?_
  refine s_op (o_faC rfl) ?_
  refine s_op (o_ldC rfl rfl rfl) ?_
  first | refine s_call rfl rfl (c_165 _ hs) ?_ | refine s_callL rfl rfl (by simp) (c_165 _ hs) rfl ?_
  refine s_op (o_faC rfl) ?_
  refine s_opN (o_stC rfl rfl rfl rfl rfl rfl) ?_
  refine s_nilO ?_
  refine q_seqN ?_
  refine s_keep [1, 2, 3] rfl ?_
  refine S_seq ?_
  refine s_rg ?_
  refine s_op (o_faC rfl) ?_
  refine s_op (o_ldC rfl rfl rfl) ?_
  refine s_op (o_faC rfl) ?_
  refine s_opN (o_stC rfl rfl rfl rfl rfl rfl) ?_
  refine s_nilO ?_
  refine q_seqN ?_
  refine s_keep [1, 2, 3] rfl ?_
  refine S_seq ?_
  refine s_rg ?_
  refine s_op (o_faC rfl) ?_
  refine s_op (o_ldC rfl rfl rfl) ?_
  refine s_op (o_faC rfl) ?_
  refine s_opN (o_stC rfl rfl rfl rfl rfl rfl) ?_
  refine s_nilO ?_
  refine q_seqN ?_
  refine s_keep [1, 2, 3] rfl ?_
  refine S_seq ?_
  refine s_rg ?_
  refine s_op (o_faC rfl) ?_
  refine s_op (o_ldC rfl rfl rfl) ?_
  refine s_op (o_faC rfl) ?_
  refine s_opN (o_stC rfl rfl rfl rfl rfl rfl) ?_
  refine s_nilO ?_
  refine q_seqN ?_
  refine s_keep [1, 2, 3] rfl ?_
  refine S_seq ?_
  refine s_rg ?_
  refine s_op (o_faC rfl) ?_
  refine s_op (o_ldC rfl rfl rfl) ?_
  refine s_op (o_faC rfl) ?_
  refine s_opN (o_stC rfl rfl rfl rfl rfl rfl) ?_
  refine s_nilO ?_
  refine q_seqN ?_
  refine s_keep [1, 2, 3] rfl ?_
  refine S_seq ?_
  refine s_rg ?_
  refine s_op (o_faC rfl) ?_
  refine s_op (o_ldC rfl rfl rfl) ?_
  refine s_op (o_faC rfl) ?_
  refine s_opN (o_stC rfl rfl rfl rfl rfl rfl) ?_
  refine s_nilO ?_
  refine q_seqN ?_
  refine s_keep [2, 3] rfl ?_
  refine S_seq ?_
  refine s_rg ?_
  refine s_op (o_ldnC rfl rfl rfl) ?_
  refine s_opN (o_stnC rfl rfl rfl rfl rfl rfl rfl) ?_
  refine s_nilO ?_
  refine q_seqN ?_
  refine s_keep [2] rfl ?_
  refine s_ret ?_
  refine ret_leaf (.inr rfl) rfl rfl ?_
  rfl

theorem c_149 (xs : List MConf) (left : Int) (h : -1 ≤ left ∧ left ≤ 1048576) (hl : xs.length ≤ 140737488355328) : CV prg 149 [.sl 4 (xs.map MConf.r), .w (.int .i64 left)] (fun res => res = .w (.int .i64 (room left xs.length))) := by
  refine cv_in g149 ?_
  refine s_keep [0, 1] rfl ?_
  refine S_seq ?_
  refine s_rg ?_
  refine s_op (o_mv rfl) ?_
  refine s_nilO ?_
  refine q_seqN ?_
  refine s_keep [0, 1] rfl ?_
  refine S_seq ?_
  refine s_rg ?_
  refine s_op (o_mv rfl) ?_
  refine s_op (o_mv rfl) ?_
  first | refine s_op (o_lenM rfl) ?_ | refine s_op (o_len rfl) ?_
  first | refine s_op (o_subn rfl rfl (by omega)) ?_ | refine s_op (o_sub rfl rfl) ?_
  refine s_op (o_mv rfl) ?_
  refine s_nilO ?_
  refine q_seqN ?_
  refine s_keep [1] rfl ?_
  refine S_seq ?_
  refine S_seq ?_
  refine s_rg ?_
  refine s_op (o_mv rfl) ?_
  first | refine s_op (o_lss rfl rfl) ?_ | refine s_op (o_bin rfl rfl rfl rfl) ?_
  refine s_nilO ?_
  refine q_seqN ?_
  refine s_keep [1, 10] rfl ?_
  first | refine s_condD rfl ?_ ?_ | refine s_condN rfl ?_ ?_ | refine s_condNB rfl ?_ ?_ | refine s_condB rfl ?_ ?_
  · intro h1
    try rw [Decidable.not_not] at h1
    refine S_seq ?_
    refine s_rg ?_
    refine s_op (o_mv rfl) ?_
    refine s_nilO ?_
    refine q_seqN ?_
    refine s_keep [4] rfl ?_
    refine s_ret ?_
    refine q_seqR ?_
    refine ret_leaf (.inr rfl) rfl rfl ?_
    refine congrArg (fun b => V.w (.int .i64 b)) ?_
    (try unfold room); omega
  · intro h1
    try rw [Decidable.not_not] at h1
    refine s_skip ?_
    refine q_seqN ?_
    refine s_keep [1] rfl ?_
    refine S_seq ?_
    refine s_rg ?_
    refine s_op (o_mv rfl) ?_
    refine s_op (o_mv rfl) ?_
    refine s_nilO ?_
    refine q_seqN ?_
    refine s_keep [4] rfl ?_
    refine s_ret ?_
    refine ret_leaf (.inr rfl) rfl rfl ?_
    refine congrArg (fun b => V.w (.int .i64 b)) ?_
    (try unfold room); omega

theorem c_145 (x : Conf) (left : Int) (h : -1 ≤ left ∧ left ≤ 1048576) (hw : x.wf) : CV prg 145 [.agg x.r, .w (.int .i64 left)] (fun res => res = .w (.int .i64 (room left x.sz))) := by
  refine cv_in g145 ?_
  refine s_keep [0, 1] rfl ?_
  refine S_seq ?_
  refine s_rg ?_
  refine s_op (o_box rfl rfl rfl) ?_
  refine s_op (o_mv rfl) ?_
  refine s_nilO ?_
  refine q_seqN ?_
  refine s_keep [1, 2] rfl ?_
  refine S_seq ?_
  refine s_rg ?_
  refine s_op (o_faC rfl) ?_
  refine s_op (o_ldC rfl rfl rfl) ?_
  refine s_op (o_mv rfl) ?_
  first | refine s_call rfl rfl (c_149 _ _ (by (try unfold room at *); omega) hw.1.1) ?_ | refine s_callL rfl rfl (by simp) (c_149 _ _ (by (try unfold room at *); omega) hw.1.1) rfl ?_
  refine s_op (o_mv rfl) ?_
  refine s_nilO ?_
  refine q_seqN ?_
  refine s_keep [1] rfl ?_
  refine S_seq ?_
  refine S_seq ?_
  refine s_rg ?_
  refine s_op (o_mv rfl) ?_
  first | refine s_op (o_lss rfl rfl) ?_ | refine s_op (o_bin rfl rfl rfl rfl) ?_
  refine s_nilO ?_
  refine q_seqN ?_
  refine s_keep [1, 10] rfl ?_
  first | refine s_condD rfl ?_ ?_ | refine s_condN rfl ?_ ?_ | refine s_condNB rfl ?_ ?_ | refine s_condB rfl ?_ ?_
  · intro h1
    try rw [Decidable.not_not] at h1
    refine S_seq ?_
    refine s_rg ?_
    refine s_op (o_mv rfl) ?_
    refine s_nilO ?_
    refine q_seqN ?_
    refine s_keep [4] rfl ?_
    refine s_ret ?_
    refine q_seqR ?_
    refine ret_leaf (.inr rfl) rfl rfl ?_
    refine congrArg (fun b => V.w (.int .i64 b)) ?_
    unfold Conf.sz; (try unfold room at *); omega
  · intro h1
    try rw [Decidable.not_not] at h1
    refine s_skip ?_
    refine q_seqN ?_
    refine s_keep [1] rfl ?_
    refine S_seq ?_
    refine s_rg ?_
    refine s_op (o_mv rfl) ?_
    refine s_op (o_mv rfl) ?_
    refine s_nilO ?_
    refine q_seqN ?_
    refine s_keep [4] rfl ?_
    refine s_ret ?_
    refine ret_leaf (.inr rfl) rfl rfl ?_
    refine congrArg (fun b => V.w (.int .i64 b)) ?_
    unfold Conf.sz; (try unfold room at *); omega

theorem c_91 (x : Conf) (who : Int) (hl : x.masters.length ≤ 1048576) : CV prg 91 [.agg x.r, .w (.int .i64 who)] (fun res => res = .w (.bool (inB who 0 (x.masters.length - 1)))) := by
  refine cv_in g91 ?_
  refine s_keep [0, 1] rfl ?_
  refine S_seq ?_
  refine s_rg ?_
  refine s_op (o_box rfl rfl rfl) ?_
  refine s_op (o_mv rfl) ?_
  refine s_nilO ?_
  refine q_seqN ?_
  refine s_keep [1, 2] rfl ?_
  refine S_seq ?_
  refine s_rg ?_
  refine s_op (o_mv rfl) ?_
  refine s_op (o_faC rfl) ?_
  refine s_op (o_ldC rfl rfl rfl) ?_
  first | refine s_op (o_lenM rfl) ?_ | refine s_op (o_len rfl) ?_ | refine s_op (o_lenL rfl rfl rfl) ?_ | refine s_op (o_lenN rfl) ?_
  first | refine s_op (o_subn rfl rfl (by omega)) ?_ | refine s_op (o_sub rfl rfl) ?_
  refine s_call rfl rfl (c_103 ..) ?_
  refine s_op (o_mv rfl) ?_
  refine s_nilO ?_
  refine q_seqN ?_
  refine s_keep [4] rfl ?_
  refine s_ret ?_
  refine ret_leaf (.inr rfl) rfl rfl ?_
  refine congrArg (fun b => V.w (.bool b)) ?_
  rfl

def Done.beq (x y : Done) : Bool := ((x.cycle == y.cycle) && ((x.who == y.who) && ((x.write == y.write) && ((x.addr == y.addr) && ((x.size == y.size) && ((x.value == y.value) && ((x.resp == y.resp) && true)))))))

theorem Done.of_beq {x y : Done} (h : Done.beq x y = true) : x = y := by
  cases x; cases y; simp_all [Done.beq]

theorem Done.no_beq {x y : Done} (h : Done.beq x y = false) : x ≠ y := by
  rintro rfl; simp [Done.beq] at h

theorem Done.beq_dec (x y : Done) : Done.beq x y = decide (x = y) := by
  cases h : Done.beq x y
  · exact (decide_eq_false (Done.no_beq h)).symm
  · exact (decide_eq_true (Done.of_beq h)).symm

def folOk (p : Done × Done) : Bool := (p.1.write == p.2.write) && decide (p.1.addr = p.2.addr) && decide (p.1.size = p.2.size) && !(p.1.write && decide (p.1.resp = 0) && decide (p.1.value ≠ p.2.value))
def follows (l w : List Done) : Bool := decide (l.length ≤ w.length) && (l.zip w).all folOk

def Req.small (x : Req) : Prop := x.data.length ≤ 1048576

def Req.sz (x : Req) : Nat := x.data.length

theorem Req.small_of {x : Req} (h : x.sz ≤ 1048576) : x.small := by unfold Req.small; unfold Req.sz at h; omega

def Mst.small (x : Mst) : Prop := x.queue.length ≤ 1048576 ∧ (∀ y, y ∈ x.queue → Req.small y)

def Mst.sz (x : Mst) : Nat := x.queue.length + sumL Req.sz x.queue

theorem Mst.small_of {x : Mst} (h : x.sz ≤ 1048576) : x.small := ⟨by unfold Mst.sz at h; omega, fun y hy => Req.small_of (by have := sumL_mem Req.sz hy; unfold Mst.sz at h; omega)⟩

theorem c_132 (xs ys : List Int) (hl : xs.length ≤ 1048576) : CV prg 132 [.sl 1 (xs.map iR), .sl 1 (ys.map iR)] (fun res => res = .w (.bool (decide (xs = ys)))) := by
  refine cv_in g132 ?_
  refine s_keep [0, 1] rfl ?_
  refine S_seq ?_
  refine s_rg ?_
  refine s_op (o_mv rfl) ?_
  refine s_nilO ?_
  refine q_seqN ?_
  refine s_keep [0, 1] rfl ?_
  refine S_seq ?_
  refine S_seq ?_
  refine s_rg ?_
  refine s_op (o_mv rfl) ?_
  first | refine s_op (o_lenM rfl) ?_ | refine s_op (o_len rfl) ?_
  refine s_op (o_mv rfl) ?_
  first | refine s_op (o_lenM rfl) ?_ | refine s_op (o_len rfl) ?_
  first | refine s_op (o_neq rfl rfl) ?_ | refine s_op (o_bin rfl rfl rfl rfl) ?_
  refine s_nilO ?_
  refine q_seqN ?_
  refine s_keep [0, 1, 10] rfl ?_
  first | refine s_condD rfl ?_ ?_ | refine s_condN rfl ?_ ?_ | refine s_condNB rfl ?_ ?_ | refine s_condB rfl ?_ ?_
  · intro h1
    try rw [Decidable.not_not] at h1
    refine S_seq ?_
    refine s_rg ?_
    refine s_op (o_mv rfl) ?_
    refine s_nilO ?_
    refine q_seqN ?_
    refine s_keep [4] rfl ?_
    refine s_ret ?_
    refine q_seqR ?_
    refine ret_leaf (.inr rfl) rfl rfl ?_
    refine congrArg (fun b => V.w (.bool b)) ?_
    first | exact (decide_eq_false (ne_at (by assumption) (by assumption) (by assumption))).symm | exact (decide_eq_true (eq_end hi.2.1 (by omega) hi.2.2)).symm | exact (decide_eq_false (fun e => by subst e; simp_all)).symm
  · intro h1
    try rw [Decidable.not_not] at h1
    refine s_skip ?_
    refine q_seqN ?_
    refine s_keep [0, 1] rfl ?_
    refine S_seq ?_
    refine S_seq ?_
    refine s_rg ?_
    refine s_op (o_mv rfl) ?_
    refine s_nilO ?_
    refine q_seqN ?_
    refine s_keep [0, 1, 5] rfl ?_
    refine S_block ?_
    refine S_loop0 (ι := Nat) (fun i => i ≤ xs.length ∧ xs.take i = ys.take i ∧ xs.length = ys.length) (fun i => [(5, .w (.int .i64 (i : Int)))]) (fun i => xs.length - i) 0 ⟨by simp, by simp, by omega⟩ rfl ⟨rfl, trivial⟩ (fun _ _ => rfl) rfl ?_
    intro i hi
    refine s_keep [0, 1, 5] rfl ?_
    refine S_seq ?_
    refine S_seq ?_
    refine s_rg ?_
    refine s_op (o_mv rfl) ?_
    refine s_op (o_mv rfl) ?_
    first | refine s_op (o_lenM rfl) ?_ | refine s_op (o_len rfl) ?_
    first | refine s_op (o_lss rfl rfl) ?_ | refine s_op (o_bin rfl rfl rfl rfl) ?_
    refine s_nilO ?_
    refine q_seqN ?_
    refine s_keep [0, 1, 5, 14] rfl ?_
    first | refine s_condD rfl ?_ ?_ | refine s_condN rfl ?_ ?_ | refine s_condNB rfl ?_ ?_ | refine s_condB rfl ?_ ?_
    · intro h2
      try rw [Decidable.not_not] at h2
      refine s_skip ?_
      refine q_seqN ?_
      refine s_keep [0, 1, 5] rfl ?_
      refine S_seq ?_
      refine S_block ?_
      refine S_seq ?_
      refine s_rg ?_
      refine s_op (o_mv rfl) ?_
      refine s_op (o_mv rfl) ?_
      refine s_iaM rfl rfl (by omega) ?_
      intro y3 e3
      try simp only [Int.toNat_natCast, Int.toNat_zero] at e3
      refine s_op (o_ld rfl rfl) ?_
      refine s_op (o_mv rfl) ?_
      refine s_op (o_mv rfl) ?_
      refine s_iaM rfl rfl (by omega) ?_
      intro y4 e4
      try simp only [Int.toNat_natCast, Int.toNat_zero] at e4
      refine s_op (o_ld rfl rfl) ?_
      first | refine s_op (o_neq rfl rfl) ?_ | refine s_op (o_bin rfl rfl rfl rfl) ?_
      refine s_nilO ?_
      refine q_seqN ?_
      refine s_keep [0, 1, 5, 25] rfl ?_
      first | refine s_condD rfl ?_ ?_ | refine s_condN rfl ?_ ?_ | refine s_condNB rfl ?_ ?_ | refine s_condB rfl ?_ ?_
      · intro h5
        try rw [Decidable.not_not] at h5
        refine S_seq ?_
        refine s_rg ?_
        refine s_op (o_mv rfl) ?_
        refine s_nilO ?_
        refine q_seqN ?_
        refine s_keep [4] rfl ?_
        refine s_ret ?_
        refine q_blkR ?_
        refine q_seqR ?_
        refine q_loopR ?_
        refine q_blkR ?_
        refine q_seqR ?_
        refine ret_leaf (.inr rfl) rfl rfl ?_
        refine congrArg (fun b => V.w (.bool b)) ?_
        first | exact (decide_eq_false (ne_at (by assumption) (by assumption) (by assumption))).symm | exact (decide_eq_true (eq_end hi.2.1 (by omega) hi.2.2)).symm | exact (decide_eq_false (fun e => by subst e; simp_all)).symm
      · intro h5
        try rw [Decidable.not_not] at h5
        refine s_skip ?_
        refine q_blkN ?_
        refine q_seqN ?_
        refine s_keep [0, 1, 5] rfl ?_
        refine s_rg ?_
        refine s_op (o_mv rfl) ?_
        first | refine s_op (o_addn rfl rfl (by omega)) ?_ | refine s_op (o_add rfl rfl) ?_
        refine s_op (o_mv rfl) ?_
        refine s_nilO ?_
        refine q_loopN ?_
        refine ⟨i + 1, ⟨by omega, eq_take (by assumption) (by assumption) hi.2.1 ?_, hi.2.2⟩, by omega, hasOf ⟨rfl, trivial⟩ rfl⟩
        assumption
    · intro h2
      try rw [Decidable.not_not] at h2
      refine s_exit ?_
      refine q_seqX ?_
      refine q_loopX ?_
      refine q_blkH ?_
      refine q_seqN ?_
      refine s_keep [] rfl ?_
      refine S_seq ?_
      refine s_rg ?_
      refine s_op (o_mv rfl) ?_
      refine s_nilO ?_
      refine q_seqN ?_
      refine s_keep [4] rfl ?_
      refine s_ret ?_
      refine ret_leaf (.inr rfl) rfl rfl ?_
      refine congrArg (fun b => V.w (.bool b)) ?_
      first | exact (decide_eq_false (ne_at (by assumption) (by assumption) (by assumption))).symm | exact (decide_eq_true (eq_end hi.2.1 (by omega) hi.2.2)).symm | exact (decide_eq_false (fun e => by subst e; simp_all)).symm

theorem c_138 (x y : Req) (hs : x.small) : CV prg 138 [.agg x.r, .agg y.r] (fun res => res = .w (.bool (decide (x = y)))) := by
  refine cv_in g138 ?_
  refine s_keep [0, 1] rfl ?_
  refine S_seq ?_
  refine s_rg ?_
  refine s_op (o_box rfl rfl rfl) ?_
  refine s_op (o_box rfl rfl rfl) ?_
  refine s_op (o_mv rfl) ?_
  refine s_nilO ?_
  refine q_seqN ?_
  refine s_keep [2, 3] rfl ?_
  refine S_seq ?_
  refine S_seq ?_
  refine s_rg ?_
  refine s_op (o_faC rfl) ?_
  refine s_op (o_ldC rfl rfl rfl) ?_
  refine s_op (o_faC rfl) ?_
  refine s_op (o_ldC rfl rfl rfl) ?_
  refine s_op (o_eqb rfl rfl) ?_
  refine s_nilO ?_
  refine q_seqN ?_
  refine s_keep [2, 3, 9] rfl ?_
  first | refine s_condD rfl ?_ ?_ | refine s_condN rfl ?_ ?_ | refine s_condNB rfl ?_ ?_ | refine s_condB rfl ?_ ?_
  · intro h1
    try rw [Decidable.not_not] at h1
    refine S_seq ?_
    refine s_rg ?_
    refine s_op (o_mv rfl) ?_
    refine s_nilO ?_
    refine q_seqN ?_
    refine s_keep [4] rfl ?_
    refine s_ret ?_
    refine q_seqR ?_
    refine ret_leaf (.inr rfl) rfl rfl ?_
    refine congrArg (fun b => V.w (.bool b)) ?_
    cases x; cases y; simp_all
  · intro h1
    try rw [Decidable.not_not] at h1
    refine s_skip ?_
    refine q_seqN ?_
    refine s_keep [2, 3] rfl ?_
    refine S_seq ?_
    refine S_seq ?_
    refine s_rg ?_
    refine s_op (o_faC rfl) ?_
    refine s_op (o_ldC rfl rfl rfl) ?_
    refine s_op (o_faC rfl) ?_
    refine s_op (o_ldC rfl rfl rfl) ?_
    first | refine s_op (o_neq rfl rfl) ?_ | refine s_op (o_bin rfl rfl rfl rfl) ?_
    refine s_nilO ?_
    refine q_seqN ?_
    refine s_keep [2, 3, 14] rfl ?_
    first | refine s_condD rfl ?_ ?_ | refine s_condN rfl ?_ ?_ | refine s_condNB rfl ?_ ?_ | refine s_condB rfl ?_ ?_
    · intro h2
      try rw [Decidable.not_not] at h2
      refine S_seq ?_
      refine s_rg ?_
      refine s_op (o_mv rfl) ?_
      refine s_nilO ?_
      refine q_seqN ?_
      refine s_keep [4] rfl ?_
      refine s_ret ?_
      refine q_seqR ?_
      refine ret_leaf (.inr rfl) rfl rfl ?_
      refine congrArg (fun b => V.w (.bool b)) ?_
      cases x; cases y; simp_all
    · intro h2
      try rw [Decidable.not_not] at h2
      refine s_skip ?_
      refine q_seqN ?_
      refine s_keep [2, 3] rfl ?_
      refine S_seq ?_
      refine S_seq ?_
      refine s_rg ?_
      refine s_op (o_faC rfl) ?_
      refine s_op (o_ldC rfl rfl rfl) ?_
      refine s_op (o_faC rfl) ?_
      refine s_op (o_ldC rfl rfl rfl) ?_
      first | refine s_op (o_neq rfl rfl) ?_ | refine s_op (o_bin rfl rfl rfl rfl) ?_
      refine s_nilO ?_
      refine q_seqN ?_
      refine s_keep [2, 3, 19] rfl ?_
      first | refine s_condD rfl ?_ ?_ | refine s_condN rfl ?_ ?_ | refine s_condNB rfl ?_ ?_ | refine s_condB rfl ?_ ?_
      · intro h3
        try rw [Decidable.not_not] at h3
        refine S_seq ?_
        refine s_rg ?_
        refine s_op (o_mv rfl) ?_
        refine s_nilO ?_
        refine q_seqN ?_
        refine s_keep [4] rfl ?_
        refine s_ret ?_
        refine q_seqR ?_
        refine ret_leaf (.inr rfl) rfl rfl ?_
        refine congrArg (fun b => V.w (.bool b)) ?_
        cases x; cases y; simp_all
      · intro h3
        try rw [Decidable.not_not] at h3
        refine s_skip ?_
        refine q_seqN ?_
        refine s_keep [2, 3] rfl ?_
        refine S_seq ?_
        refine S_seq ?_
        refine s_rg ?_
        refine s_op (o_faC rfl) ?_
        refine s_op (o_ldC rfl rfl rfl) ?_
        refine s_op (o_faC rfl) ?_
        refine s_op (o_ldC rfl rfl rfl) ?_
        first | refine s_op (o_neq rfl rfl) ?_ | refine s_op (o_bin rfl rfl rfl rfl) ?_
        refine s_nilO ?_
        refine q_seqN ?_
        refine s_keep [2, 3, 24] rfl ?_
        first | refine s_condD rfl ?_ ?_ | refine s_condN rfl ?_ ?_ | refine s_condNB rfl ?_ ?_ | refine s_condB rfl ?_ ?_
        · intro h4
          try rw [Decidable.not_not] at h4
          refine S_seq ?_
          refine s_rg ?_
          refine s_op (o_mv rfl) ?_
          refine s_nilO ?_
          refine q_seqN ?_
          refine s_keep [4] rfl ?_
          refine s_ret ?_
          refine q_seqR ?_
          refine ret_leaf (.inr rfl) rfl rfl ?_
          refine congrArg (fun b => V.w (.bool b)) ?_
          cases x; cases y; simp_all
        · intro h4
          try rw [Decidable.not_not] at h4
          refine s_skip ?_
          refine q_seqN ?_
          refine s_keep [2, 3] rfl ?_
          refine S_seq ?_
          refine S_seq ?_
          refine s_rg ?_
          refine s_op (o_faC rfl) ?_
          refine s_op (o_ldC rfl rfl rfl) ?_
          refine s_op (o_faC rfl) ?_
          refine s_op (o_ldC rfl rfl rfl) ?_
          refine s_op (o_eqb rfl rfl) ?_
          refine s_nilO ?_
          refine q_seqN ?_
          refine s_keep [2, 3, 29] rfl ?_
          first | refine s_condD rfl ?_ ?_ | refine s_condN rfl ?_ ?_ | refine s_condNB rfl ?_ ?_ | refine s_condB rfl ?_ ?_
          · intro h5
            try rw [Decidable.not_not] at h5
            refine S_seq ?_
            refine s_rg ?_
            refine s_op (o_mv rfl) ?_
            refine s_nilO ?_
            refine q_seqN ?_
            refine s_keep [4] rfl ?_
            refine s_ret ?_
            refine q_seqR ?_
            refine ret_leaf (.inr rfl) rfl rfl ?_
            refine congrArg (fun b => V.w (.bool b)) ?_
            cases x; cases y; simp_all
          · intro h5
            try rw [Decidable.not_not] at h5
            refine s_skip ?_
            refine q_seqN ?_
            refine s_keep [2, 3] rfl ?_
            refine S_seq ?_
            refine S_seq ?_
            refine s_rg ?_
            refine s_op (o_faC rfl) ?_
            refine s_op (o_ldC rfl rfl rfl) ?_
            refine s_op (o_faC rfl) ?_
            refine s_op (o_ldC rfl rfl rfl) ?_
            first | refine s_call rfl rfl (c_132 _ _ hs) ?_ | refine s_callL rfl rfl (by simp) (c_132 _ _ hs) rfl ?_
            refine s_op (o_not rfl) ?_
            refine s_nilO ?_
            refine q_seqN ?_
            refine s_keep [35] rfl ?_
            first | refine s_condD rfl ?_ ?_ | refine s_condN rfl ?_ ?_ | refine s_condNB rfl ?_ ?_ | refine s_condB rfl ?_ ?_
            · intro h6
              try rw [Decidable.not_not] at h6
              refine S_seq ?_
              refine s_rg ?_
              refine s_op (o_mv rfl) ?_
              refine s_nilO ?_
              refine q_seqN ?_
              refine s_keep [4] rfl ?_
              refine s_ret ?_
              refine q_seqR ?_
              refine ret_leaf (.inr rfl) rfl rfl ?_
              refine congrArg (fun b => V.w (.bool b)) ?_
              cases x; cases y; simp_all
            · intro h6
              try rw [Decidable.not_not] at h6
              refine s_skip ?_
              refine q_seqN ?_
              refine s_keep [] rfl ?_
              refine S_seq ?_
              refine s_rg ?_
              refine s_op (o_mv rfl) ?_
              refine s_nilO ?_
              refine q_seqN ?_
              refine s_keep [4] rfl ?_
              refine s_ret ?_
              refine ret_leaf (.inr rfl) rfl rfl ?_
              refine congrArg (fun b => V.w (.bool b)) ?_
              cases x; cases y; simp_all

theorem c_163 (xs : List Int) (hl : xs.length ≤ 1048576) : CV prg 163 [.sl 1 (xs.map iR)] (fun res => res = .sl 1 (xs.map iR)) := by
  refine cv_in g163 ?_
  refine s_keep [0] rfl ?_
  refine S_seq ?_
  refine s_rg ?_
  refine s_op (o_mv rfl) ?_
  refine s_nilO ?_
  refine q_seqN ?_
  refine s_keep [0] rfl ?_
  refine S_seq ?_
  refine s_rg ?_
  refine s_op (o_mv rfl) ?_
  first | refine s_op (o_lenM rfl) ?_ | refine s_op (o_len rfl) ?_
  refine s_op (o_mk rfl rfl rfl rfl ⟨by omega, by unfold roomy; omega, by unfold roomy; omega⟩ rfl) ?_
  refine s_op (o_mv rfl) ?_
  refine s_nilO ?_
  refine q_seqN ?_
  refine s_keep [0, 3] rfl ?_
  refine S_seq ?_
  refine S_seq ?_
  refine s_rg ?_
  refine s_op (o_mv rfl) ?_
  refine s_nilO ?_
  refine q_seqN ?_
  refine s_keep [0, 3, 4] rfl ?_
  refine S_block ?_
  refine S_loop (ι := Nat) (fun i => i ≤ xs.length) (fun i => [(4, .w (.int .i64 (i : Int)))]) (fun i => [.arr 1 (tabV iR [.w (.int .i64 0)] xs i)]) (fun i => xs.length - i) 1 0 (by simp) rfl (hasOf ⟨rfl, trivial⟩ (by rw [tabV_zero]; rfl)) rfl (fun _ _ => rfl) (fun _ _ => ⟨rfl, rfl⟩) ?_
  intro i hi
  refine s_keep [0, 3, 4] rfl ?_
  refine S_seq ?_
  refine S_seq ?_
  refine s_rg ?_
  refine s_op (o_mv rfl) ?_
  refine s_op (o_mv rfl) ?_
  first | refine s_op (o_lenM rfl) ?_ | refine s_op (o_len rfl) ?_
  first | refine s_op (o_lss rfl rfl) ?_ | refine s_op (o_bin rfl rfl rfl rfl) ?_
  refine s_nilO ?_
  refine q_seqN ?_
  refine s_keep [0, 3, 4, 11] rfl ?_
  first | refine s_condD rfl ?_ ?_ | refine s_condN rfl ?_ ?_ | refine s_condNB rfl ?_ ?_ | refine s_condB rfl ?_ ?_
  · intro h1
    try rw [Decidable.not_not] at h1
    refine s_skip ?_
    refine q_seqN ?_
    refine s_keep [0, 3, 4] rfl ?_
    refine S_seq ?_
    refine S_block ?_
    refine s_rg ?_
    refine s_op (o_mv rfl) ?_
    refine s_op (o_mv rfl) ?_
    refine s_op (o_mv rfl) ?_
    refine s_op (o_mv rfl) ?_
    refine s_iaM rfl rfl (by first | omega | (rw [List.length_replicate]; omega)) ?_
    intro y2 e2
    try simp only [Int.toNat_natCast, Int.toNat_zero] at e2
    refine s_op (o_ld rfl rfl) ?_
    refine s_op (o_iaL rfl rfl (by rw [tabV_len _ _ _ _ (by omega), List.length_replicate]; rfl) rfl (by first | omega | (rw [List.length_replicate]; omega))) ?_
    refine s_opN (o_stA rfl rfl rfl rfl (by rw [tabV_len _ _ _ _ (by omega), List.length_replicate]; rfl) (by rw [Int.toNat_natCast]; exact tabV_at _ _ (by omega)) rfl rfl) ?_
    refine s_nilO ?_
    refine q_blkN ?_
    refine q_seqN ?_
    refine s_keep [0, 3, 4] rfl ?_
    refine s_rg ?_
    refine s_op (o_mv rfl) ?_
    first | refine s_op (o_addn rfl rfl (by omega)) ?_ | refine s_op (o_add rfl rfl) ?_
    refine s_op (o_mv rfl) ?_
    refine s_nilO ?_
    refine q_loopN ?_
    refine ⟨i + 1, by omega, by omega, hasOf ⟨rfl, trivial⟩ ?_⟩
    rw [← tabV_set iR [.w (.int .i64 0)] (by assumption)]; rfl
  · intro h1
    try rw [Decidable.not_not] at h1
    refine s_exit ?_
    refine q_seqX ?_
    refine q_loopX ?_
    refine q_blkH ?_
    refine q_seqN ?_
    refine s_keep [3] rfl ?_
    refine S_seq ?_
    refine s_rg ?_
    refine s_op (o_mv rfl) ?_
    refine s_op (o_mv rfl) ?_
    refine s_nilO ?_
    refine q_seqN ?_
    refine s_keep [2] rfl ?_
    refine s_ret ?_
    refine ret_leafA (.inr rfl) rfl rfl (by rw [tabV_len _ _ _ _ (by omega), List.length_replicate]; rfl) ?_
    rw [tabV_end _ _ _ (by omega)]

theorem c_169 (x : Req) (hs : x.small) : CV prg 169 [.agg x.r] (fun res => res = .agg x.r) := by
  refine cv_in g169 ?_
  refine s_keep [0] rfl ?_
  refine S_seq ?_
  refine s_rg ?_
  refine s_op (o_box rfl rfl rfl) ?_
  refine s_op (o_new rfl rfl) ?_
  refine s_nilO ?_
  refine q_seqN ?_
  refine s_keep [1, 2] rfl ?_
  refine S_seq ?_
  refine s_rg ?_
  refine s_op (o_new rfl rfl) ?_
  refine s_nilO ?_
  refine q_seqN ?_
  refine s_keep [1, 2, 3] rfl ?_
  refine S_seq ?_
  refine s_rg ?_
  refine s_op (o_faC rfl) ?_
  refine s_op (o_ldC rfl rfl rfl) ?_
  refine s_op (o_faC rfl) ?_
  refine s_opN (o_stC rfl rfl rfl rfl rfl rfl) ?_
  refine s_nilO ?_
  refine q_seqN ?_
  refine s_keep [1, 2, 3] rfl ?_
  refine S_seq ?_
  refine s_rg ?_
  refine s_op (o_faC rfl) ?_
  refine s_op (o_ldC rfl rfl rfl) ?_
  refine s_op (o_faC rfl) ?_
  refine s_opN (o_stC rfl rfl rfl rfl rfl rfl) ?_
  refine s_nilO ?_
  refine q_seqN ?_
  refine s_keep [1, 2, 3] rfl ?_
  refine S_seq ?_
  refine s_rg ?_
  refine s_op (o_faC rfl) ?_
  refine s_op (o_ldC rfl rfl rfl) ?_
  refine s_op (o_faC rfl) ?_
  refine s_opN (o_stC rfl rfl rfl rfl rfl rfl) ?_
  refine s_nilO ?_
  refine q_seqN ?_
  refine s_keep [1, 2, 3] rfl ?_
  refine S_seq ?_
  refine s_rg ?_
  refine s_op (o_faC rfl) ?_
  refine s_op (o_ldC rfl rfl rfl) ?_
  refine s_op (o_faC rfl) ?_
  refine s_opN (o_stC rfl rfl rfl rfl rfl rfl) ?_
  refine s_nilO ?_
  refine q_seqN ?_
  refine s_keep [1, 2, 3] rfl ?_
  refine S_seq ?_
  refine s_rg ?_
  refine s_op (o_faC rfl) ?_
  refine s_op (o_ldC rfl rfl rfl) ?_
  refine s_op (o_faC rfl) ?_
  refine s_opN (o_stC rfl rfl rfl rfl rfl rfl) ?_
  refine s_nilO ?_
  refine q_seqN ?_
  refine s_keep [1, 2, 3] rfl ?_
  refine S_seq ?_
  refine s_rg ?_
  refine s_op (o_faC rfl) ?_
  refine s_op (o_ldC rfl rfl rfl) ?_
  first | refine s_call rfl rfl (c_163 _ hs) ?_ | refine s_callL rfl rfl (by simp) (c_163 _ hs) rfl ?_
  refine s_op (o_faC rfl) ?_
  refine s_opN (o_stC rfl rfl rfl rfl rfl rfl) ?_
  refine s_nilO ?_
  refine q_seqN ?_
  refine s_keep [2, 3] rfl ?_
  refine S_seq ?_
  refine s_rg ?_
  refine s_op (o_ldnC rfl rfl rfl) ?_
  refine s_opN (o_stnC rfl rfl rfl rfl rfl rfl rfl) ?_
  refine s_nilO ?_
  refine q_seqN ?_
  refine s_keep [2] rfl ?_
  refine s_ret ?_
  refine ret_leaf (.inr rfl) rfl rfl ?_
  rfl

theorem c_148 (xs : List Int) (left : Int) (h : -1 ≤ left ∧ left ≤ 1048576) (hl : xs.length ≤ 140737488355328) : CV prg 148 [.sl 1 (xs.map iR), .w (.int .i64 left)] (fun res => res = .w (.int .i64 (room left xs.length))) := by
  refine cv_in g148 ?_
  refine s_keep [0, 1] rfl ?_
  refine S_seq ?_
  refine s_rg ?_
  refine s_op (o_mv rfl) ?_
  refine s_nilO ?_
  refine q_seqN ?_
  refine s_keep [0, 1] rfl ?_
  refine S_seq ?_
  refine s_rg ?_
  refine s_op (o_mv rfl) ?_
  refine s_op (o_mv rfl) ?_
  first | refine s_op (o_lenM rfl) ?_ | refine s_op (o_len rfl) ?_
  first | refine s_op (o_subn rfl rfl (by omega)) ?_ | refine s_op (o_sub rfl rfl) ?_
  refine s_op (o_mv rfl) ?_
  refine s_nilO ?_
  refine q_seqN ?_
  refine s_keep [1] rfl ?_
  refine S_seq ?_
  refine S_seq ?_
  refine s_rg ?_
  refine s_op (o_mv rfl) ?_
  first | refine s_op (o_lss rfl rfl) ?_ | refine s_op (o_bin rfl rfl rfl rfl) ?_
  refine s_nilO ?_
  refine q_seqN ?_
  refine s_keep [1, 10] rfl ?_
  first | refine s_condD rfl ?_ ?_ | refine s_condN rfl ?_ ?_ | refine s_condNB rfl ?_ ?_ | refine s_condB rfl ?_ ?_
  · intro h1
    try rw [Decidable.not_not] at h1
    refine S_seq ?_
    refine s_rg ?_
    refine s_op (o_mv rfl) ?_
    refine s_nilO ?_
    refine q_seqN ?_
    refine s_keep [4] rfl ?_
    refine s_ret ?_
    refine q_seqR ?_
    refine ret_leaf (.inr rfl) rfl rfl ?_
    refine congrArg (fun b => V.w (.int .i64 b)) ?_
    (try unfold room); omega
  · intro h1
    try rw [Decidable.not_not] at h1
    refine s_skip ?_
    refine q_seqN ?_
    refine s_keep [1] rfl ?_
    refine S_seq ?_
    refine s_rg ?_
    refine s_op (o_mv rfl) ?_
    refine s_op (o_mv rfl) ?_
    refine s_nilO ?_
    refine q_seqN ?_
    refine s_keep [4] rfl ?_
    refine s_ret ?_
    refine ret_leaf (.inr rfl) rfl rfl ?_
    refine congrArg (fun b => V.w (.int .i64 b)) ?_
    (try unfold room); omega

theorem c_153 (x : Req) (left : Int) (h : -1 ≤ left ∧ left ≤ 1048576) (hw : x.wf) : CV prg 153 [.agg x.r, .w (.int .i64 left)] (fun res => res = .w (.int .i64 (room left x.sz))) := by
  refine cv_in g153 ?_
  refine s_keep [0, 1] rfl ?_
  refine S_seq ?_
  refine s_rg ?_
  refine s_op (o_box rfl rfl rfl) ?_
  refine s_op (o_mv rfl) ?_
  refine s_nilO ?_
  refine q_seqN ?_
  refine s_keep [1, 2] rfl ?_
  refine S_seq ?_
  refine s_rg ?_
  refine s_op (o_faC rfl) ?_
  refine s_op (o_ldC rfl rfl rfl) ?_
  refine s_op (o_mv rfl) ?_
  first | refine s_call rfl rfl (c_148 _ _ (by (try unfold room at *); omega) hw.2.2.2.1) ?_ | refine s_callL rfl rfl (by simp) (c_148 _ _ (by (try unfold room at *); omega) hw.2.2.2.1) rfl ?_
  refine s_op (o_mv rfl) ?_
  refine s_nilO ?_
  refine q_seqN ?_
  refine s_keep [1] rfl ?_
  refine S_seq ?_
  refine S_seq ?_
  refine s_rg ?_
  refine s_op (o_mv rfl) ?_
  first | refine s_op (o_lss rfl rfl) ?_ | refine s_op (o_bin rfl rfl rfl rfl) ?_
  refine s_nilO ?_
  refine q_seqN ?_
  refine s_keep [1, 10] rfl ?_
  first | refine s_condD rfl ?_ ?_ | refine s_condN rfl ?_ ?_ | refine s_condNB rfl ?_ ?_ | refine s_condB rfl ?_ ?_
  · intro h1
    try rw [Decidable.not_not] at h1
    refine S_seq ?_
    refine s_rg ?_
    refine s_op (o_mv rfl) ?_
    refine s_nilO ?_
    refine q_seqN ?_
    refine s_keep [4] rfl ?_
    refine s_ret ?_
    refine q_seqR ?_
    refine ret_leaf (.inr rfl) rfl rfl ?_
    refine congrArg (fun b => V.w (.int .i64 b)) ?_
    unfold Req.sz; (try unfold room at *); omega
  · intro h1
    try rw [Decidable.not_not] at h1
    refine s_skip ?_
    refine q_seqN ?_
    refine s_keep [1] rfl ?_
    refine S_seq ?_
    refine s_rg ?_
    refine s_op (o_mv rfl) ?_
    refine s_op (o_mv rfl) ?_
    refine s_nilO ?_
    refine q_seqN ?_
    refine s_keep [4] rfl ?_
    refine s_ret ?_
    refine ret_leaf (.inr rfl) rfl rfl ?_
    refine congrArg (fun b => V.w (.int .i64 b)) ?_
    unfold Req.sz; (try unfold room at *); omega

def roundStep (c : Conf) (s : Int) (i : Nat) : Int := IntKind.wrap .i64 (s + IntKind.wrap .i64 (c.turn i * c.slot))
def Conf.round (c : Conf) : Int := if c.ok then (List.range c.masters.length).foldl (roundStep c) (IntKind.wrap .i64 (c.cost * c.masters.length)) else 0
def Conf.bound (c : Conf) (beats : Int) : Int := if c.ok && inB beats 1 8 then
  IntKind.wrap .i64 (IntKind.wrap .i64 (IntKind.wrap .i64 (2 * IntKind.wrap .i64 (IntKind.wrap .i64 (beats * IntKind.wrap .i64 (IntKind.wrap .i64 (IntKind.wrap .i64 (2 * c.round) + c.maxSplit) + c.cost)) + c.caps)) + IntKind.wrap .i64 (2 * c.slot)) + 10) else 0
theorem minL2 (a b : Int) : minL a [b] = min a b := by simp only [minL]; omega
theorem maxL2 (a b : Int) : maxL a [b] = max a b := by simp only [maxL]; omega
def Wrr.back (w : Wrr) (c : Conf) (who : Int) : Wrr := if w.ok c && decide (who = w.pos) then { w with credit := min (IntKind.wrap .i64 (w.credit + 1)) (c.turn who) } else w
theorem range_end {i n : Nat} {f : Int → Nat → Int} {a : Int} (h : ¬ (i : Int) < n) (hi : i ≤ n) : (List.range i).foldl f a = (List.range n).foldl f a := by
  have : i = n := by omega
  rw [this]

def Post.small (x : Post) : Prop := x.req.small

def Post.sz (x : Post) : Nat := x.req.sz

theorem Post.small_of {x : Post} (h : x.sz ≤ 1048576) : x.small := Req.small_of (by unfold Post.sz at h; omega)

def Script.small (x : Script) : Prop := x.posts.length ≤ 1048576 ∧ (∀ y, y ∈ x.posts → Post.small y) ∧ x.waits.length ≤ 1048576 ∧ x.says.length ≤ 1048576

def Script.sz (x : Script) : Nat := x.posts.length + sumL Post.sz x.posts + x.waits.length + x.says.length

theorem Script.small_of {x : Script} (h : x.sz ≤ 1048576) : x.small := ⟨by unfold Script.sz at h; omega, fun y hy => Post.small_of (by have := sumL_mem Post.sz hy; unfold Script.sz at h; omega), by unfold Script.sz at h; omega, by unfold Script.sz at h; omega⟩

theorem c_339 (x : Post) (hs : x.small) : CV prg 339 [.agg x.r] (fun res => res = .agg x.r) := by
  refine cv_in g339 ?_
  refine s_keep [0] rfl ?_
  refine S_seq ?_
  refine s_rg ?_
  refine s_op (o_box rfl rfl rfl) ?_
  refine s_op (o_new rfl rfl) ?_
  refine s_nilO ?_
  refine q_seqN ?_
  refine s_keep [1, 2] rfl ?_
  refine S_seq ?_
  refine s_rg ?_
  refine s_op (o_new rfl rfl) ?_
  refine s_nilO ?_
  refine q_seqN ?_
  refine s_keep [1, 2, 3] rfl ?_
  refine S_seq ?_
  refine s_rg ?_
  refine s_op (o_faC rfl) ?_
  refine s_op (o_ldC rfl rfl rfl) ?_
  refine s_op (o_faC rfl) ?_
  refine s_opN (o_stC rfl rfl rfl rfl rfl rfl) ?_
  refine s_nilO ?_
  refine q_seqN ?_
  refine s_keep [1, 2, 3] rfl ?_
  refine S_seq ?_
  refine s_rg ?_
  refine s_op (o_faC rfl) ?_
  refine s_op (o_ldC rfl rfl rfl) ?_
  refine s_op (o_faC rfl) ?_
  refine s_opN (o_stC rfl rfl rfl rfl rfl rfl) ?_
  refine s_nilO ?_
  refine q_seqN ?_
  refine s_keep [1, 2, 3] rfl ?_
  refine S_seq ?_
  refine s_rg ?_
  refine s_op (o_faC rfl) ?_
  refine s_op (o_ldnC rfl rfl rfl) ?_
  first | refine s_call rfl rfl (c_169 _ hs) ?_ | refine s_callL rfl rfl (by simp) (c_169 _ hs) rfl ?_
  refine s_op (o_faC rfl) ?_
  refine s_opN (o_stnC rfl rfl rfl rfl rfl rfl rfl) ?_
  refine s_nilO ?_
  refine q_seqN ?_
  refine s_keep [2, 3] rfl ?_
  refine S_seq ?_
  refine s_rg ?_
  refine s_op (o_ldnC rfl rfl rfl) ?_
  refine s_opN (o_stnC rfl rfl rfl rfl rfl rfl rfl) ?_
  refine s_nilO ?_
  refine q_seqN ?_
  refine s_keep [2] rfl ?_
  refine s_ret ?_
  refine ret_leaf (.inr rfl) rfl rfl ?_
  rfl

theorem c_334 (xs : List Post) (hl : xs.length ≤ 1048576) (hx : ∀ y, y ∈ xs → Post.small y) : CV prg 334 [.sl 8 (xs.map Post.r)] (fun res => res = .sl 8 (xs.map Post.r)) := by
  refine cv_in g334 ?_
  refine s_keep [0] rfl ?_
  refine S_seq ?_
  refine s_rg ?_
  refine s_op (o_mv rfl) ?_
  refine s_nilO ?_
  refine q_seqN ?_
  refine s_keep [0] rfl ?_
  refine S_seq ?_
  refine s_rg ?_
  refine s_op (o_mv rfl) ?_
  first | refine s_op (o_lenM rfl) ?_ | refine s_op (o_len rfl) ?_
  refine s_op (o_mk rfl rfl rfl rfl ⟨by omega, by unfold roomy; omega, by unfold roomy; omega⟩ rfl) ?_
  refine s_op (o_mv rfl) ?_
  refine s_nilO ?_
  refine q_seqN ?_
  refine s_keep [0, 3] rfl ?_
  refine S_seq ?_
  refine S_seq ?_
  refine s_rg ?_
  refine s_op (o_mv rfl) ?_
  refine s_nilO ?_
  refine q_seqN ?_
  refine s_keep [0, 3, 4] rfl ?_
  refine S_block ?_
  refine S_loop (ι := Nat) (fun i => i ≤ xs.length) (fun i => [(4, .w (.int .i64 (i : Int)))]) (fun i => [.arr 8 (tabV Post.r [.w (.int .i64 0), .w (.int .i64 0), .w (.bool false), .w (.int .i64 0), .w (.int .i64 0), .w (.int .i64 0), .w (.bool false), .w (.slice none 0 0)] xs i)]) (fun i => xs.length - i) 1 0 (by simp) rfl (hasOf ⟨rfl, trivial⟩ (by rw [tabV_zero]; rfl)) rfl (fun _ _ => rfl) (fun _ _ => ⟨rfl, rfl⟩) ?_
  intro i hi
  refine s_keep [0, 3, 4] rfl ?_
  refine S_seq ?_
  refine S_seq ?_
  refine s_rg ?_
  refine s_op (o_mv rfl) ?_
  refine s_op (o_mv rfl) ?_
  first | refine s_op (o_lenM rfl) ?_ | refine s_op (o_len rfl) ?_
  first | refine s_op (o_lss rfl rfl) ?_ | refine s_op (o_bin rfl rfl rfl rfl) ?_
  refine s_nilO ?_
  refine q_seqN ?_
  refine s_keep [0, 3, 4, 11] rfl ?_
  first | refine s_condD rfl ?_ ?_ | refine s_condN rfl ?_ ?_ | refine s_condNB rfl ?_ ?_ | refine s_condB rfl ?_ ?_
  · intro h1
    try rw [Decidable.not_not] at h1
    refine s_skip ?_
    refine q_seqN ?_
    refine s_keep [0, 3, 4] rfl ?_
    refine S_seq ?_
    refine S_block ?_
    refine s_rg ?_
    refine s_op (o_mv rfl) ?_
    refine s_op (o_mv rfl) ?_
    refine s_op (o_mv rfl) ?_
    refine s_op (o_mv rfl) ?_
    refine s_iaM rfl rfl (by first | omega | (rw [List.length_replicate]; omega)) ?_
    intro y2 e2
    try simp only [Int.toNat_natCast, Int.toNat_zero] at e2
    refine s_op (o_ldn rfl rfl) ?_
    first | refine s_call rfl rfl (c_339 _ (hx _ (List.mem_of_getElem? (by assumption)))) ?_ | refine s_callL rfl rfl (by simp) (c_339 _ (hx _ (List.mem_of_getElem? (by assumption)))) rfl ?_
    refine s_op (o_iaL rfl rfl (by rw [tabV_len _ _ _ _ (by omega), List.length_replicate]; rfl) rfl (by first | omega | (rw [List.length_replicate]; omega))) ?_
    refine s_opN (o_stnA rfl rfl rfl rfl rfl (by rw [tabV_len _ _ _ _ (by omega), List.length_replicate]; rfl) (by rw [Int.toNat_natCast]; exact tabV_at _ _ (by omega)) rfl rfl) ?_
    refine s_nilO ?_
    refine q_blkN ?_
    refine q_seqN ?_
    refine s_keep [0, 3, 4] rfl ?_
    refine s_rg ?_
    refine s_op (o_mv rfl) ?_
    first | refine s_op (o_addn rfl rfl (by omega)) ?_ | refine s_op (o_add rfl rfl) ?_
    refine s_op (o_mv rfl) ?_
    refine s_nilO ?_
    refine q_loopN ?_
    refine ⟨i + 1, by omega, by omega, hasOf ⟨rfl, trivial⟩ ?_⟩
    rw [← tabV_set Post.r [.w (.int .i64 0), .w (.int .i64 0), .w (.bool false), .w (.int .i64 0), .w (.int .i64 0), .w (.int .i64 0), .w (.bool false), .w (.slice none 0 0)] (by assumption)]; rfl
  · intro h1
    try rw [Decidable.not_not] at h1
    refine s_exit ?_
    refine q_seqX ?_
    refine q_loopX ?_
    refine q_blkH ?_
    refine q_seqN ?_
    refine s_keep [3] rfl ?_
    refine S_seq ?_
    refine s_rg ?_
    refine s_op (o_mv rfl) ?_
    refine s_op (o_mv rfl) ?_
    refine s_nilO ?_
    refine q_seqN ?_
    refine s_keep [2] rfl ?_
    refine s_ret ?_
    refine ret_leafA (.inr rfl) rfl rfl (by rw [tabV_len _ _ _ _ (by omega), List.length_replicate]; rfl) ?_
    rw [tabV_end _ _ _ (by omega)]

theorem c_338 (x : Post) (left : Int) (h : -1 ≤ left ∧ left ≤ 1048576) (hw : x.wf) : CV prg 338 [.agg x.r, .w (.int .i64 left)] (fun res => res = .w (.int .i64 (room left x.sz))) := by
  refine cv_in g338 ?_
  refine s_keep [0, 1] rfl ?_
  refine S_seq ?_
  refine s_rg ?_
  refine s_op (o_box rfl rfl rfl) ?_
  refine s_op (o_mv rfl) ?_
  refine s_nilO ?_
  refine q_seqN ?_
  refine s_keep [1, 2] rfl ?_
  refine S_seq ?_
  refine s_rg ?_
  refine s_op (o_faC rfl) ?_
  refine s_op (o_ldnC rfl rfl rfl) ?_
  refine s_op (o_mv rfl) ?_
  first | refine s_call rfl rfl (c_153 _ _ (by (try unfold room at *); omega) hw.2.2) ?_ | refine s_callL rfl rfl (by simp) (c_153 _ _ (by (try unfold room at *); omega) hw.2.2) rfl ?_
  refine s_op (o_mv rfl) ?_
  refine s_nilO ?_
  refine q_seqN ?_
  refine s_keep [1] rfl ?_
  refine S_seq ?_
  refine S_seq ?_
  refine s_rg ?_
  refine s_op (o_mv rfl) ?_
  first | refine s_op (o_lss rfl rfl) ?_ | refine s_op (o_bin rfl rfl rfl rfl) ?_
  refine s_nilO ?_
  refine q_seqN ?_
  refine s_keep [1, 10] rfl ?_
  first | refine s_condD rfl ?_ ?_ | refine s_condN rfl ?_ ?_ | refine s_condNB rfl ?_ ?_ | refine s_condB rfl ?_ ?_
  · intro h1
    try rw [Decidable.not_not] at h1
    refine S_seq ?_
    refine s_rg ?_
    refine s_op (o_mv rfl) ?_
    refine s_nilO ?_
    refine q_seqN ?_
    refine s_keep [4] rfl ?_
    refine s_ret ?_
    refine q_seqR ?_
    refine ret_leaf (.inr rfl) rfl rfl ?_
    refine congrArg (fun b => V.w (.int .i64 b)) ?_
    unfold Post.sz; (try unfold room at *); omega
  · intro h1
    try rw [Decidable.not_not] at h1
    refine s_skip ?_
    refine q_seqN ?_
    refine s_keep [1] rfl ?_
    refine S_seq ?_
    refine s_rg ?_
    refine s_op (o_mv rfl) ?_
    refine s_op (o_mv rfl) ?_
    refine s_nilO ?_
    refine q_seqN ?_
    refine s_keep [4] rfl ?_
    refine s_ret ?_
    refine ret_leaf (.inr rfl) rfl rfl ?_
    refine congrArg (fun b => V.w (.int .i64 b)) ?_
    unfold Post.sz; (try unfold room at *); omega

theorem c_333 (xs : List Post) (left : Int) (h : -1 ≤ left ∧ left ≤ 1048576) (hl : xs.length ≤ 140737488355328) (hw : ∀ y, y ∈ xs → Post.wf y) : CV prg 333 [.sl 8 (xs.map Post.r), .w (.int .i64 left)] (fun res => res = .w (.int .i64 (room left (xs.length + sumL Post.sz xs)))) := by
  refine cv_in g333 ?_
  refine s_keep [0, 1] rfl ?_
  refine S_seq ?_
  refine s_rg ?_
  refine s_op (o_mv rfl) ?_
  refine s_nilO ?_
  refine q_seqN ?_
  refine s_keep [0, 1] rfl ?_
  refine S_seq ?_
  refine s_rg ?_
  refine s_op (o_mv rfl) ?_
  refine s_op (o_mv rfl) ?_
  first | refine s_op (o_lenM rfl) ?_ | refine s_op (o_len rfl) ?_
  first | refine s_op (o_subn rfl rfl (by omega)) ?_ | refine s_op (o_sub rfl rfl) ?_
  refine s_op (o_mv rfl) ?_
  refine s_nilO ?_
  refine q_seqN ?_
  refine s_keep [0, 1] rfl ?_
  refine S_seq ?_
  refine S_seq ?_
  refine s_rg ?_
  refine s_op (o_mv rfl) ?_
  first | refine s_op (o_lss rfl rfl) ?_ | refine s_op (o_bin rfl rfl rfl rfl) ?_
  refine s_nilO ?_
  refine q_seqN ?_
  refine s_keep [0, 1, 11] rfl ?_
  first | refine s_condD rfl ?_ ?_ | refine s_condN rfl ?_ ?_ | refine s_condNB rfl ?_ ?_ | refine s_condB rfl ?_ ?_
  · intro h1
    try rw [Decidable.not_not] at h1
    refine S_seq ?_
    refine s_rg ?_
    refine s_op (o_mv rfl) ?_
    refine s_nilO ?_
    refine q_seqN ?_
    refine s_keep [4] rfl ?_
    refine s_ret ?_
    refine q_seqR ?_
    refine ret_leaf (.inr rfl) rfl rfl ?_
    refine congrArg (fun b => V.w (.int .i64 b)) ?_
    first | ((try unfold room); omega) | (have hst := sumL_take Post.sz (by assumption : xs[i]? = some _); have hs2 := sumL_le Post.sz xs (i + 1); (try unfold room at *); omega) | (rw [sumL_end _ (by omega)] at *; (try unfold room); omega)
  · intro h1
    try rw [Decidable.not_not] at h1
    refine s_skip ?_
    refine q_seqN ?_
    refine s_keep [0, 1] rfl ?_
    refine S_seq ?_
    refine S_seq ?_
    refine s_rg ?_
    refine s_op (o_mv rfl) ?_
    refine s_nilO ?_
    refine q_seqN ?_
    refine s_keep [0, 1, 5] rfl ?_
    refine S_block ?_
    refine S_loop0 (ι := Nat) (fun i => i ≤ xs.length ∧ 0 ≤ left - xs.length - sumL Post.sz (xs.take i)) (fun i => [(5, .w (.int .i64 (i : Int))), (1, .w (.int .i64 (left - xs.length - sumL Post.sz (xs.take i))))]) (fun i => xs.length - i) 0 ⟨by simp, by simp [sumL]; omega⟩ rfl ⟨rfl, by simp [sumL, look]; rfl, trivial⟩ (fun _ _ => rfl) rfl ?_
    intro i hi
    have hsl := sumL_le Post.sz xs i
    refine s_keep [0, 1, 5] rfl ?_
    refine S_seq ?_
    refine S_seq ?_
    refine s_rg ?_
    refine s_op (o_mv rfl) ?_
    refine s_op (o_mv rfl) ?_
    first | refine s_op (o_lenM rfl) ?_ | refine s_op (o_len rfl) ?_
    first | refine s_op (o_lss rfl rfl) ?_ | refine s_op (o_bin rfl rfl rfl rfl) ?_
    refine s_nilO ?_
    refine q_seqN ?_
    refine s_keep [0, 1, 5, 15] rfl ?_
    first | refine s_condD rfl ?_ ?_ | refine s_condN rfl ?_ ?_ | refine s_condNB rfl ?_ ?_ | refine s_condB rfl ?_ ?_
    · intro h2
      try rw [Decidable.not_not] at h2
      refine s_skip ?_
      refine q_seqN ?_
      refine s_keep [0, 1, 5] rfl ?_
      refine S_seq ?_
      refine S_block ?_
      refine S_seq ?_
      refine s_rg ?_
      refine s_op (o_mv rfl) ?_
      refine s_op (o_mv rfl) ?_
      refine s_iaM rfl rfl (by simp at *; omega) ?_
      intro y3 e3
      try simp only [Int.toNat_natCast, Int.toNat_zero] at e3
      refine s_op (o_ldn rfl rfl) ?_
      refine s_op (o_mv rfl) ?_
      first | refine s_call rfl rfl (c_338 _ _ (by omega) (hw _ (List.mem_of_getElem? (by assumption)))) ?_ | refine s_callL rfl rfl (by simp) (c_338 _ _ (by omega) (hw _ (List.mem_of_getElem? (by assumption)))) rfl ?_
      refine s_op (o_mv rfl) ?_
      refine s_nilO ?_
      refine q_seqN ?_
      refine s_keep [0, 1, 5] rfl ?_
      refine S_seq ?_
      refine s_rg ?_
      refine s_op (o_mv rfl) ?_
      first | refine s_op (o_lss rfl rfl) ?_ | refine s_op (o_bin rfl rfl rfl rfl) ?_
      refine s_nilO ?_
      refine q_seqN ?_
      refine s_keep [0, 1, 5, 25] rfl ?_
      first | refine s_condD rfl ?_ ?_ | refine s_condN rfl ?_ ?_ | refine s_condNB rfl ?_ ?_ | refine s_condB rfl ?_ ?_
      · intro h4
        try rw [Decidable.not_not] at h4
        refine S_seq ?_
        refine s_rg ?_
        refine s_op (o_mv rfl) ?_
        refine s_nilO ?_
        refine q_seqN ?_
        refine s_keep [4] rfl ?_
        refine s_ret ?_
        refine q_blkR ?_
        refine q_seqR ?_
        refine q_loopR ?_
        refine q_blkR ?_
        refine q_seqR ?_
        refine ret_leaf (.inr rfl) rfl rfl ?_
        refine congrArg (fun b => V.w (.int .i64 b)) ?_
        first | ((try unfold room); omega) | (have hst := sumL_take Post.sz (by assumption : xs[i]? = some _); have hs2 := sumL_le Post.sz xs (i + 1); (try unfold room at *); omega) | (rw [sumL_end _ (by omega)] at *; (try unfold room); omega)
      · intro h4
        try rw [Decidable.not_not] at h4
        refine s_skip ?_
        refine q_blkN ?_
        refine q_seqN ?_
        refine s_keep [0, 1, 5] rfl ?_
        refine s_rg ?_
        refine s_op (o_mv rfl) ?_
        first | refine s_op (o_addn rfl rfl (by omega)) ?_ | refine s_op (o_add rfl rfl) ?_
        refine s_op (o_mv rfl) ?_
        refine s_nilO ?_
        refine q_loopN ?_
        have hst := sumL_take Post.sz (by assumption : xs[i]? = some _)
        refine ⟨i + 1, ⟨by omega, by (try unfold room at *); omega⟩, by omega, hasOf ⟨rfl, ?_, trivial⟩ rfl⟩
        refine congrArg (fun b => some (V.w (.int .i64 b))) ?_
        (try unfold room at *); omega
    · intro h2
      try rw [Decidable.not_not] at h2
      refine s_exit ?_
      refine q_seqX ?_
      refine q_loopX ?_
      refine q_blkH ?_
      refine q_seqN ?_
      refine s_keep [1] rfl ?_
      refine S_seq ?_
      refine s_rg ?_
      refine s_op (o_mv rfl) ?_
      refine s_op (o_mv rfl) ?_
      refine s_nilO ?_
      refine q_seqN ?_
      refine s_keep [4] rfl ?_
      refine s_ret ?_
      refine ret_leaf (.inr rfl) rfl rfl ?_
      refine congrArg (fun b => V.w (.int .i64 b)) ?_
      first | ((try unfold room); omega) | (have hst := sumL_take Post.sz (by assumption : xs[i]? = some _); have hs2 := sumL_le Post.sz xs (i + 1); (try unfold room at *); omega) | (rw [sumL_end _ (by omega)] at *; (try unfold room); omega)

theorem c_340 (x y : Post) (hs : x.small) : CV prg 340 [.agg x.r, .agg y.r] (fun res => res = .w (.bool (decide (x = y)))) := by
  refine cv_in g340 ?_
  refine s_keep [0, 1] rfl ?_
  refine S_seq ?_
  refine s_rg ?_
  refine s_op (o_box rfl rfl rfl) ?_
  refine s_op (o_box rfl rfl rfl) ?_
  refine s_op (o_mv rfl) ?_
  refine s_nilO ?_
  refine q_seqN ?_
  refine s_keep [2, 3] rfl ?_
  refine S_seq ?_
  refine S_seq ?_
  refine s_rg ?_
  refine s_op (o_faC rfl) ?_
  refine s_op (o_ldC rfl rfl rfl) ?_
  refine s_op (o_faC rfl) ?_
  refine s_op (o_ldC rfl rfl rfl) ?_
  first | refine s_op (o_neq rfl rfl) ?_ | refine s_op (o_bin rfl rfl rfl rfl) ?_
  refine s_nilO ?_
  refine q_seqN ?_
  refine s_keep [2, 3, 9] rfl ?_
  first | refine s_condD rfl ?_ ?_ | refine s_condN rfl ?_ ?_ | refine s_condNB rfl ?_ ?_ | refine s_condB rfl ?_ ?_
  · intro h1
    try rw [Decidable.not_not] at h1
    refine S_seq ?_
    refine s_rg ?_
    refine s_op (o_mv rfl) ?_
    refine s_nilO ?_
    refine q_seqN ?_
    refine s_keep [4] rfl ?_
    refine s_ret ?_
    refine q_seqR ?_
    refine ret_leaf (.inr rfl) rfl rfl ?_
    refine congrArg (fun b => V.w (.bool b)) ?_
    cases x; cases y; simp_all
  · intro h1
    try rw [Decidable.not_not] at h1
    refine s_skip ?_
    refine q_seqN ?_
    refine s_keep [2, 3] rfl ?_
    refine S_seq ?_
    refine S_seq ?_
    refine s_rg ?_
    refine s_op (o_faC rfl) ?_
    refine s_op (o_ldC rfl rfl rfl) ?_
    refine s_op (o_faC rfl) ?_
    refine s_op (o_ldC rfl rfl rfl) ?_
    first | refine s_op (o_neq rfl rfl) ?_ | refine s_op (o_bin rfl rfl rfl rfl) ?_
    refine s_nilO ?_
    refine q_seqN ?_
    refine s_keep [2, 3, 14] rfl ?_
    first | refine s_condD rfl ?_ ?_ | refine s_condN rfl ?_ ?_ | refine s_condNB rfl ?_ ?_ | refine s_condB rfl ?_ ?_
    · intro h2
      try rw [Decidable.not_not] at h2
      refine S_seq ?_
      refine s_rg ?_
      refine s_op (o_mv rfl) ?_
      refine s_nilO ?_
      refine q_seqN ?_
      refine s_keep [4] rfl ?_
      refine s_ret ?_
      refine q_seqR ?_
      refine ret_leaf (.inr rfl) rfl rfl ?_
      refine congrArg (fun b => V.w (.bool b)) ?_
      cases x; cases y; simp_all
    · intro h2
      try rw [Decidable.not_not] at h2
      refine s_skip ?_
      refine q_seqN ?_
      refine s_keep [2, 3] rfl ?_
      refine S_seq ?_
      refine S_seq ?_
      refine s_rg ?_
      refine s_op (o_faC rfl) ?_
      refine s_op (o_ldnC rfl rfl rfl) ?_
      refine s_op (o_faC rfl) ?_
      refine s_op (o_ldnC rfl rfl rfl) ?_
      first | refine s_call rfl rfl (c_138 _ _ hs) ?_ | refine s_callL rfl rfl (by simp) (c_138 _ _ hs) rfl ?_
      refine s_op (o_not rfl) ?_
      refine s_nilO ?_
      refine q_seqN ?_
      refine s_keep [20] rfl ?_
      first | refine s_condD rfl ?_ ?_ | refine s_condN rfl ?_ ?_ | refine s_condNB rfl ?_ ?_ | refine s_condB rfl ?_ ?_
      · intro h3
        try rw [Decidable.not_not] at h3
        refine S_seq ?_
        refine s_rg ?_
        refine s_op (o_mv rfl) ?_
        refine s_nilO ?_
        refine q_seqN ?_
        refine s_keep [4] rfl ?_
        refine s_ret ?_
        refine q_seqR ?_
        refine ret_leaf (.inr rfl) rfl rfl ?_
        refine congrArg (fun b => V.w (.bool b)) ?_
        cases x; cases y; simp_all
      · intro h3
        try rw [Decidable.not_not] at h3
        refine s_skip ?_
        refine q_seqN ?_
        refine s_keep [] rfl ?_
        refine S_seq ?_
        refine s_rg ?_
        refine s_op (o_mv rfl) ?_
        refine s_nilO ?_
        refine q_seqN ?_
        refine s_keep [4] rfl ?_
        refine s_ret ?_
        refine ret_leaf (.inr rfl) rfl rfl ?_
        refine congrArg (fun b => V.w (.bool b)) ?_
        cases x; cases y; simp_all

theorem c_335 (xs ys : List Post) (hl : xs.length ≤ 1048576) (hx : ∀ y, y ∈ xs → Post.small y) : CV prg 335 [.sl 8 (xs.map Post.r), .sl 8 (ys.map Post.r)] (fun res => res = .w (.bool (decide (xs = ys)))) := by
  refine cv_in g335 ?_
  refine s_keep [0, 1] rfl ?_
  refine S_seq ?_
  refine s_rg ?_
  refine s_op (o_mv rfl) ?_
  refine s_nilO ?_
  refine q_seqN ?_
  refine s_keep [0, 1] rfl ?_
  refine S_seq ?_
  refine S_seq ?_
  refine s_rg ?_
  refine s_op (o_mv rfl) ?_
  first | refine s_op (o_lenM rfl) ?_ | refine s_op (o_len rfl) ?_
  refine s_op (o_mv rfl) ?_
  first | refine s_op (o_lenM rfl) ?_ | refine s_op (o_len rfl) ?_
  first | refine s_op (o_neq rfl rfl) ?_ | refine s_op (o_bin rfl rfl rfl rfl) ?_
  refine s_nilO ?_
  refine q_seqN ?_
  refine s_keep [0, 1, 10] rfl ?_
  first | refine s_condD rfl ?_ ?_ | refine s_condN rfl ?_ ?_ | refine s_condNB rfl ?_ ?_ | refine s_condB rfl ?_ ?_
  · intro h1
    try rw [Decidable.not_not] at h1
    refine S_seq ?_
    refine s_rg ?_
    refine s_op (o_mv rfl) ?_
    refine s_nilO ?_
    refine q_seqN ?_
    refine s_keep [4] rfl ?_
    refine s_ret ?_
    refine q_seqR ?_
    refine ret_leaf (.inr rfl) rfl rfl ?_
    refine congrArg (fun b => V.w (.bool b)) ?_
    first | exact (decide_eq_false (ne_at (by assumption) (by assumption) (by assumption))).symm | exact (decide_eq_true (eq_end hi.2.1 (by omega) hi.2.2)).symm | exact (decide_eq_false (fun e => by subst e; simp_all)).symm
  · intro h1
    try rw [Decidable.not_not] at h1
    refine s_skip ?_
    refine q_seqN ?_
    refine s_keep [0, 1] rfl ?_
    refine S_seq ?_
    refine S_seq ?_
    refine s_rg ?_
    refine s_op (o_mv rfl) ?_
    refine s_nilO ?_
    refine q_seqN ?_
    refine s_keep [0, 1, 5] rfl ?_
    refine S_block ?_
    refine S_loop0 (ι := Nat) (fun i => i ≤ xs.length ∧ xs.take i = ys.take i ∧ xs.length = ys.length) (fun i => [(5, .w (.int .i64 (i : Int)))]) (fun i => xs.length - i) 0 ⟨by simp, by simp, by omega⟩ rfl ⟨rfl, trivial⟩ (fun _ _ => rfl) rfl ?_
    intro i hi
    refine s_keep [0, 1, 5] rfl ?_
    refine S_seq ?_
    refine S_seq ?_
    refine s_rg ?_
    refine s_op (o_mv rfl) ?_
    refine s_op (o_mv rfl) ?_
    first | refine s_op (o_lenM rfl) ?_ | refine s_op (o_len rfl) ?_
    first | refine s_op (o_lss rfl rfl) ?_ | refine s_op (o_bin rfl rfl rfl rfl) ?_
    refine s_nilO ?_
    refine q_seqN ?_
    refine s_keep [0, 1, 5, 14] rfl ?_
    first | refine s_condD rfl ?_ ?_ | refine s_condN rfl ?_ ?_ | refine s_condNB rfl ?_ ?_ | refine s_condB rfl ?_ ?_
    · intro h2
      try rw [Decidable.not_not] at h2
      refine s_skip ?_
      refine q_seqN ?_
      refine s_keep [0, 1, 5] rfl ?_
      refine S_seq ?_
      refine S_block ?_
      refine S_seq ?_
      refine s_rg ?_
      refine s_op (o_mv rfl) ?_
      refine s_op (o_mv rfl) ?_
      refine s_iaM rfl rfl (by omega) ?_
      intro y3 e3
      try simp only [Int.toNat_natCast, Int.toNat_zero] at e3
      refine s_op (o_ldn rfl rfl) ?_
      refine s_op (o_mv rfl) ?_
      refine s_op (o_mv rfl) ?_
      refine s_iaM rfl rfl (by omega) ?_
      intro y4 e4
      try simp only [Int.toNat_natCast, Int.toNat_zero] at e4
      refine s_op (o_ldn rfl rfl) ?_
      first | refine s_call rfl rfl (c_340 _ _ (hx _ (List.mem_of_getElem? (by assumption)))) ?_ | refine s_callL rfl rfl (by simp) (c_340 _ _ (hx _ (List.mem_of_getElem? (by assumption)))) rfl ?_
      refine s_op (o_not rfl) ?_
      refine s_nilO ?_
      refine q_seqN ?_
      refine s_keep [0, 1, 5, 26] rfl ?_
      first | refine s_condD rfl ?_ ?_ | refine s_condN rfl ?_ ?_ | refine s_condNB rfl ?_ ?_ | refine s_condB rfl ?_ ?_
      · intro h5
        try rw [Decidable.not_not] at h5
        refine S_seq ?_
        refine s_rg ?_
        refine s_op (o_mv rfl) ?_
        refine s_nilO ?_
        refine q_seqN ?_
        refine s_keep [4] rfl ?_
        refine s_ret ?_
        refine q_blkR ?_
        refine q_seqR ?_
        refine q_loopR ?_
        refine q_blkR ?_
        refine q_seqR ?_
        refine ret_leaf (.inr rfl) rfl rfl ?_
        refine congrArg (fun b => V.w (.bool b)) ?_
        first | exact (decide_eq_false (ne_at (by assumption) (by assumption) (by assumption))).symm | exact (decide_eq_true (eq_end hi.2.1 (by omega) hi.2.2)).symm | exact (decide_eq_false (fun e => by subst e; simp_all)).symm
      · intro h5
        try rw [Decidable.not_not] at h5
        refine s_skip ?_
        refine q_blkN ?_
        refine q_seqN ?_
        refine s_keep [0, 1, 5] rfl ?_
        refine s_rg ?_
        refine s_op (o_mv rfl) ?_
        first | refine s_op (o_addn rfl rfl (by omega)) ?_ | refine s_op (o_add rfl rfl) ?_
        refine s_op (o_mv rfl) ?_
        refine s_nilO ?_
        refine q_loopN ?_
        refine ⟨i + 1, ⟨by omega, eq_take (by assumption) (by assumption) hi.2.1 ?_, hi.2.2⟩, by omega, hasOf ⟨rfl, trivial⟩ rfl⟩
        assumption
    · intro h2
      try rw [Decidable.not_not] at h2
      refine s_exit ?_
      refine q_seqX ?_
      refine q_loopX ?_
      refine q_blkH ?_
      refine q_seqN ?_
      refine s_keep [] rfl ?_
      refine S_seq ?_
      refine s_rg ?_
      refine s_op (o_mv rfl) ?_
      refine s_nilO ?_
      refine q_seqN ?_
      refine s_keep [4] rfl ?_
      refine s_ret ?_
      refine ret_leaf (.inr rfl) rfl rfl ?_
      refine congrArg (fun b => V.w (.bool b)) ?_
      first | exact (decide_eq_false (ne_at (by assumption) (by assumption) (by assumption))).symm | exact (decide_eq_true (eq_end hi.2.1 (by omega) hi.2.2)).symm | exact (decide_eq_false (fun e => by subst e; simp_all)).symm

theorem c_321 (x : Script) (hs : x.small) : CV prg 321 [.agg x.r] (fun res => res = .agg x.r) := by
  refine cv_in g321 ?_
  refine s_keep [0] rfl ?_
  refine S_seq ?_
  refine s_rg ?_
  refine s_op (o_box rfl rfl rfl) ?_
  refine s_op (o_new rfl rfl) ?_
  refine s_nilO ?_
  refine q_seqN ?_
  refine s_keep [1, 2] rfl ?_
  refine S_seq ?_
  refine s_rg ?_
  refine s_op (o_new rfl rfl) ?_
  refine s_nilO ?_
  refine q_seqN ?_
  refine s_keep [1, 2, 3] rfl ?_
  refine S_seq ?_
  refine s_rg ?_
  refine s_op (o_faC rfl) ?_
  refine s_op (o_ldC rfl rfl rfl) ?_
  first | refine s_call rfl rfl (c_334 _ hs.1 hs.2.1) ?_ | refine s_callL rfl rfl (by simp) (c_334 _ hs.1 hs.2.1) rfl ?_
  refine s_op (o_faC rfl) ?_
  refine s_opN (o_stC rfl rfl rfl rfl rfl rfl) ?_
  refine s_nilO ?_
  refine q_seqN ?_
  refine s_keep [1, 2, 3] rfl ?_
  refine S_seq ?_
  refine s_rg ?_
  refine s_op (o_faC rfl) ?_
  refine s_op (o_ldC rfl rfl rfl) ?_
  first | refine s_call rfl rfl (by first | exact (c_163 _ hs.2.2.1) | exact (c_163 _ hs.2.2.2)) ?_ | refine s_callL rfl rfl (by simp) (by first | exact (c_163 _ hs.2.2.1) | exact (c_163 _ hs.2.2.2)) rfl ?_
  refine s_op (o_faC rfl) ?_
  refine s_opN (o_stC rfl rfl rfl rfl rfl rfl) ?_
  refine s_nilO ?_
  refine q_seqN ?_
  refine s_keep [1, 2, 3] rfl ?_
  refine S_seq ?_
  refine s_rg ?_
  refine s_op (o_faC rfl) ?_
  refine s_op (o_ldC rfl rfl rfl) ?_
  first | refine s_call rfl rfl (by first | exact (c_163 _ hs.2.2.1) | exact (c_163 _ hs.2.2.2)) ?_ | refine s_callL rfl rfl (by simp) (by first | exact (c_163 _ hs.2.2.1) | exact (c_163 _ hs.2.2.2)) rfl ?_
  refine s_op (o_faC rfl) ?_
  refine s_opN (o_stC rfl rfl rfl rfl rfl rfl) ?_
  refine s_nilO ?_
  refine q_seqN ?_
  refine s_keep [2, 3] rfl ?_
  refine S_seq ?_
  refine s_rg ?_
  refine s_op (o_ldnC rfl rfl rfl) ?_
  refine s_opN (o_stnC rfl rfl rfl rfl rfl rfl rfl) ?_
  refine s_nilO ?_
  refine q_seqN ?_
  refine s_keep [2] rfl ?_
  refine s_ret ?_
  refine ret_leaf (.inr rfl) rfl rfl ?_
  rfl

theorem c_320 (x : Script) (left : Int) (h : -1 ≤ left ∧ left ≤ 1048576) (hw : x.wf) : CV prg 320 [.agg x.r, .w (.int .i64 left)] (fun res => res = .w (.int .i64 (room left x.sz))) := by
  refine cv_in g320 ?_
  refine s_keep [0, 1] rfl ?_
  refine S_seq ?_
  refine s_rg ?_
  refine s_op (o_box rfl rfl rfl) ?_
  refine s_op (o_mv rfl) ?_
  refine s_nilO ?_
  refine q_seqN ?_
  refine s_keep [1, 2] rfl ?_
  refine S_seq ?_
  refine s_rg ?_
  refine s_op (o_faC rfl) ?_
  refine s_op (o_ldC rfl rfl rfl) ?_
  refine s_op (o_mv rfl) ?_
  first | refine s_call rfl rfl (c_333 _ _ (by (try unfold room at *); omega) hw.1.1 hw.1.2) ?_ | refine s_callL rfl rfl (by simp) (c_333 _ _ (by (try unfold room at *); omega) hw.1.1 hw.1.2) rfl ?_
  refine s_op (o_mv rfl) ?_
  refine s_nilO ?_
  refine q_seqN ?_
  refine s_keep [1, 2] rfl ?_
  refine S_seq ?_
  refine S_seq ?_
  refine s_rg ?_
  refine s_op (o_mv rfl) ?_
  first | refine s_op (o_lss rfl rfl) ?_ | refine s_op (o_bin rfl rfl rfl rfl) ?_
  refine s_nilO ?_
  refine q_seqN ?_
  refine s_keep [1, 2, 10] rfl ?_
  first | refine s_condD rfl ?_ ?_ | refine s_condN rfl ?_ ?_ | refine s_condNB rfl ?_ ?_ | refine s_condB rfl ?_ ?_
  · intro h1
    try rw [Decidable.not_not] at h1
    refine S_seq ?_
    refine s_rg ?_
    refine s_op (o_mv rfl) ?_
    refine s_nilO ?_
    refine q_seqN ?_
    refine s_keep [4] rfl ?_
    refine s_ret ?_
    refine q_seqR ?_
    refine ret_leaf (.inr rfl) rfl rfl ?_
    refine congrArg (fun b => V.w (.int .i64 b)) ?_
    unfold Script.sz; (try unfold room at *); omega
  · intro h1
    try rw [Decidable.not_not] at h1
    refine s_skip ?_
    refine q_seqN ?_
    refine s_keep [1, 2] rfl ?_
    refine S_seq ?_
    refine s_rg ?_
    refine s_op (o_faC rfl) ?_
    refine s_op (o_ldC rfl rfl rfl) ?_
    refine s_op (o_mv rfl) ?_
    first | refine s_call rfl rfl (by first | exact (c_148 _ _ (by (try unfold room at *); omega) hw.2.1.1) | exact (c_148 _ _ (by (try unfold room at *); omega) hw.2.2.1)) ?_ | refine s_callL rfl rfl (by simp) (by first | exact (c_148 _ _ (by (try unfold room at *); omega) hw.2.1.1) | exact (c_148 _ _ (by (try unfold room at *); omega) hw.2.2.1)) rfl ?_
    refine s_op (o_mv rfl) ?_
    refine s_nilO ?_
    refine q_seqN ?_
    refine s_keep [1, 2] rfl ?_
    refine S_seq ?_
    refine S_seq ?_
    refine s_rg ?_
    refine s_op (o_mv rfl) ?_
    first | refine s_op (o_lss rfl rfl) ?_ | refine s_op (o_bin rfl rfl rfl rfl) ?_
    refine s_nilO ?_
    refine q_seqN ?_
    refine s_keep [1, 2, 16] rfl ?_
    first | refine s_condD rfl ?_ ?_ | refine s_condN rfl ?_ ?_ | refine s_condNB rfl ?_ ?_ | refine s_condB rfl ?_ ?_
    · intro h2
      try rw [Decidable.not_not] at h2
      refine S_seq ?_
      refine s_rg ?_
      refine s_op (o_mv rfl) ?_
      refine s_nilO ?_
      refine q_seqN ?_
      refine s_keep [4] rfl ?_
      refine s_ret ?_
      refine q_seqR ?_
      refine ret_leaf (.inr rfl) rfl rfl ?_
      refine congrArg (fun b => V.w (.int .i64 b)) ?_
      unfold Script.sz; (try unfold room at *); omega
    · intro h2
      try rw [Decidable.not_not] at h2
      refine s_skip ?_
      refine q_seqN ?_
      refine s_keep [1, 2] rfl ?_
      refine S_seq ?_
      refine s_rg ?_
      refine s_op (o_faC rfl) ?_
      refine s_op (o_ldC rfl rfl rfl) ?_
      refine s_op (o_mv rfl) ?_
      first | refine s_call rfl rfl (by first | exact (c_148 _ _ (by (try unfold room at *); omega) hw.2.1.1) | exact (c_148 _ _ (by (try unfold room at *); omega) hw.2.2.1)) ?_ | refine s_callL rfl rfl (by simp) (by first | exact (c_148 _ _ (by (try unfold room at *); omega) hw.2.1.1) | exact (c_148 _ _ (by (try unfold room at *); omega) hw.2.2.1)) rfl ?_
      refine s_op (o_mv rfl) ?_
      refine s_nilO ?_
      refine q_seqN ?_
      refine s_keep [1] rfl ?_
      refine S_seq ?_
      refine S_seq ?_
      refine s_rg ?_
      refine s_op (o_mv rfl) ?_
      first | refine s_op (o_lss rfl rfl) ?_ | refine s_op (o_bin rfl rfl rfl rfl) ?_
      refine s_nilO ?_
      refine q_seqN ?_
      refine s_keep [1, 22] rfl ?_
      first | refine s_condD rfl ?_ ?_ | refine s_condN rfl ?_ ?_ | refine s_condNB rfl ?_ ?_ | refine s_condB rfl ?_ ?_
      · intro h3
        try rw [Decidable.not_not] at h3
        refine S_seq ?_
        refine s_rg ?_
        refine s_op (o_mv rfl) ?_
        refine s_nilO ?_
        refine q_seqN ?_
        refine s_keep [4] rfl ?_
        refine s_ret ?_
        refine q_seqR ?_
        refine ret_leaf (.inr rfl) rfl rfl ?_
        refine congrArg (fun b => V.w (.int .i64 b)) ?_
        unfold Script.sz; (try unfold room at *); omega
      · intro h3
        try rw [Decidable.not_not] at h3
        refine s_skip ?_
        refine q_seqN ?_
        refine s_keep [1] rfl ?_
        refine S_seq ?_
        refine s_rg ?_
        refine s_op (o_mv rfl) ?_
        refine s_op (o_mv rfl) ?_
        refine s_nilO ?_
        refine q_seqN ?_
        refine s_keep [4] rfl ?_
        refine s_ret ?_
        refine ret_leaf (.inr rfl) rfl rfl ?_
        refine congrArg (fun b => V.w (.int .i64 b)) ?_
        unfold Script.sz; (try unfold room at *); omega

theorem c_322 (x y : Script) (hs : x.small) : CV prg 322 [.agg x.r, .agg y.r] (fun res => res = .w (.bool (decide (x = y)))) := by
  refine cv_in g322 ?_
  refine s_keep [0, 1] rfl ?_
  refine S_seq ?_
  refine s_rg ?_
  refine s_op (o_box rfl rfl rfl) ?_
  refine s_op (o_box rfl rfl rfl) ?_
  refine s_op (o_mv rfl) ?_
  refine s_nilO ?_
  refine q_seqN ?_
  refine s_keep [2, 3] rfl ?_
  refine S_seq ?_
  refine S_seq ?_
  refine s_rg ?_
  refine s_op (o_faC rfl) ?_
  refine s_op (o_ldC rfl rfl rfl) ?_
  refine s_op (o_faC rfl) ?_
  refine s_op (o_ldC rfl rfl rfl) ?_
  first | refine s_call rfl rfl (c_335 _ _ hs.1 hs.2.1) ?_ | refine s_callL rfl rfl (by simp) (c_335 _ _ hs.1 hs.2.1) rfl ?_
  refine s_op (o_not rfl) ?_
  refine s_nilO ?_
  refine q_seqN ?_
  refine s_keep [2, 3, 10] rfl ?_
  first | refine s_condD rfl ?_ ?_ | refine s_condN rfl ?_ ?_ | refine s_condNB rfl ?_ ?_ | refine s_condB rfl ?_ ?_
  · intro h1
    try rw [Decidable.not_not] at h1
    refine S_seq ?_
    refine s_rg ?_
    refine s_op (o_mv rfl) ?_
    refine s_nilO ?_
    refine q_seqN ?_
    refine s_keep [4] rfl ?_
    refine s_ret ?_
    refine q_seqR ?_
    refine ret_leaf (.inr rfl) rfl rfl ?_
    refine congrArg (fun b => V.w (.bool b)) ?_
    cases x; cases y; simp_all
  · intro h1
    try rw [Decidable.not_not] at h1
    refine s_skip ?_
    refine q_seqN ?_
    refine s_keep [2, 3] rfl ?_
    refine S_seq ?_
    refine S_seq ?_
    refine s_rg ?_
    refine s_op (o_faC rfl) ?_
    refine s_op (o_ldC rfl rfl rfl) ?_
    refine s_op (o_faC rfl) ?_
    refine s_op (o_ldC rfl rfl rfl) ?_
    first | refine s_call rfl rfl (by first | exact (c_132 _ _ hs.2.2.1) | exact (c_132 _ _ hs.2.2.2)) ?_ | refine s_callL rfl rfl (by simp) (by first | exact (c_132 _ _ hs.2.2.1) | exact (c_132 _ _ hs.2.2.2)) rfl ?_
    refine s_op (o_not rfl) ?_
    refine s_nilO ?_
    refine q_seqN ?_
    refine s_keep [2, 3, 16] rfl ?_
    first | refine s_condD rfl ?_ ?_ | refine s_condN rfl ?_ ?_ | refine s_condNB rfl ?_ ?_ | refine s_condB rfl ?_ ?_
    · intro h2
      try rw [Decidable.not_not] at h2
      refine S_seq ?_
      refine s_rg ?_
      refine s_op (o_mv rfl) ?_
      refine s_nilO ?_
      refine q_seqN ?_
      refine s_keep [4] rfl ?_
      refine s_ret ?_
      refine q_seqR ?_
      refine ret_leaf (.inr rfl) rfl rfl ?_
      refine congrArg (fun b => V.w (.bool b)) ?_
      cases x; cases y; simp_all
    · intro h2
      try rw [Decidable.not_not] at h2
      refine s_skip ?_
      refine q_seqN ?_
      refine s_keep [2, 3] rfl ?_
      refine S_seq ?_
      refine S_seq ?_
      refine s_rg ?_
      refine s_op (o_faC rfl) ?_
      refine s_op (o_ldC rfl rfl rfl) ?_
      refine s_op (o_faC rfl) ?_
      refine s_op (o_ldC rfl rfl rfl) ?_
      first | refine s_call rfl rfl (by first | exact (c_132 _ _ hs.2.2.1) | exact (c_132 _ _ hs.2.2.2)) ?_ | refine s_callL rfl rfl (by simp) (by first | exact (c_132 _ _ hs.2.2.1) | exact (c_132 _ _ hs.2.2.2)) rfl ?_
      refine s_op (o_not rfl) ?_
      refine s_nilO ?_
      refine q_seqN ?_
      refine s_keep [22] rfl ?_
      first | refine s_condD rfl ?_ ?_ | refine s_condN rfl ?_ ?_ | refine s_condNB rfl ?_ ?_ | refine s_condB rfl ?_ ?_
      · intro h3
        try rw [Decidable.not_not] at h3
        refine S_seq ?_
        refine s_rg ?_
        refine s_op (o_mv rfl) ?_
        refine s_nilO ?_
        refine q_seqN ?_
        refine s_keep [4] rfl ?_
        refine s_ret ?_
        refine q_seqR ?_
        refine ret_leaf (.inr rfl) rfl rfl ?_
        refine congrArg (fun b => V.w (.bool b)) ?_
        cases x; cases y; simp_all
      · intro h3
        try rw [Decidable.not_not] at h3
        refine s_skip ?_
        refine q_seqN ?_
        refine s_keep [] rfl ?_
        refine S_seq ?_
        refine s_rg ?_
        refine s_op (o_mv rfl) ?_
        refine s_nilO ?_
        refine q_seqN ?_
        refine s_keep [4] rfl ?_
        refine s_ret ?_
        refine ret_leaf (.inr rfl) rfl rfl ?_
        refine congrArg (fun b => V.w (.bool b)) ?_
        cases x; cases y; simp_all

def elem (l : List Int) (k : Int) : Int := if l.length = 0 ∨ k < 0 then 0 else (l[(k.tmod l.length).toNat]?).getD 0
theorem elem_i64 {l : List Int} {k : Int} (h : ∀ y, y ∈ l → i64 y) : i64 (elem l k) := by
  unfold elem
  split
  · unfold AL.i64; omega
  · cases e : l[(k.tmod l.length).toNat]? with
    | none => unfold AL.i64; simp
    | some y => exact h y (List.mem_of_getElem? e)
def Conf.splitAt (c : Conf) (s : Script) (k : Int) : Int := max 1 (min (min (elem s.waits k) 99 + 1) c.maxSplit)

def Dev.small (x : Dev) : Prop := x.regs.length ≤ 1048576 ∧ x.fifo.length ≤ 1048576

def Dev.sz (x : Dev) : Nat := x.regs.length + x.fifo.length

theorem Dev.small_of {x : Dev} (h : x.sz ≤ 1048576) : x.small := ⟨by unfold Dev.sz at h; omega, by unfold Dev.sz at h; omega⟩

def Model.small (x : Model) : Prop := x.ram.length ≤ 1048576 ∧ x.dev.small

def Model.sz (x : Model) : Nat := x.ram.length + x.dev.sz

theorem Model.small_of {x : Model} (h : x.sz ≤ 1048576) : x.small := ⟨by unfold Model.sz at h; omega, Dev.small_of (by unfold Model.sz at h; omega)⟩

def Bus.small (x : Bus) : Prop := x.conf.small ∧ x.ms.length ≤ 1048576 ∧ (∀ y, y ∈ x.ms → Mst.small y) ∧ x.buckets.length ≤ 1048576 ∧ x.splits.length ≤ 1048576 ∧ x.model.small ∧ x.log.length ≤ 1048576

def Bus.sz (x : Bus) : Nat := x.conf.sz + x.ms.length + sumL Mst.sz x.ms + x.buckets.length + x.splits.length + x.model.sz + x.log.length

theorem Bus.small_of {x : Bus} (h : x.sz ≤ 1048576) : x.small := ⟨Conf.small_of (by unfold Bus.sz at h; omega), by unfold Bus.sz at h; omega, fun y hy => Mst.small_of (by have := sumL_mem Mst.sz hy; unfold Bus.sz at h; omega), by unfold Bus.sz at h; omega, by unfold Bus.sz at h; omega, Model.small_of (by unfold Bus.sz at h; omega), by unfold Bus.sz at h; omega⟩

def MConf.beq (x y : MConf) : Bool := ((x.weight == y.weight) && ((x.prio == y.prio) && ((x.every == y.every) && ((x.cap == y.cap) && true))))

theorem MConf.of_beq {x y : MConf} (h : MConf.beq x y = true) : x = y := by
  cases x; cases y; simp_all [MConf.beq]

theorem MConf.no_beq {x y : MConf} (h : MConf.beq x y = false) : x ≠ y := by
  rintro rfl; simp [MConf.beq] at h

theorem MConf.beq_dec (x y : MConf) : MConf.beq x y = decide (x = y) := by
  cases h : MConf.beq x y
  · exact (decide_eq_false (MConf.no_beq h)).symm
  · exact (decide_eq_true (MConf.of_beq h)).symm

def Bucket.beq (x y : Bucket) : Bool := ((x.tokens == y.tokens) && ((x.count == y.count) && true))

theorem Bucket.of_beq {x y : Bucket} (h : Bucket.beq x y = true) : x = y := by
  cases x; cases y; simp_all [Bucket.beq]

theorem Bucket.no_beq {x y : Bucket} (h : Bucket.beq x y = false) : x ≠ y := by
  rintro rfl; simp [Bucket.beq] at h

theorem Bucket.beq_dec (x y : Bucket) : Bucket.beq x y = decide (x = y) := by
  cases h : Bucket.beq x y
  · exact (decide_eq_false (Bucket.no_beq h)).symm
  · exact (decide_eq_true (Bucket.of_beq h)).symm

def Beat.beq (x y : Beat) : Bool := ((x.live == y.live) && ((x.who == y.who) && ((x.num == y.num) && ((x.first == y.first) && ((x.via == y.via) && ((x.left == y.left) && ((x.resp == y.resp) && ((x.second == y.second) && true))))))))

theorem Beat.of_beq {x y : Beat} (h : Beat.beq x y = true) : x = y := by
  cases x; cases y; simp_all [Beat.beq]

theorem Beat.no_beq {x y : Beat} (h : Beat.beq x y = false) : x ≠ y := by
  rintro rfl; simp [Beat.beq] at h

theorem Beat.beq_dec (x y : Beat) : Beat.beq x y = decide (x = y) := by
  cases h : Beat.beq x y
  · exact (decide_eq_false (Beat.no_beq h)).symm
  · exact (decide_eq_true (Beat.of_beq h)).symm

def Wrr.beq (x y : Wrr) : Bool := ((x.pos == y.pos) && ((x.credit == y.credit) && true))

theorem Wrr.of_beq {x y : Wrr} (h : Wrr.beq x y = true) : x = y := by
  cases x; cases y; simp_all [Wrr.beq]

theorem Wrr.no_beq {x y : Wrr} (h : Wrr.beq x y = false) : x ≠ y := by
  rintro rfl; simp [Wrr.beq] at h

theorem Wrr.beq_dec (x y : Wrr) : Wrr.beq x y = decide (x = y) := by
  cases h : Wrr.beq x y
  · exact (decide_eq_false (Wrr.no_beq h)).symm
  · exact (decide_eq_true (Wrr.of_beq h)).symm

structure Bus.parts (x y : Bus) : Prop where
  conf : x.conf = y.conf
  now : x.now = y.now
  ms : x.ms = y.ms
  arb : x.arb = y.arb
  buckets : x.buckets = y.buckets
  splits : x.splits = y.splits
  holder : x.holder = y.holder
  kept : x.kept = y.kept
  last : x.last = y.last
  addr : x.addr = y.addr
  data : x.data = y.data
  model : x.model = y.model
  picks : x.picks = y.picks
  log : x.log = y.log
theorem Bus.of_parts {x y : Bus} (h : Bus.parts x y) : x = y := by
  obtain ⟨h1, h2, h3, h4, h5, h6, h7, h8, h9, h10, h11, h12, h13, h14⟩ := h
  cases x; cases y; simp only at *; subst h1 h2 h3 h4 h5 h6 h7 h8 h9 h10 h11 h12 h13 h14; rfl
theorem Bus.log_dec {x y : Bus} (h : x.log = y.log → Bus.parts x y) : decide (x.log = y.log) = decide (x = y) := by
  by_cases hl : x.log = y.log
  · rw [decide_eq_true hl, decide_eq_true (Bus.of_parts (h hl))]
  · rw [decide_eq_false hl, decide_eq_false (fun e => hl (congrArg Bus.log e))]

def bytes (size : Int) : Int := if inB size 0 2 then (if size = 0 then 1 else if size = 1 then 2 else 4) else 0
def limit (size : Int) : Int := if inB size 0 2 then (if size = 0 then 256 else if size = 1 then 65536 else 4294967296) else 0
def beatsN (b : Int) : Int := if b = 0 then 1 else if b = 3 then 8 else 4
def beats (b : Int) : Int := if inB b 0 3 then beatsN b else 0
theorem in3 {x : Int} (h : inB x 0 2 = true) : x = 0 ∨ x = 1 ∨ x = 2 := by have := inB_t h; omega
theorem in4 {x : Int} (h : inB x 0 3 = true) : x = 0 ∨ x = 1 ∨ x = 2 ∨ x = 3 := by have := inB_t h; omega
theorem bytes_leaf {x : Int} (h : inB x 0 2 = true) : IntKind.wrap .i64 (1 * 2 ^ (min x.toNat IntKind.i64.bits)) = bytes x := by
  unfold bytes; rw [if_pos h]; rcases in3 h with rfl | rfl | rfl <;> decide
theorem bytes_pos {x : Int} (h : inB x 0 2 = true) : bytes x = 1 ∨ bytes x = 2 ∨ bytes x = 4 := by
  unfold bytes; rw [if_pos h]; rcases in3 h with rfl | rfl | rfl <;> simp
theorem bytes_no {x : Int} (h : inB x 0 2 = false) : bytes x = 0 := by unfold bytes; rw [if_neg (by simp [h])]
theorem bytes_z {x : Int} : bytes x = 0 ∧ inB x 0 2 = false ∨ inB x 0 2 = true ∧ (bytes x = 1 ∨ bytes x = 2 ∨ bytes x = 4) := by
  cases h : inB x 0 2 with
  | false => exact .inl ⟨bytes_no h, rfl⟩
  | true => exact .inr ⟨rfl, bytes_pos h⟩
theorem limit_leaf {x : Int} (h : ¬ bytes x = 0) : IntKind.wrap .i64 (1 * 2 ^ (min (IntKind.wrap .i64 (8 * bytes x)).toNat IntKind.i64.bits)) = limit x := by
  rcases bytes_z (x := x) with ⟨h1, _⟩ | ⟨h1, _⟩
  · exact absurd h1 h
  · unfold limit bytes; rw [if_pos h1, if_pos h1]; rcases in3 h1 with rfl | rfl | rfl <;> decide
theorem limit_no {x : Int} (h : bytes x = 0) : limit x = 0 := by
  rcases bytes_z (x := x) with ⟨_, h1⟩ | ⟨_, h1⟩
  · unfold limit; rw [if_neg (by simp [h1])]
  · omega
theorem limit_bd (x : Int) : 0 ≤ limit x ∧ limit x ≤ 4294967296 := by
  unfold limit
  split
  · rename_i h; rcases in3 h with rfl | rfl | rfl <;> simp
  · simp
theorem beats_row {b : Int} {t : IntKind} (h : inB b 0 3 = true) : [[V.w (.int .i64 1)], [V.w (.int .i64 4)], [V.w (.int .i64 4)], [V.w (.int .i64 8)]][b.toNat]? = some [V.w (.int .i64 (beatsN b))] := by
  rcases in4 h with rfl | rfl | rfl | rfl <;> rfl
theorem beats_bd (b : Int) : 0 ≤ beats b ∧ beats b ≤ 8 := by
  unfold beats
  split
  · rename_i h; rcases in4 h with rfl | rfl | rfl | rfl <;> simp [beatsN]
  · simp
def aligned (a size : Int) : Bool := inB size 0 2 && decide (0 ≤ a) && decide (a.tmod (bytes size) = 0)
def nextA (a size burst : Int) : Int :=
  if aligned a size && decide (a < 512) && decide (beats burst ≠ 0) then
    (if burst = 2 ∧ (a + bytes size).tmod (4 * bytes size) = 0 then a + bytes size - 4 * bytes size else a + bytes size)
  else -1

theorem c_33 (size : Int) : CV prg 33 [.w (.int .i64 size)] (fun res => res = .w (.int .i64 (bytes size))) := by
  refine cv_in g33 ?_
  refine s_keep [0] rfl ?_
  refine S_seq ?_
  refine s_rg ?_
  refine s_op (o_mv rfl) ?_
  refine s_nilO ?_
  refine q_seqN ?_
  refine s_keep [0] rfl ?_
  refine S_seq ?_
  refine S_seq ?_
  refine s_rg ?_
  refine s_op (o_mv rfl) ?_
  refine s_call rfl rfl (c_103 ..) ?_
  refine s_op (o_not rfl) ?_
  refine s_nilO ?_
  refine q_seqN ?_
  refine s_keep [0, 5] rfl ?_
  first | refine s_condD rfl ?_ ?_ | refine s_condN rfl ?_ ?_ | refine s_condNB rfl ?_ ?_ | refine s_condB rfl ?_ ?_
  · intro h1
    try rw [Decidable.not_not] at h1
    try have h1' := inB_t h1
    refine S_seq ?_
    refine s_rg ?_
    refine s_op (o_mv rfl) ?_
    refine s_nilO ?_
    refine q_seqN ?_
    refine s_keep [2] rfl ?_
    refine s_ret ?_
    refine q_seqR ?_
    refine ret_leaf (.inr rfl) rfl rfl ?_
    refine congrArg (fun b => V.w (.int .i64 b)) ?_
    first | exact bytes_leaf (by assumption) | exact (bytes_no (by assumption)).symm
  · intro h1
    try rw [Decidable.not_not] at h1
    try have h1' := inB_t h1
    refine s_skip ?_
    refine q_seqN ?_
    refine s_keep [0] rfl ?_
    refine S_seq ?_
    refine s_rg ?_
    refine s_op (o_mv rfl) ?_
    refine s_op (o_shl rfl rfl (by omega)) ?_
    refine s_op (o_mv rfl) ?_
    refine s_nilO ?_
    refine q_seqN ?_
    refine s_keep [2] rfl ?_
    refine s_ret ?_
    refine ret_leaf (.inr rfl) rfl rfl ?_
    refine congrArg (fun b => V.w (.int .i64 b)) ?_
    first | exact bytes_leaf (by assumption) | exact (bytes_no (by assumption)).symm

theorem c_183 (size : Int) : CV prg 183 [.w (.int .i64 size)] (fun res => res = .w (.int .i64 (bytes size))) := by
  refine cv_in g183 ?_
  refine s_keep [0] rfl ?_
  refine S_seq ?_
  refine s_rg ?_
  refine s_op (o_mv rfl) ?_
  refine s_nilO ?_
  refine q_seqN ?_
  refine s_keep [0] rfl ?_
  refine S_seq ?_
  refine S_seq ?_
  refine s_rg ?_
  refine s_op (o_mv rfl) ?_
  refine s_call rfl rfl (c_230 ..) ?_
  refine s_op (o_not rfl) ?_
  refine s_nilO ?_
  refine q_seqN ?_
  refine s_keep [0, 5] rfl ?_
  first | refine s_condD rfl ?_ ?_ | refine s_condN rfl ?_ ?_ | refine s_condNB rfl ?_ ?_ | refine s_condB rfl ?_ ?_
  · intro h1
    try rw [Decidable.not_not] at h1
    try have h1' := inB_t h1
    refine S_seq ?_
    refine s_rg ?_
    refine s_op (o_mv rfl) ?_
    refine s_nilO ?_
    refine q_seqN ?_
    refine s_keep [2] rfl ?_
    refine s_ret ?_
    refine q_seqR ?_
    refine ret_leaf (.inr rfl) rfl rfl ?_
    refine congrArg (fun b => V.w (.int .i64 b)) ?_
    first | exact bytes_leaf (by assumption) | exact (bytes_no (by assumption)).symm
  · intro h1
    try rw [Decidable.not_not] at h1
    try have h1' := inB_t h1
    refine s_skip ?_
    refine q_seqN ?_
    refine s_keep [0] rfl ?_
    refine S_seq ?_
    refine s_rg ?_
    refine s_op (o_mv rfl) ?_
    refine s_op (o_shl rfl rfl (by omega)) ?_
    refine s_op (o_mv rfl) ?_
    refine s_nilO ?_
    refine q_seqN ?_
    refine s_keep [2] rfl ?_
    refine s_ret ?_
    refine ret_leaf (.inr rfl) rfl rfl ?_
    refine congrArg (fun b => V.w (.int .i64 b)) ?_
    first | exact bytes_leaf (by assumption) | exact (bytes_no (by assumption)).symm

theorem c_22 (b : Int) : CV prg 22 [.w (.int .i64 b)] (fun res => res = .w (.int .i64 (beats b))) := by
  refine cv_in g22 ?_
  refine s_keep [0] rfl ?_
  refine S_seq ?_
  refine s_rg ?_
  refine s_op (o_mv rfl) ?_
  refine s_nilO ?_
  refine q_seqN ?_
  refine s_keep [0] rfl ?_
  refine S_seq ?_
  refine S_seq ?_
  refine s_rg ?_
  refine s_op (o_mv rfl) ?_
  refine s_call rfl rfl (c_103 ..) ?_
  refine s_op (o_not rfl) ?_
  refine s_nilO ?_
  refine q_seqN ?_
  refine s_keep [0, 5] rfl ?_
  first | refine s_condD rfl ?_ ?_ | refine s_condN rfl ?_ ?_ | refine s_condNB rfl ?_ ?_ | refine s_condB rfl ?_ ?_
  · intro h1
    try rw [Decidable.not_not] at h1
    try have h1' := inB_t h1
    refine S_seq ?_
    refine s_rg ?_
    refine s_op (o_mv rfl) ?_
    refine s_nilO ?_
    refine q_seqN ?_
    refine s_keep [2] rfl ?_
    refine s_ret ?_
    refine q_seqR ?_
    refine ret_leaf (.inr rfl) rfl rfl ?_
    refine congrArg (fun b => V.w (.int .i64 b)) ?_
    simp_all [beats]
  · intro h1
    try rw [Decidable.not_not] at h1
    try have h1' := inB_t h1
    refine s_skip ?_
    refine q_seqN ?_
    refine s_keep [0] rfl ?_
    refine S_seq ?_
    refine s_rg ?_
    refine s_op (o_bs rfl rfl rfl rfl) ?_
    refine s_op (o_mv rfl) ?_
    refine s_op (o_iaL rfl rfl rfl rfl (by simp; omega)) ?_
    refine s_op (o_ldA rfl rfl rfl (beats_row (t := .i64) (by assumption)) rfl) ?_
    refine s_op (o_mv rfl) ?_
    refine s_nilO ?_
    refine q_seqN ?_
    refine s_keep [2] rfl ?_
    refine s_ret ?_
    refine ret_leaf (.inr rfl) rfl rfl ?_
    refine congrArg (fun b => V.w (.int .i64 b)) ?_
    simp_all [beats]

theorem c_173 (b : Int) : CV prg 173 [.w (.int .i64 b)] (fun res => res = .w (.int .i64 (beats b))) := by
  refine cv_in g173 ?_
  refine s_keep [0] rfl ?_
  refine S_seq ?_
  refine s_rg ?_
  refine s_op (o_mv rfl) ?_
  refine s_nilO ?_
  refine q_seqN ?_
  refine s_keep [0] rfl ?_
  refine S_seq ?_
  refine S_seq ?_
  refine s_rg ?_
  refine s_op (o_mv rfl) ?_
  refine s_call rfl rfl (c_230 ..) ?_
  refine s_op (o_not rfl) ?_
  refine s_nilO ?_
  refine q_seqN ?_
  refine s_keep [0, 5] rfl ?_
  first | refine s_condD rfl ?_ ?_ | refine s_condN rfl ?_ ?_ | refine s_condNB rfl ?_ ?_ | refine s_condB rfl ?_ ?_
  · intro h1
    try rw [Decidable.not_not] at h1
    try have h1' := inB_t h1
    refine S_seq ?_
    refine s_rg ?_
    refine s_op (o_mv rfl) ?_
    refine s_nilO ?_
    refine q_seqN ?_
    refine s_keep [2] rfl ?_
    refine s_ret ?_
    refine q_seqR ?_
    refine ret_leaf (.inr rfl) rfl rfl ?_
    refine congrArg (fun b => V.w (.int .i64 b)) ?_
    simp_all [beats]
  · intro h1
    try rw [Decidable.not_not] at h1
    try have h1' := inB_t h1
    refine s_skip ?_
    refine q_seqN ?_
    refine s_keep [0] rfl ?_
    refine S_seq ?_
    refine s_rg ?_
    refine s_op (o_bs rfl rfl rfl rfl) ?_
    refine s_op (o_mv rfl) ?_
    refine s_op (o_iaL rfl rfl rfl rfl (by simp; omega)) ?_
    refine s_op (o_ldA rfl rfl rfl (beats_row (t := .i64) (by assumption)) rfl) ?_
    refine s_op (o_mv rfl) ?_
    refine s_nilO ?_
    refine q_seqN ?_
    refine s_keep [2] rfl ?_
    refine s_ret ?_
    refine ret_leaf (.inr rfl) rfl rfl ?_
    refine congrArg (fun b => V.w (.int .i64 b)) ?_
    simp_all [beats]

theorem c_51 (size : Int) : CV prg 51 [.w (.int .i64 size)] (fun res => res = .w (.int .i64 (limit size))) := by
  have hz := bytes_z (x := size)
  refine cv_in g51 ?_
  refine s_keep [0] rfl ?_
  refine S_seq ?_
  refine s_rg ?_
  refine s_op (o_mv rfl) ?_
  refine s_nilO ?_
  refine q_seqN ?_
  refine s_keep [0] rfl ?_
  refine S_seq ?_
  refine S_seq ?_
  refine s_rg ?_
  refine s_op (o_mv rfl) ?_
  refine s_call rfl rfl (c_33 ..) ?_
  first | refine s_op (o_eql rfl rfl) ?_ | refine s_op (o_bin rfl rfl rfl rfl) ?_
  refine s_nilO ?_
  refine q_seqN ?_
  refine s_keep [0, 5] rfl ?_
  first | refine s_condD rfl ?_ ?_ | refine s_condN rfl ?_ ?_ | refine s_condNB rfl ?_ ?_ | refine s_condB rfl ?_ ?_
  · intro h1
    try rw [Decidable.not_not] at h1
    refine S_seq ?_
    refine s_rg ?_
    refine s_op (o_mv rfl) ?_
    refine s_nilO ?_
    refine q_seqN ?_
    refine s_keep [2] rfl ?_
    refine s_ret ?_
    refine q_seqR ?_
    refine ret_leaf (.inr rfl) rfl rfl ?_
    refine congrArg (fun b => V.w (.int .i64 b)) ?_
    first | exact limit_leaf (by assumption) | exact (limit_no (by assumption)).symm
  · intro h1
    try rw [Decidable.not_not] at h1
    refine s_skip ?_
    refine q_seqN ?_
    refine s_keep [0] rfl ?_
    refine S_seq ?_
    refine s_rg ?_
    refine s_op (o_mv rfl) ?_
    refine s_call rfl rfl (c_33 ..) ?_
    refine s_op (o_mul rfl rfl) ?_
    refine s_op (o_shl rfl rfl (by rw [wrap_in _ (by omega)]; omega)) ?_
    refine s_op (o_mv rfl) ?_
    refine s_nilO ?_
    refine q_seqN ?_
    refine s_keep [2] rfl ?_
    refine s_ret ?_
    refine ret_leaf (.inr rfl) rfl rfl ?_
    refine congrArg (fun b => V.w (.int .i64 b)) ?_
    first | exact limit_leaf (by assumption) | exact (limit_no (by assumption)).symm

theorem c_201 (size : Int) : CV prg 201 [.w (.int .i64 size)] (fun res => res = .w (.int .i64 (limit size))) := by
  have hz := bytes_z (x := size)
  refine cv_in g201 ?_
  refine s_keep [0] rfl ?_
  refine S_seq ?_
  refine s_rg ?_
  refine s_op (o_mv rfl) ?_
  refine s_nilO ?_
  refine q_seqN ?_
  refine s_keep [0] rfl ?_
  refine S_seq ?_
  refine S_seq ?_
  refine s_rg ?_
  refine s_op (o_mv rfl) ?_
  refine s_call rfl rfl (c_183 ..) ?_
  first | refine s_op (o_eql rfl rfl) ?_ | refine s_op (o_bin rfl rfl rfl rfl) ?_
  refine s_nilO ?_
  refine q_seqN ?_
  refine s_keep [0, 5] rfl ?_
  first | refine s_condD rfl ?_ ?_ | refine s_condN rfl ?_ ?_ | refine s_condNB rfl ?_ ?_ | refine s_condB rfl ?_ ?_
  · intro h1
    try rw [Decidable.not_not] at h1
    refine S_seq ?_
    refine s_rg ?_
    refine s_op (o_mv rfl) ?_
    refine s_nilO ?_
    refine q_seqN ?_
    refine s_keep [2] rfl ?_
    refine s_ret ?_
    refine q_seqR ?_
    refine ret_leaf (.inr rfl) rfl rfl ?_
    refine congrArg (fun b => V.w (.int .i64 b)) ?_
    first | exact limit_leaf (by assumption) | exact (limit_no (by assumption)).symm
  · intro h1
    try rw [Decidable.not_not] at h1
    refine s_skip ?_
    refine q_seqN ?_
    refine s_keep [0] rfl ?_
    refine S_seq ?_
    refine s_rg ?_
    refine s_op (o_mv rfl) ?_
    refine s_call rfl rfl (c_183 ..) ?_
    refine s_op (o_mul rfl rfl) ?_
    refine s_op (o_shl rfl rfl (by rw [wrap_in _ (by omega)]; omega)) ?_
    refine s_op (o_mv rfl) ?_
    refine s_nilO ?_
    refine q_seqN ?_
    refine s_keep [2] rfl ?_
    refine s_ret ?_
    refine ret_leaf (.inr rfl) rfl rfl ?_
    refine congrArg (fun b => V.w (.int .i64 b)) ?_
    first | exact limit_leaf (by assumption) | exact (limit_no (by assumption)).symm

theorem c_92 (v size : Int) : CV prg 92 [.w (.int .i64 v), .w (.int .i64 size)] (fun res => res = .w (.bool (inB v 0 (limit size - 1)))) := by
  have hz := limit_bd size
  refine cv_in g92 ?_
  refine s_keep [0, 1] rfl ?_
  refine S_seq ?_
  refine s_rg ?_
  refine s_op (o_mv rfl) ?_
  refine s_nilO ?_
  refine q_seqN ?_
  refine s_keep [0, 1] rfl ?_
  refine S_seq ?_
  refine s_rg ?_
  refine s_op (o_mv rfl) ?_
  refine s_op (o_mv rfl) ?_
  refine s_call rfl rfl (c_51 ..) ?_
  first | refine s_op (o_subn rfl rfl (by omega)) ?_ | refine s_op (o_sub rfl rfl) ?_
  refine s_call rfl rfl (c_103 ..) ?_
  refine s_op (o_mv rfl) ?_
  refine s_nilO ?_
  refine q_seqN ?_
  refine s_keep [4] rfl ?_
  refine s_ret ?_
  refine ret_leaf (.inr rfl) rfl rfl ?_
  refine congrArg (fun b => V.w (.bool b)) ?_
  rfl

theorem c_21 (a size : Int) : CV prg 21 [.w (.int .i64 a), .w (.int .i64 size)] (fun res => res = .w (.bool (aligned a size))) := by
  have hz := bytes_z (x := size)
  refine cv_in g21 ?_
  refine s_keep [0, 1] rfl ?_
  refine S_seq ?_
  refine s_rg ?_
  refine s_op (o_mv rfl) ?_
  refine s_nilO ?_
  refine q_seqN ?_
  refine s_keep [0, 1] rfl ?_
  refine S_seq ?_
  refine s_rg ?_
  refine s_op (o_mv rfl) ?_
  refine s_call rfl rfl (c_103 ..) ?_
  refine s_op (o_mv rfl) ?_
  first | refine s_gDT rfl ?_ ?_ | refine s_gNDT rfl ?_ ?_ | refine s_gNT rfl ?_ ?_ | refine s_gB rfl ?_ ?_
  · intro h1
    try rw [Decidable.not_not] at h1
    try (have h1' := hz; rw [h1] at h1'; simp at h1')
    refine s_op (o_mv rfl) ?_
    refine s_gT rfl ?_
    first | refine s_op (o_geq rfl rfl) ?_ | refine s_op (o_bin rfl rfl rfl rfl) ?_
    refine s_op (o_pickT rfl rfl) ?_
    refine s_op (o_mv rfl) ?_
    first | refine s_gDT rfl ?_ ?_ | refine s_gNDT rfl ?_ ?_ | refine s_gNT rfl ?_ ?_ | refine s_gB rfl ?_ ?_
    · intro h2
      try rw [Decidable.not_not] at h2
      try (have h2' := hz; rw [h2] at h2'; simp at h2')
      refine s_op (o_mv rfl) ?_
      refine s_gT rfl ?_
      refine s_op (o_mv rfl) ?_
      refine s_gT rfl ?_
      refine s_call rfl rfl (c_33 ..) ?_
      refine s_gT rfl ?_
      first | refine s_op (o_rem rfl rfl (by decide)) ?_ | refine s_op (o_rem rfl rfl (by omega)) ?_
      refine s_gT rfl ?_
      first | refine s_op (o_eql rfl rfl) ?_ | refine s_op (o_bin rfl rfl rfl rfl) ?_
      refine s_op (o_pickT rfl rfl) ?_
      refine s_op (o_mv rfl) ?_
      refine s_nilO ?_
      refine q_seqN ?_
      refine s_keep [4] rfl ?_
      refine s_ret ?_
      refine ret_leaf (.inr rfl) rfl rfl ?_
      refine congrArg (fun b => V.w (.bool b)) ?_
      first | (simp_all [aligned]; done) | (simp_all [aligned] <;> omega)
    · intro h2
      try rw [Decidable.not_not] at h2
      try (have h2' := hz; rw [h2] at h2'; simp at h2')
      refine s_gF rfl ?_
      refine s_gF rfl ?_
      refine s_gF rfl ?_
      refine s_gF rfl ?_
      refine s_gF rfl ?_
      refine s_op (o_pickF rfl rfl) ?_
      refine s_op (o_mv rfl) ?_
      refine s_nilO ?_
      refine q_seqN ?_
      refine s_keep [4] rfl ?_
      refine s_ret ?_
      refine ret_leaf (.inr rfl) rfl rfl ?_
      refine congrArg (fun b => V.w (.bool b)) ?_
      first | (simp_all [aligned]; done) | (simp_all [aligned] <;> omega)
  · intro h1
    try rw [Decidable.not_not] at h1
    try (have h1' := hz; rw [h1] at h1'; simp at h1')
    refine s_gF rfl ?_
    refine s_gF rfl ?_
    refine s_op (o_pickF rfl rfl) ?_
    refine s_op (o_mv rfl) ?_
    refine s_gF rfl ?_
    refine s_gF rfl ?_
    refine s_gF rfl ?_
    refine s_gF rfl ?_
    refine s_gF rfl ?_
    refine s_op (o_pickF rfl rfl) ?_
    refine s_op (o_mv rfl) ?_
    refine s_nilO ?_
    refine q_seqN ?_
    refine s_keep [4] rfl ?_
    refine s_ret ?_
    refine ret_leaf (.inr rfl) rfl rfl ?_
    refine congrArg (fun b => V.w (.bool b)) ?_
    first | (simp_all [aligned]; done) | (simp_all [aligned] <;> omega)

theorem c_172 (a size : Int) : CV prg 172 [.w (.int .i64 a), .w (.int .i64 size)] (fun res => res = .w (.bool (aligned a size))) := by
  have hz := bytes_z (x := size)
  refine cv_in g172 ?_
  refine s_keep [0, 1] rfl ?_
  refine S_seq ?_
  refine s_rg ?_
  refine s_op (o_mv rfl) ?_
  refine s_nilO ?_
  refine q_seqN ?_
  refine s_keep [0, 1] rfl ?_
  refine S_seq ?_
  refine s_rg ?_
  refine s_op (o_mv rfl) ?_
  refine s_call rfl rfl (c_183 ..) ?_
  first | refine s_op (o_gtr rfl rfl) ?_ | refine s_op (o_bin rfl rfl rfl rfl) ?_
  refine s_op (o_mv rfl) ?_
  first | refine s_gDT rfl ?_ ?_ | refine s_gNDT rfl ?_ ?_ | refine s_gNT rfl ?_ ?_ | refine s_gB rfl ?_ ?_
  · intro h1
    try rw [Decidable.not_not] at h1
    refine s_op (o_mv rfl) ?_
    refine s_gT rfl ?_
    first | refine s_op (o_geq rfl rfl) ?_ | refine s_op (o_bin rfl rfl rfl rfl) ?_
    refine s_op (o_pickT rfl rfl) ?_
    refine s_op (o_mv rfl) ?_
    first | refine s_gDT rfl ?_ ?_ | refine s_gNDT rfl ?_ ?_ | refine s_gNT rfl ?_ ?_ | refine s_gB rfl ?_ ?_
    · intro h2
      try rw [Decidable.not_not] at h2
      refine s_op (o_mv rfl) ?_
      refine s_gT rfl ?_
      refine s_op (o_mv rfl) ?_
      refine s_gT rfl ?_
      refine s_call rfl rfl (c_183 ..) ?_
      refine s_gT rfl ?_
      first | refine s_op (o_rem rfl rfl (by decide)) ?_ | refine s_op (o_rem rfl rfl (by omega)) ?_
      refine s_gT rfl ?_
      first | refine s_op (o_eql rfl rfl) ?_ | refine s_op (o_bin rfl rfl rfl rfl) ?_
      refine s_op (o_pickT rfl rfl) ?_
      refine s_op (o_mv rfl) ?_
      refine s_nilO ?_
      refine q_seqN ?_
      refine s_keep [4] rfl ?_
      refine s_ret ?_
      refine ret_leaf (.inr rfl) rfl rfl ?_
      refine congrArg (fun b => V.w (.bool b)) ?_
      first | (rcases hz with ⟨h8, h9⟩ | ⟨h8, h9⟩ <;> simp_all [aligned]; done) | (rcases hz with ⟨h8, h9⟩ | ⟨h8, h9⟩ <;> simp_all [aligned] <;> omega)
    · intro h2
      try rw [Decidable.not_not] at h2
      refine s_gF rfl ?_
      refine s_gF rfl ?_
      refine s_gF rfl ?_
      refine s_gF rfl ?_
      refine s_gF rfl ?_
      refine s_op (o_pickF rfl rfl) ?_
      refine s_op (o_mv rfl) ?_
      refine s_nilO ?_
      refine q_seqN ?_
      refine s_keep [4] rfl ?_
      refine s_ret ?_
      refine ret_leaf (.inr rfl) rfl rfl ?_
      refine congrArg (fun b => V.w (.bool b)) ?_
      first | (rcases hz with ⟨h8, h9⟩ | ⟨h8, h9⟩ <;> simp_all [aligned]; done) | (rcases hz with ⟨h8, h9⟩ | ⟨h8, h9⟩ <;> simp_all [aligned] <;> omega)
  · intro h1
    try rw [Decidable.not_not] at h1
    refine s_gF rfl ?_
    refine s_gF rfl ?_
    refine s_op (o_pickF rfl rfl) ?_
    refine s_op (o_mv rfl) ?_
    refine s_gF rfl ?_
    refine s_gF rfl ?_
    refine s_gF rfl ?_
    refine s_gF rfl ?_
    refine s_gF rfl ?_
    refine s_op (o_pickF rfl rfl) ?_
    refine s_op (o_mv rfl) ?_
    refine s_nilO ?_
    refine q_seqN ?_
    refine s_keep [4] rfl ?_
    refine s_ret ?_
    refine ret_leaf (.inr rfl) rfl rfl ?_
    refine congrArg (fun b => V.w (.bool b)) ?_
    first | (rcases hz with ⟨h8, h9⟩ | ⟨h8, h9⟩ <;> simp_all [aligned]; done) | (rcases hz with ⟨h8, h9⟩ | ⟨h8, h9⟩ <;> simp_all [aligned] <;> omega)

theorem aligned_t {a s : Int} (h : aligned a s = true) : inB s 0 2 = true ∧ 0 ≤ a ∧ (bytes s = 1 ∨ bytes s = 2 ∨ bytes s = 4) := by
  simp only [aligned, Bool.and_eq_true, decide_eq_true_eq] at h
  exact ⟨h.1.1, h.1.2, bytes_pos h.1.1⟩

theorem c_60 (a size burst : Int) : CV prg 60 [.w (.int .i64 a), .w (.int .i64 size), .w (.int .i64 burst)] (fun res => res = .w (.int .i64 (nextA a size burst))) := by
  refine cv_in g60 ?_
  refine s_keep [0, 1, 2] rfl ?_
  refine S_seq ?_
  refine s_rg ?_
  refine s_op (o_mv rfl) ?_
  refine s_nilO ?_
  refine q_seqN ?_
  refine s_keep [0, 1, 2] rfl ?_
  refine S_seq ?_
  refine S_seq ?_
  refine s_rg ?_
  refine s_op (o_mv rfl) ?_
  refine s_op (o_mv rfl) ?_
  refine s_call rfl rfl (c_21 ..) ?_
  refine s_op (o_not rfl) ?_
  refine s_op (o_mv rfl) ?_
  first | refine s_gDF rfl ?_ ?_ | refine s_gNDF rfl ?_ ?_ | refine s_gNF rfl ?_ ?_ | refine s_gB rfl ?_ ?_
  · intro h1
    try rw [Decidable.not_not] at h1
    try have h1' := aligned_t h1
    try have h1' := inB_t h1
    try have h1' := inB_f h1
    refine s_op (o_mv rfl) ?_
    refine s_gT rfl ?_
    first | refine s_op (o_geq rfl rfl) ?_ | refine s_op (o_bin rfl rfl rfl rfl) ?_
    refine s_op (o_pickF rfl rfl) ?_
    refine s_op (o_mv rfl) ?_
    first | refine s_gDF rfl ?_ ?_ | refine s_gNDF rfl ?_ ?_ | refine s_gNF rfl ?_ ?_ | refine s_gB rfl ?_ ?_
    · intro h2
      try rw [Decidable.not_not] at h2
      try have h2' := aligned_t h2
      try have h2' := inB_t h2
      try have h2' := inB_f h2
      refine s_op (o_mv rfl) ?_
      refine s_gT rfl ?_
      refine s_call rfl rfl (c_22 ..) ?_
      refine s_gT rfl ?_
      first | refine s_op (o_eql rfl rfl) ?_ | refine s_op (o_bin rfl rfl rfl rfl) ?_
      refine s_op (o_pickF rfl rfl) ?_
      refine s_nilO ?_
      refine q_seqN ?_
      refine s_keep [0, 1, 2, 21] rfl ?_
      first | refine s_condD rfl ?_ ?_ | refine s_condN rfl ?_ ?_ | refine s_condNB rfl ?_ ?_ | refine s_condB rfl ?_ ?_
      · intro h3
        try rw [Decidable.not_not] at h3
        try have h3' := aligned_t h3
        try have h3' := inB_t h3
        try have h3' := inB_f h3
        refine S_seq ?_
        refine s_rg ?_
        refine s_op (o_mv rfl) ?_
        refine s_nilO ?_
        refine q_seqN ?_
        refine s_keep [6] rfl ?_
        refine s_ret ?_
        refine q_seqR ?_
        refine ret_leaf (.inr rfl) rfl rfl ?_
        refine congrArg (fun b => V.w (.int .i64 b)) ?_
        first | (simp_all [nextA]; done) | (simp_all [nextA] <;> omega)
      · intro h3
        try rw [Decidable.not_not] at h3
        try have h3' := aligned_t h3
        try have h3' := inB_t h3
        try have h3' := inB_f h3
        refine s_skip ?_
        refine q_seqN ?_
        refine s_keep [0, 1, 2] rfl ?_
        refine S_seq ?_
        refine s_rg ?_
        refine s_op (o_mv rfl) ?_
        refine s_op (o_mv rfl) ?_
        refine s_call rfl rfl (c_33 ..) ?_
        first | refine s_op (o_addn rfl rfl (by omega)) ?_ | refine s_op (o_add rfl rfl) ?_
        refine s_op (o_mv rfl) ?_
        refine s_call rfl rfl (c_33 ..) ?_
        first | refine s_op (o_muln rfl rfl (by omega)) ?_ | refine s_op (o_mul rfl rfl) ?_
        refine s_op (o_mv rfl) ?_
        refine s_op (o_mv rfl) ?_
        refine s_nilO ?_
        refine q_seqN ?_
        refine s_keep [2, 7, 8] rfl ?_
        refine S_seq ?_
        refine S_seq ?_
        refine s_rg ?_
        refine s_op (o_mv rfl) ?_
        first | refine s_op (o_eql rfl rfl) ?_ | refine s_op (o_bin rfl rfl rfl rfl) ?_
        refine s_op (o_mv rfl) ?_
        first | refine s_gDT rfl ?_ ?_ | refine s_gNDT rfl ?_ ?_ | refine s_gNT rfl ?_ ?_ | refine s_gB rfl ?_ ?_
        · intro h4
          try rw [Decidable.not_not] at h4
          try have h4' := aligned_t h4
          try have h4' := inB_t h4
          try have h4' := inB_f h4
          refine s_op (o_mv rfl) ?_
          refine s_gT rfl ?_
          refine s_op (o_mv rfl) ?_
          refine s_gT rfl ?_
          first | refine s_op (o_rem rfl rfl (by decide)) ?_ | refine s_op (o_rem rfl rfl (by omega)) ?_
          refine s_gT rfl ?_
          first | refine s_op (o_eql rfl rfl) ?_ | refine s_op (o_bin rfl rfl rfl rfl) ?_
          refine s_op (o_pickT rfl rfl) ?_
          refine s_nilO ?_
          refine q_seqN ?_
          refine s_keep [7, 8, 36] rfl ?_
          first | refine s_condD rfl ?_ ?_ | refine s_condN rfl ?_ ?_ | refine s_condNB rfl ?_ ?_ | refine s_condB rfl ?_ ?_
          · intro h5
            try rw [Decidable.not_not] at h5
            try have h5' := aligned_t h5
            try have h5' := inB_t h5
            try have h5' := inB_f h5
            refine s_rg ?_
            refine s_op (o_mv rfl) ?_
            refine s_op (o_mv rfl) ?_
            first | refine s_op (o_subn rfl rfl (by omega)) ?_ | refine s_op (o_sub rfl rfl) ?_
            refine s_op (o_mv rfl) ?_
            refine s_nilO ?_
            refine q_seqN ?_
            refine s_keep [7] rfl ?_
            refine S_seq ?_
            refine s_rg ?_
            refine s_op (o_mv rfl) ?_
            refine s_op (o_mv rfl) ?_
            refine s_nilO ?_
            refine q_seqN ?_
            refine s_keep [6] rfl ?_
            refine s_ret ?_
            refine ret_leaf (.inr rfl) rfl rfl ?_
            refine congrArg (fun b => V.w (.int .i64 b)) ?_
            first | (simp_all [nextA]; done) | (simp_all [nextA] <;> omega)
          · intro h5
            try rw [Decidable.not_not] at h5
            try have h5' := aligned_t h5
            try have h5' := inB_t h5
            try have h5' := inB_f h5
            refine s_skip ?_
            refine q_seqN ?_
            refine s_keep [7] rfl ?_
            refine S_seq ?_
            refine s_rg ?_
            refine s_op (o_mv rfl) ?_
            refine s_op (o_mv rfl) ?_
            refine s_nilO ?_
            refine q_seqN ?_
            refine s_keep [6] rfl ?_
            refine s_ret ?_
            refine ret_leaf (.inr rfl) rfl rfl ?_
            refine congrArg (fun b => V.w (.int .i64 b)) ?_
            first | (simp_all [nextA]; done) | (simp_all [nextA] <;> omega)
        · intro h4
          try rw [Decidable.not_not] at h4
          try have h4' := aligned_t h4
          try have h4' := inB_t h4
          try have h4' := inB_f h4
          refine s_gF rfl ?_
          refine s_gF rfl ?_
          refine s_gF rfl ?_
          refine s_gF rfl ?_
          refine s_op (o_pickF rfl rfl) ?_
          refine s_nilO ?_
          refine q_seqN ?_
          refine s_keep [7, 8, 36] rfl ?_
          refine s_condF rfl ?_
          refine s_skip ?_
          refine q_seqN ?_
          refine s_keep [7] rfl ?_
          refine S_seq ?_
          refine s_rg ?_
          refine s_op (o_mv rfl) ?_
          refine s_op (o_mv rfl) ?_
          refine s_nilO ?_
          refine q_seqN ?_
          refine s_keep [6] rfl ?_
          refine s_ret ?_
          refine ret_leaf (.inr rfl) rfl rfl ?_
          refine congrArg (fun b => V.w (.int .i64 b)) ?_
          first | (simp_all [nextA]; done) | (simp_all [nextA] <;> omega)
    · intro h2
      try rw [Decidable.not_not] at h2
      try have h2' := aligned_t h2
      try have h2' := inB_t h2
      try have h2' := inB_f h2
      refine s_gF rfl ?_
      refine s_gF rfl ?_
      refine s_gF rfl ?_
      refine s_op (o_pickT rfl rfl) ?_
      refine s_nilO ?_
      refine q_seqN ?_
      refine s_keep [0, 1, 2, 21] rfl ?_
      refine s_condT rfl ?_
      refine S_seq ?_
      refine s_rg ?_
      refine s_op (o_mv rfl) ?_
      refine s_nilO ?_
      refine q_seqN ?_
      refine s_keep [6] rfl ?_
      refine s_ret ?_
      refine q_seqR ?_
      refine ret_leaf (.inr rfl) rfl rfl ?_
      refine congrArg (fun b => V.w (.int .i64 b)) ?_
      first | (simp_all [nextA]; done) | (simp_all [nextA] <;> omega)
  · intro h1
    try rw [Decidable.not_not] at h1
    try have h1' := aligned_t h1
    try have h1' := inB_t h1
    try have h1' := inB_f h1
    refine s_gF rfl ?_
    refine s_gF rfl ?_
    refine s_op (o_pickT rfl rfl) ?_
    refine s_op (o_mv rfl) ?_
    refine s_gF rfl ?_
    refine s_gF rfl ?_
    refine s_gF rfl ?_
    refine s_op (o_pickT rfl rfl) ?_
    refine s_nilO ?_
    refine q_seqN ?_
    refine s_keep [0, 1, 2, 21] rfl ?_
    refine s_condT rfl ?_
    refine S_seq ?_
    refine s_rg ?_
    refine s_op (o_mv rfl) ?_
    refine s_nilO ?_
    refine q_seqN ?_
    refine s_keep [6] rfl ?_
    refine s_ret ?_
    refine q_seqR ?_
    refine ret_leaf (.inr rfl) rfl rfl ?_
    refine congrArg (fun b => V.w (.int .i64 b)) ?_
    first | (simp_all [nextA]; done) | (simp_all [nextA] <;> omega)

theorem c_205 (a size burst : Int) : CV prg 205 [.w (.int .i64 a), .w (.int .i64 size), .w (.int .i64 burst)] (fun res => res = .w (.int .i64 (nextA a size burst))) := by
  refine cv_in g205 ?_
  refine s_keep [0, 1, 2] rfl ?_
  refine S_seq ?_
  refine s_rg ?_
  refine s_op (o_mv rfl) ?_
  refine s_nilO ?_
  refine q_seqN ?_
  refine s_keep [0, 1, 2] rfl ?_
  refine S_seq ?_
  refine s_rg ?_
  refine s_op (o_mv rfl) ?_
  refine s_call rfl rfl (c_183 ..) ?_
  refine s_op (o_mv rfl) ?_
  refine s_nilO ?_
  refine q_seqN ?_
  refine s_keep [0, 1, 2, 7] rfl ?_
  refine S_seq ?_
  refine S_seq ?_
  refine s_rg ?_
  refine s_op (o_mv rfl) ?_
  refine s_op (o_mv rfl) ?_
  refine s_call rfl rfl (c_172 ..) ?_
  refine s_op (o_not rfl) ?_
  refine s_op (o_mv rfl) ?_
  first | refine s_gDF rfl ?_ ?_ | refine s_gNDF rfl ?_ ?_ | refine s_gNF rfl ?_ ?_ | refine s_gB rfl ?_ ?_
  · intro h1
    try rw [Decidable.not_not] at h1
    try have h1' := aligned_t h1
    try have h1' := inB_t h1
    try have h1' := inB_f h1
    refine s_op (o_mv rfl) ?_
    refine s_gT rfl ?_
    refine s_call rfl rfl (c_230 ..) ?_
    refine s_gT rfl ?_
    refine s_op (o_not rfl) ?_
    refine s_op (o_pickF rfl rfl) ?_
    refine s_op (o_mv rfl) ?_
    first | refine s_gDF rfl ?_ ?_ | refine s_gNDF rfl ?_ ?_ | refine s_gNF rfl ?_ ?_ | refine s_gB rfl ?_ ?_
    · intro h2
      try rw [Decidable.not_not] at h2
      try have h2' := aligned_t h2
      try have h2' := inB_t h2
      try have h2' := inB_f h2
      refine s_op (o_mv rfl) ?_
      refine s_gT rfl ?_
      refine s_call rfl rfl (c_173 ..) ?_
      refine s_gT rfl ?_
      first | refine s_op (o_eql rfl rfl) ?_ | refine s_op (o_bin rfl rfl rfl rfl) ?_
      refine s_op (o_pickF rfl rfl) ?_
      refine s_nilO ?_
      refine q_seqN ?_
      refine s_keep [0, 2, 7, 23] rfl ?_
      first | refine s_condD rfl ?_ ?_ | refine s_condN rfl ?_ ?_ | refine s_condNB rfl ?_ ?_ | refine s_condB rfl ?_ ?_
      · intro h3
        try rw [Decidable.not_not] at h3
        try have h3' := aligned_t h3
        try have h3' := inB_t h3
        try have h3' := inB_f h3
        refine S_seq ?_
        refine s_rg ?_
        refine s_op (o_mv rfl) ?_
        refine s_nilO ?_
        refine q_seqN ?_
        refine s_keep [6] rfl ?_
        refine s_ret ?_
        refine q_seqR ?_
        refine ret_leaf (.inr rfl) rfl rfl ?_
        refine congrArg (fun b => V.w (.int .i64 b)) ?_
        first | (simp_all [nextA]; done) | (simp_all [nextA] <;> omega)
      · intro h3
        try rw [Decidable.not_not] at h3
        try have h3' := aligned_t h3
        try have h3' := inB_t h3
        try have h3' := inB_f h3
        refine s_skip ?_
        refine q_seqN ?_
        refine s_keep [0, 2, 7] rfl ?_
        refine S_seq ?_
        refine S_seq ?_
        refine s_rg ?_
        refine s_op (o_mv rfl) ?_
        first | refine s_op (o_eql rfl rfl) ?_ | refine s_op (o_bin rfl rfl rfl rfl) ?_
        refine s_op (o_mv rfl) ?_
        first | refine s_gDT rfl ?_ ?_ | refine s_gNDT rfl ?_ ?_ | refine s_gNT rfl ?_ ?_ | refine s_gB rfl ?_ ?_
        · intro h4
          try rw [Decidable.not_not] at h4
          try have h4' := aligned_t h4
          try have h4' := inB_t h4
          try have h4' := inB_f h4
          refine s_op (o_mv rfl) ?_
          refine s_gT rfl ?_
          refine s_op (o_mv rfl) ?_
          refine s_gT rfl ?_
          first | refine s_op (o_addn rfl rfl (by omega)) ?_ | refine s_op (o_add rfl rfl) ?_
          refine s_gT rfl ?_
          refine s_op (o_mv rfl) ?_
          refine s_gT rfl ?_
          first | refine s_op (o_muln rfl rfl (by omega)) ?_ | refine s_op (o_mul rfl rfl) ?_
          refine s_gT rfl ?_
          first | refine s_op (o_rem rfl rfl (by decide)) ?_ | refine s_op (o_rem rfl rfl (by omega)) ?_
          refine s_gT rfl ?_
          first | refine s_op (o_eql rfl rfl) ?_ | refine s_op (o_bin rfl rfl rfl rfl) ?_
          refine s_op (o_pickT rfl rfl) ?_
          refine s_nilO ?_
          refine q_seqN ?_
          refine s_keep [0, 7, 34] rfl ?_
          first | refine s_condD rfl ?_ ?_ | refine s_condN rfl ?_ ?_ | refine s_condNB rfl ?_ ?_ | refine s_condB rfl ?_ ?_
          · intro h5
            try rw [Decidable.not_not] at h5
            try have h5' := aligned_t h5
            try have h5' := inB_t h5
            try have h5' := inB_f h5
            refine S_seq ?_
            refine s_rg ?_
            refine s_op (o_mv rfl) ?_
            refine s_op (o_mv rfl) ?_
            first | refine s_op (o_addn rfl rfl (by omega)) ?_ | refine s_op (o_add rfl rfl) ?_
            refine s_op (o_mv rfl) ?_
            first | refine s_op (o_muln rfl rfl (by omega)) ?_ | refine s_op (o_mul rfl rfl) ?_
            first | refine s_op (o_subn rfl rfl (by omega)) ?_ | refine s_op (o_sub rfl rfl) ?_
            refine s_op (o_mv rfl) ?_
            refine s_nilO ?_
            refine q_seqN ?_
            refine s_keep [6] rfl ?_
            refine s_ret ?_
            refine q_seqR ?_
            refine ret_leaf (.inr rfl) rfl rfl ?_
            refine congrArg (fun b => V.w (.int .i64 b)) ?_
            first | (simp_all [nextA]; done) | (simp_all [nextA] <;> omega)
          · intro h5
            try rw [Decidable.not_not] at h5
            try have h5' := aligned_t h5
            try have h5' := inB_t h5
            try have h5' := inB_f h5
            refine s_skip ?_
            refine q_seqN ?_
            refine s_keep [0, 7] rfl ?_
            refine S_seq ?_
            refine s_rg ?_
            refine s_op (o_mv rfl) ?_
            refine s_op (o_mv rfl) ?_
            first | refine s_op (o_addn rfl rfl (by omega)) ?_ | refine s_op (o_add rfl rfl) ?_
            refine s_op (o_mv rfl) ?_
            refine s_nilO ?_
            refine q_seqN ?_
            refine s_keep [6] rfl ?_
            refine s_ret ?_
            refine ret_leaf (.inr rfl) rfl rfl ?_
            refine congrArg (fun b => V.w (.int .i64 b)) ?_
            first | (simp_all [nextA]; done) | (simp_all [nextA] <;> omega)
        · intro h4
          try rw [Decidable.not_not] at h4
          try have h4' := aligned_t h4
          try have h4' := inB_t h4
          try have h4' := inB_f h4
          refine s_gF rfl ?_
          refine s_gF rfl ?_
          refine s_gF rfl ?_
          refine s_gF rfl ?_
          refine s_gF rfl ?_
          refine s_gF rfl ?_
          refine s_gF rfl ?_
          refine s_op (o_pickF rfl rfl) ?_
          refine s_nilO ?_
          refine q_seqN ?_
          refine s_keep [0, 7, 34] rfl ?_
          refine s_condF rfl ?_
          refine s_skip ?_
          refine q_seqN ?_
          refine s_keep [0, 7] rfl ?_
          refine S_seq ?_
          refine s_rg ?_
          refine s_op (o_mv rfl) ?_
          refine s_op (o_mv rfl) ?_
          first | refine s_op (o_addn rfl rfl (by omega)) ?_ | refine s_op (o_add rfl rfl) ?_
          refine s_op (o_mv rfl) ?_
          refine s_nilO ?_
          refine q_seqN ?_
          refine s_keep [6] rfl ?_
          refine s_ret ?_
          refine ret_leaf (.inr rfl) rfl rfl ?_
          refine congrArg (fun b => V.w (.int .i64 b)) ?_
          first | (simp_all [nextA]; done) | (simp_all [nextA] <;> omega)
    · intro h2
      try rw [Decidable.not_not] at h2
      try have h2' := aligned_t h2
      try have h2' := inB_t h2
      try have h2' := inB_f h2
      refine s_gF rfl ?_
      refine s_gF rfl ?_
      refine s_gF rfl ?_
      refine s_op (o_pickT rfl rfl) ?_
      refine s_nilO ?_
      refine q_seqN ?_
      refine s_keep [0, 2, 7, 23] rfl ?_
      refine s_condT rfl ?_
      refine S_seq ?_
      refine s_rg ?_
      refine s_op (o_mv rfl) ?_
      refine s_nilO ?_
      refine q_seqN ?_
      refine s_keep [6] rfl ?_
      refine s_ret ?_
      refine q_seqR ?_
      refine ret_leaf (.inr rfl) rfl rfl ?_
      refine congrArg (fun b => V.w (.int .i64 b)) ?_
      first | (simp_all [nextA]; done) | (simp_all [nextA] <;> omega)
  · intro h1
    try rw [Decidable.not_not] at h1
    try have h1' := aligned_t h1
    try have h1' := inB_t h1
    try have h1' := inB_f h1
    refine s_gF rfl ?_
    refine s_gF rfl ?_
    refine s_gF rfl ?_
    refine s_op (o_pickT rfl rfl) ?_
    refine s_op (o_mv rfl) ?_
    refine s_gF rfl ?_
    refine s_gF rfl ?_
    refine s_gF rfl ?_
    refine s_op (o_pickT rfl rfl) ?_
    refine s_nilO ?_
    refine q_seqN ?_
    refine s_keep [0, 2, 7, 23] rfl ?_
    refine s_condT rfl ?_
    refine S_seq ?_
    refine s_rg ?_
    refine s_op (o_mv rfl) ?_
    refine s_nilO ?_
    refine q_seqN ?_
    refine s_keep [6] rfl ?_
    refine s_ret ?_
    refine q_seqR ?_
    refine ret_leaf (.inr rfl) rfl rfl ?_
    refine congrArg (fun b => V.w (.int .i64 b)) ?_
    first | (simp_all [nextA]; done) | (simp_all [nextA] <;> omega)

def bl (s b : Int) : Nat → Int → Option (List Int)
  | 0, _ => some []
  | n + 1, a => if nextA a s b < 0 then none else (bl s b n (nextA a s b)).map (a :: ·)
def burstL (a s b : Int) : List Int := (bl s b (beats b).toNat a).getD []
theorem bl_step {s b a c : Int} {n i : Nat} {pre : List Int} (h : bl s b n a = (bl s b (n - i) c).map (pre ++ ·)) (hi : i < n) (hn : ¬ nextA c s b < 0) : bl s b n a = (bl s b (n - (i + 1)) (nextA c s b)).map ((pre ++ [c]) ++ ·) := by
  rw [h]
  have e : n - i = (n - (i + 1)) + 1 := by omega
  rw [e, bl, if_neg hn]
  cases bl s b (n - (i + 1)) (nextA c s b) <;> simp
theorem bl_none {s b a c : Int} {i : Nat} {pre : List Int} (h : bl s b (beats b).toNat a = (bl s b ((beats b).toNat - i) c).map (pre ++ ·)) (hi : i < (beats b).toNat) (hn : nextA c s b < 0) : burstL a s b = [] := by
  unfold burstL
  rw [h]
  have e : (beats b).toNat - i = ((beats b).toNat - (i + 1)) + 1 := by omega
  rw [e, bl, if_pos hn]; rfl
theorem bl_end {s b a c : Int} {i : Nat} {pre : List Int} (h : bl s b (beats b).toNat a = (bl s b ((beats b).toNat - i) c).map (pre ++ ·)) (hi : (beats b).toNat ≤ i) : burstL a s b = pre := by
  unfold burstL
  rw [h, show (beats b).toNat - i = 0 by omega, bl]; simp
theorem bl_len (s b : Int) : ∀ (n : Nat) (a : Int) l, bl s b n a = some l → l.length = n
  | 0, a, l, h => by simp [bl] at h; subst h; rfl
  | n + 1, a, l, h => by
    simp only [bl] at h
    split at h
    · cases h
    · cases e : bl s b n (nextA a s b) with
      | none => rw [e] at h; cases h
      | some r => rw [e] at h; cases h; simp [bl_len s b n _ r e]
theorem burstL_len (a s b : Int) : (burstL a s b).length = 0 ∨ (burstL a s b).length = (beats b).toNat := by
  unfold burstL
  cases e : bl s b (beats b).toNat a with
  | none => exact .inl rfl
  | some l => exact .inr (bl_len s b _ _ _ e)
theorem burstL_le (a s b : Int) : (burstL a s b).length ≤ 8 := by
  have h1 := burstL_len a s b
  have h2 := beats_bd b
  omega
theorem iR_app (pre : List Int) (c : Int) : (pre ++ [c]).map iR = pre.map iR ++ [[V.w (.int .i64 c)]] := by rw [List.map_append]; rfl

theorem c_29 (a s b : Int) : CV prg 29 [.w (.int .i64 a), .w (.int .i64 s), .w (.int .i64 b)] (fun res => res = .sl 1 ((burstL a s b).map iR)) := by
  have hb := beats_bd b
  refine cv_in g29 ?_
  refine s_keep [0, 1, 2] rfl ?_
  refine S_seq ?_
  refine s_rg ?_
  refine s_op (o_mv rfl) ?_
  refine s_nilO ?_
  refine q_seqN ?_
  refine s_keep [0, 1, 2] rfl ?_
  refine S_seq ?_
  refine s_rg ?_
  refine s_op (o_bs rfl rfl rfl rfl) ?_
  refine s_op (o_mv rfl) ?_
  refine s_nilO ?_
  refine q_seqN ?_
  refine s_keep [0, 1, 2, 7] rfl ?_
  refine S_seq ?_
  refine S_seq ?_
  refine s_rg ?_
  refine s_op (o_mv rfl) ?_
  refine s_call rfl rfl (c_22 ..) ?_
  refine s_op (o_mv rfl) ?_
  refine s_nilO ?_
  refine q_seqN ?_
  refine s_keep [0, 1, 2, 7, 11, 12] rfl ?_
  refine S_block ?_
  refine S_loop (ι := (Nat × List Int × Int)) (fun p => p.1 ≤ (beats b).toNat ∧ p.2.1.length = p.1 ∧ bl s b (beats b).toNat a = (bl s b ((beats b).toNat - p.1) p.2.2).map (p.2.1 ++ ·)) (fun p => [(12, .w (.int .i64 (p.1 : Int))), (7, .ls 0 (p.2.1.map iR).length), (0, .w (.int .i64 p.2.2))]) (fun p => [.arr 1 (p.2.1.map iR)]) (fun p => (beats b).toNat - p.1) 1 (0, [], a) ⟨by simp, rfl, by simp⟩ rfl (hasOf ⟨rfl, rfl, rfl, trivial⟩ rfl) rfl (fun _ _ => rfl) (fun _ _ => ⟨rfl, rfl⟩) ?_
  rintro ⟨i, pre, c⟩ hi
  obtain ⟨hi1, hi2, hi3⟩ := hi
  simp only at hi1 hi2 hi3
  refine s_keep [0, 1, 2, 7, 11, 12] rfl ?_
  dsimp only
  refine S_seq ?_
  refine s_rg ?_
  first | refine s_op (o_lss rfl rfl) ?_ | refine s_op (o_bin rfl rfl rfl rfl) ?_
  refine s_nilO ?_
  refine q_seqN ?_
  refine s_keep [0, 1, 2, 7, 11, 12, 13] rfl ?_
  refine S_seq ?_
  first | refine s_condD rfl ?_ ?_ | refine s_condN rfl ?_ ?_ | refine s_condNB rfl ?_ ?_ | refine s_condB rfl ?_ ?_
  · intro h1
    try rw [Decidable.not_not] at h1
    refine s_skip ?_
    refine q_seqN ?_
    refine s_keep [0, 1, 2, 7, 11, 12] rfl ?_
    refine S_seq ?_
    refine S_block ?_
    refine S_seq ?_
    refine s_rg ?_
    refine s_op (o_mv rfl) ?_
    refine s_op (o_mv rfl) ?_
    refine s_op (o_mv rfl) ?_
    refine s_call rfl rfl (c_60 ..) ?_
    refine s_op (o_mv rfl) ?_
    refine s_nilO ?_
    refine q_seqN ?_
    refine s_keep [0, 1, 2, 7, 8, 11, 12] rfl ?_
    refine S_seq ?_
    refine S_seq ?_
    refine s_rg ?_
    refine s_op (o_mv rfl) ?_
    first | refine s_op (o_lss rfl rfl) ?_ | refine s_op (o_bin rfl rfl rfl rfl) ?_
    refine s_nilO ?_
    refine q_seqN ?_
    refine s_keep [0, 1, 2, 7, 8, 11, 12, 19] rfl ?_
    first | refine s_condD rfl ?_ ?_ | refine s_condN rfl ?_ ?_ | refine s_condNB rfl ?_ ?_ | refine s_condB rfl ?_ ?_
    · intro h2
      try rw [Decidable.not_not] at h2
      refine S_seq ?_
      refine s_rg ?_
      refine s_op (o_mv rfl) ?_
      refine s_nilO ?_
      refine q_seqN ?_
      refine s_keep [6] rfl ?_
      refine s_ret ?_
      refine q_seqR ?_
      refine q_blkR ?_
      refine q_seqR ?_
      refine q_loopR ?_
      refine q_blkR ?_
      refine q_seqR ?_
      first | (refine ret_leafW (.inr rfl) rfl rfl (.nil 1 _) ?_; rw [bl_none hi3 (by omega) (by assumption)]; rfl; done) | (refine ret_leafA (.inr rfl) rfl rfl rfl ?_; rw [bl_end hi3 (by omega)]; done) | (refine ret_leafA (.inr rfl) rfl rfl rfl ?_; rw [bl_none hi3 (by omega) (by omega)]; rfl; done)
    · intro h2
      try rw [Decidable.not_not] at h2
      refine s_skip ?_
      refine q_seqN ?_
      refine s_keep [0, 1, 2, 7, 8, 11, 12] rfl ?_
      refine S_seq ?_
      refine s_rg ?_
      refine s_op (o_mv rfl) ?_
      refine s_op (o_mv rfl) ?_
      refine s_op (o_bs rfl rfl rfl rfl) ?_
      first | refine s_op (o_appL rfl rfl rfl rfl rfl rfl rfl (by simp [roomy]; omega)) ?_ | refine s_op (o_app rfl rfl rfl rfl rfl (by simp [roomy]; omega)) ?_
      refine s_op (o_mv rfl) ?_
      refine s_nilO ?_
      refine q_seqN ?_
      refine s_keep [1, 2, 7, 8, 11, 12] rfl ?_
      refine s_rg ?_
      refine s_op (o_mv rfl) ?_
      refine s_op (o_mv rfl) ?_
      refine s_nilO ?_
      refine q_blkN ?_
      refine q_seqN ?_
      refine s_keep [0, 1, 2, 7, 11, 12] rfl ?_
      refine s_rg ?_
      first | refine s_op (o_addn rfl rfl (by omega)) ?_ | refine s_op (o_add rfl rfl) ?_
      refine s_op (o_mv rfl) ?_
      refine s_nilO ?_
      refine q_loopN ?_
      refine ⟨(i + 1, pre ++ [c], nextA c s b), ⟨by simp only; omega, by simp only [List.length_append, List.length_cons, List.length_nil]; omega, bl_step hi3 (by omega) (by assumption)⟩, by simp only; omega, hasOf ⟨rfl, ?_, rfl, trivial⟩ ?_⟩
      · rw [iR_app]; rfl
      · simp only; rw [iR_app]; rfl
  · intro h1
    try rw [Decidable.not_not] at h1
    refine s_exit ?_
    refine q_seqX ?_
    refine q_loopX ?_
    refine q_blkH ?_
    refine q_seqN ?_
    refine s_keep [7] rfl ?_
    refine S_seq ?_
    refine s_rg ?_
    refine s_op (o_mv rfl) ?_
    refine s_op (o_mv rfl) ?_
    refine s_nilO ?_
    refine q_seqN ?_
    refine s_keep [6] rfl ?_
    refine s_ret ?_
    first | (refine ret_leafW (.inr rfl) rfl rfl (.nil 1 _) ?_; rw [bl_none hi3 (by omega) (by assumption)]; rfl; done) | (refine ret_leafA (.inr rfl) rfl rfl rfl ?_; rw [bl_end hi3 (by omega)]; done) | (refine ret_leafA (.inr rfl) rfl rfl rfl ?_; rw [bl_none hi3 (by omega) (by omega)]; rfl; done)

theorem c_179 (a s b : Int) : CV prg 179 [.w (.int .i64 a), .w (.int .i64 s), .w (.int .i64 b)] (fun res => res = .sl 1 ((burstL a s b).map iR)) := by
  have hb := beats_bd b
  refine cv_in g179 ?_
  refine s_keep [0, 1, 2] rfl ?_
  refine S_seq ?_
  refine s_rg ?_
  refine s_op (o_mv rfl) ?_
  refine s_nilO ?_
  refine q_seqN ?_
  refine s_keep [0, 1, 2] rfl ?_
  refine S_seq ?_
  refine s_rg ?_
  refine s_op (o_bs rfl rfl rfl rfl) ?_
  refine s_op (o_mv rfl) ?_
  refine s_nilO ?_
  refine q_seqN ?_
  refine s_keep [0, 1, 2, 7] rfl ?_
  refine S_seq ?_
  refine S_block ?_
  refine S_loop (ι := (List Int × Int)) (fun p => p.1.length ≤ (beats b).toNat ∧ bl s b (beats b).toNat a = (bl s b ((beats b).toNat - p.1.length) p.2).map (p.1 ++ ·)) (fun p => [(7, .ls 0 (p.1.map iR).length), (0, .w (.int .i64 p.2))]) (fun p => [.arr 1 (p.1.map iR)]) (fun p => (beats b).toNat - p.1.length) 1 ([], a) ⟨by simp, by simp⟩ rfl (hasOf ⟨rfl, rfl, trivial⟩ rfl) rfl (fun _ _ => rfl) (fun _ _ => ⟨rfl, rfl⟩) ?_
  rintro ⟨pre, c⟩ hi
  obtain ⟨hi1, hi3⟩ := hi
  simp only at hi1 hi3
  have hml : (pre.map iR).length = pre.length := List.length_map ..
  refine s_keep [0, 1, 2, 7] rfl ?_
  dsimp only
  refine S_seq ?_
  refine S_seq ?_
  refine s_rg ?_
  refine s_op (o_mv rfl) ?_
  refine s_op (o_lenL rfl rfl rfl) ?_
  refine s_op (o_mv rfl) ?_
  refine s_call rfl rfl (c_173 ..) ?_
  first | refine s_op (o_lss rfl rfl) ?_ | refine s_op (o_bin rfl rfl rfl rfl) ?_
  refine s_op (o_mv rfl) ?_
  first | refine s_gDT rfl ?_ ?_ | refine s_gNDT rfl ?_ ?_ | refine s_gNT rfl ?_ ?_ | refine s_gB rfl ?_ ?_
  · intro h1
    try rw [Decidable.not_not] at h1
    refine s_op (o_mv rfl) ?_
    refine s_gT rfl ?_
    refine s_op (o_mv rfl) ?_
    refine s_gT rfl ?_
    refine s_op (o_mv rfl) ?_
    refine s_gT rfl ?_
    refine s_call rfl rfl (c_205 ..) ?_
    refine s_gT rfl ?_
    first | refine s_op (o_geq rfl rfl) ?_ | refine s_op (o_bin rfl rfl rfl rfl) ?_
    refine s_op (o_pickT rfl rfl) ?_
    refine s_nilO ?_
    refine q_seqN ?_
    refine s_keep [0, 1, 2, 7, 15, 16, 17, 18, 19, 20] rfl ?_
    first | refine s_condD rfl ?_ ?_ | refine s_condN rfl ?_ ?_ | refine s_condNB rfl ?_ ?_ | refine s_condB rfl ?_ ?_
    · intro h2
      try rw [Decidable.not_not] at h2
      refine s_skip ?_
      refine q_seqN ?_
      refine s_keep [0, 1, 2, 7, 15, 16, 17, 18, 19] rfl ?_
      refine S_block ?_
      refine S_seq ?_
      refine s_rg ?_
      refine s_op (o_mv rfl) ?_
      refine s_op (o_mv rfl) ?_
      refine s_op (o_bs rfl rfl rfl rfl) ?_
      first | refine s_op (o_appL rfl rfl rfl rfl rfl rfl rfl (by simp [roomy]; omega)) ?_ | refine s_op (o_app rfl rfl rfl rfl rfl (by simp [roomy]; omega)) ?_
      refine s_op (o_mv rfl) ?_
      refine s_nilO ?_
      refine q_seqN ?_
      refine s_keep [0, 1, 2, 7, 15, 16, 17, 18, 19] rfl ?_
      refine s_rg ?_
      refine s_op (o_mv rfl) ?_
      refine s_op (o_mv rfl) ?_
      refine s_op (o_mv rfl) ?_
      refine s_call rfl rfl (c_205 ..) ?_
      refine s_op (o_mv rfl) ?_
      refine s_nilO ?_
      refine q_blkN ?_
      refine q_loopN ?_
      refine ⟨(pre ++ [c], nextA c s b), ⟨by simp only [List.length_append, List.length_cons, List.length_nil]; omega, by simp only [List.length_append, List.length_cons, List.length_nil]; exact bl_step hi3 (by omega) (by omega)⟩, by simp only [List.length_append, List.length_cons, List.length_nil]; omega, hasOf ⟨?_, rfl, trivial⟩ ?_⟩
      · rw [iR_app]; rfl
      · simp only; rw [iR_app]; rfl
    · intro h2
      try rw [Decidable.not_not] at h2
      refine s_exit ?_
      refine q_seqX ?_
      refine q_loopX ?_
      refine q_blkH ?_
      refine q_seqN ?_
      refine s_keep [2, 7] rfl ?_
      refine S_seq ?_
      refine S_seq ?_
      refine s_rg ?_
      refine s_op (o_mv rfl) ?_
      refine s_op (o_lenL rfl rfl rfl) ?_
      refine s_op (o_mv rfl) ?_
      refine s_call rfl rfl (c_173 ..) ?_
      first | refine s_op (o_lss rfl rfl) ?_ | refine s_op (o_bin rfl rfl rfl rfl) ?_
      refine s_nilO ?_
      refine q_seqN ?_
      refine s_keep [7, 33] rfl ?_
      first | refine s_condD rfl ?_ ?_ | refine s_condN rfl ?_ ?_ | refine s_condNB rfl ?_ ?_ | refine s_condB rfl ?_ ?_
      · intro h3
        try rw [Decidable.not_not] at h3
        refine S_seq ?_
        refine s_rg ?_
        refine s_op (o_bs rfl rfl rfl rfl) ?_
        refine s_op (o_mv rfl) ?_
        refine s_nilO ?_
        refine q_seqN ?_
        refine s_keep [6] rfl ?_
        refine s_ret ?_
        refine q_seqR ?_
        first | (refine ret_leafW (.inr rfl) rfl rfl (.nil 1 _) ?_; rw [bl_none hi3 (by omega) (by assumption)]; rfl; done) | (refine ret_leafA (.inr rfl) rfl rfl rfl ?_; rw [bl_end hi3 (by omega)]; done) | (refine ret_leafA (.inr rfl) rfl rfl rfl ?_; rw [bl_none hi3 (by omega) (by omega)]; rfl; done)
      · intro h3
        try rw [Decidable.not_not] at h3
        refine s_skip ?_
        refine q_seqN ?_
        refine s_keep [7] rfl ?_
        refine S_seq ?_
        refine s_rg ?_
        refine s_op (o_mv rfl) ?_
        refine s_op (o_mv rfl) ?_
        refine s_nilO ?_
        refine q_seqN ?_
        refine s_keep [6] rfl ?_
        refine s_ret ?_
        first | (refine ret_leafW (.inr rfl) rfl rfl (.nil 1 _) ?_; rw [bl_none hi3 (by omega) (by assumption)]; rfl; done) | (refine ret_leafA (.inr rfl) rfl rfl rfl ?_; rw [bl_end hi3 (by omega)]; done) | (refine ret_leafA (.inr rfl) rfl rfl rfl ?_; rw [bl_none hi3 (by omega) (by omega)]; rfl; done)
  · intro h1
    try rw [Decidable.not_not] at h1
    refine s_gF rfl ?_
    refine s_gF rfl ?_
    refine s_gF rfl ?_
    refine s_gF rfl ?_
    refine s_gF rfl ?_
    refine s_op (o_pickF rfl rfl) ?_
    refine s_nilO ?_
    refine q_seqN ?_
    refine s_keep [0, 1, 2, 7, 15, 16, 17, 18, 19, 20] rfl ?_
    refine s_condF rfl ?_
    refine s_exit ?_
    refine q_seqX ?_
    refine q_loopX ?_
    refine q_blkH ?_
    refine q_seqN ?_
    refine s_keep [2, 7] rfl ?_
    refine S_seq ?_
    refine S_seq ?_
    refine s_rg ?_
    refine s_op (o_mv rfl) ?_
    refine s_op (o_lenL rfl rfl rfl) ?_
    refine s_op (o_mv rfl) ?_
    refine s_call rfl rfl (c_173 ..) ?_
    first | refine s_op (o_lss rfl rfl) ?_ | refine s_op (o_bin rfl rfl rfl rfl) ?_
    refine s_nilO ?_
    refine q_seqN ?_
    refine s_keep [7, 33] rfl ?_
    first | refine s_condD rfl ?_ ?_ | refine s_condN rfl ?_ ?_ | refine s_condNB rfl ?_ ?_ | refine s_condB rfl ?_ ?_
    · intro h4
      try rw [Decidable.not_not] at h4
      refine S_seq ?_
      refine s_rg ?_
      refine s_op (o_bs rfl rfl rfl rfl) ?_
      refine s_op (o_mv rfl) ?_
      refine s_nilO ?_
      refine q_seqN ?_
      refine s_keep [6] rfl ?_
      refine s_ret ?_
      refine q_seqR ?_
      first | (refine ret_leafW (.inr rfl) rfl rfl (.nil 1 _) ?_; rw [bl_none hi3 (by omega) (by assumption)]; rfl; done) | (refine ret_leafA (.inr rfl) rfl rfl rfl ?_; rw [bl_end hi3 (by omega)]; done) | (refine ret_leafA (.inr rfl) rfl rfl rfl ?_; rw [bl_none hi3 (by omega) (by omega)]; rfl; done)
    · intro h4
      try rw [Decidable.not_not] at h4
      refine s_skip ?_
      refine q_seqN ?_
      refine s_keep [7] rfl ?_
      refine S_seq ?_
      refine s_rg ?_
      refine s_op (o_mv rfl) ?_
      refine s_op (o_mv rfl) ?_
      refine s_nilO ?_
      refine q_seqN ?_
      refine s_keep [6] rfl ?_
      refine s_ret ?_
      first | (refine ret_leafW (.inr rfl) rfl rfl (.nil 1 _) ?_; rw [bl_none hi3 (by omega) (by assumption)]; rfl; done) | (refine ret_leafA (.inr rfl) rfl rfl rfl ?_; rw [bl_end hi3 (by omega)]; done) | (refine ret_leafA (.inr rfl) rfl rfl rfl ?_; rw [bl_none hi3 (by omega) (by omega)]; rfl; done)

def onPage (l : List Int) (x : Int) : Bool := decide (IntKind.wrap .i64 (x.tdiv 64) = IntKind.wrap .i64 (((l[0]?).getD 0).tdiv 64))
theorem page_no {l : List Int} {x y : Int} (h0 : l[0]? = some y) (h : ¬ IntKind.wrap .i64 (x.tdiv 64) = IntKind.wrap .i64 (y.tdiv 64)) : onPage l x = false := by unfold onPage; rw [h0]; exact decide_eq_false h
theorem page_is {l : List Int} {x y : Int} (h0 : l[0]? = some y) (h : IntKind.wrap .i64 (x.tdiv 64) = IntKind.wrap .i64 (y.tdiv 64)) : onPage l x = true := by unfold onPage; rw [h0]; exact decide_eq_true h
def burstOk (a s b : Int) : Bool := (burstL a s b).all (onPage (burstL a s b)) && decide (0 < (burstL a s b).length)

theorem c_30 (a s b : Int) : CV prg 30 [.w (.int .i64 a), .w (.int .i64 s), .w (.int .i64 b)] (fun res => res = .w (.bool (burstOk a s b))) := by
  have hlen := burstL_le a s b
  refine cv_in g30 ?_
  refine s_keep [0, 1, 2] rfl ?_
  refine S_seq ?_
  refine s_rg ?_
  refine s_op (o_mv rfl) ?_
  refine s_nilO ?_
  refine q_seqN ?_
  refine s_keep [0, 1, 2] rfl ?_
  refine S_seq ?_
  refine s_rg ?_
  refine s_op (o_mv rfl) ?_
  refine s_op (o_mv rfl) ?_
  refine s_op (o_mv rfl) ?_
  refine s_call rfl rfl (c_29 ..) ?_
  refine s_op (o_mv rfl) ?_
  refine s_nilO ?_
  refine q_seqN ?_
  refine s_keep [7] rfl ?_
  refine S_seq ?_
  refine S_seq ?_
  refine s_rg ?_
  refine s_op (o_mv rfl) ?_
  first | refine s_op (o_lenM rfl) ?_ | refine s_op (o_len rfl) ?_ | refine s_op (o_lenL rfl rfl rfl) ?_ | refine s_op (o_lenN rfl) ?_
  refine s_op (o_mv rfl) ?_
  refine s_nilO ?_
  refine q_seqN ?_
  refine s_keep [7, 14, 15, 16] rfl ?_
  refine S_block ?_
  refine S_loop0 (ι := Nat) (fun i => i ≤ (burstL a s b).length ∧ ((burstL a s b).take i).all (onPage (burstL a s b)) = true) (fun i => [(16, .w (.int .i64 (i : Int)))]) (fun i => (burstL a s b).length - i) 0 (by simp) rfl ⟨rfl, trivial⟩ (fun _ _ => rfl) rfl ?_
  intro i hi
  refine s_keep [7, 14, 15, 16] rfl ?_
  refine S_seq ?_
  refine s_rg ?_
  first | refine s_op (o_lss rfl rfl) ?_ | refine s_op (o_bin rfl rfl rfl rfl) ?_
  refine s_nilO ?_
  refine q_seqN ?_
  refine s_keep [7, 14, 15, 16, 17] rfl ?_
  refine S_seq ?_
  first | refine s_condD rfl ?_ ?_ | refine s_condN rfl ?_ ?_ | refine s_condNB rfl ?_ ?_ | refine s_condB rfl ?_ ?_
  · intro h1
    try rw [Decidable.not_not] at h1
    refine s_skip ?_
    refine q_seqN ?_
    refine s_keep [7, 14, 15, 16] rfl ?_
    refine S_seq ?_
    refine S_block ?_
    refine S_seq ?_
    refine s_rg ?_
    refine s_iaM rfl rfl (by omega) ?_
    intro y2 e2
    try simp only [Int.toNat_natCast, Int.toNat_zero] at e2
    refine s_op (o_ld rfl rfl) ?_
    refine s_op (o_mv rfl) ?_
    refine s_nilO ?_
    refine q_seqN ?_
    refine s_keep [7, 9, 14, 15, 16] rfl ?_
    refine S_seq ?_
    refine s_rg ?_
    refine s_op (o_mv rfl) ?_
    first | refine s_op (o_quo rfl rfl (by decide)) ?_ | refine s_op (o_quo rfl rfl (by omega)) ?_
    refine s_op (o_mv rfl) ?_
    refine s_iaM rfl rfl (by omega) ?_
    intro y3 e3
    try simp only [Int.toNat_natCast, Int.toNat_zero] at e3
    refine s_op (o_ld rfl rfl) ?_
    first | refine s_op (o_quo rfl rfl (by decide)) ?_ | refine s_op (o_quo rfl rfl (by omega)) ?_
    first | refine s_op (o_neq rfl rfl) ?_ | refine s_op (o_bin rfl rfl rfl rfl) ?_
    refine s_nilO ?_
    refine q_seqN ?_
    refine s_keep [7, 14, 15, 16, 26] rfl ?_
    first | refine s_condD rfl ?_ ?_ | refine s_condN rfl ?_ ?_ | refine s_condNB rfl ?_ ?_ | refine s_condB rfl ?_ ?_
    · intro h4
      try rw [Decidable.not_not] at h4
      refine S_seq ?_
      refine s_rg ?_
      refine s_op (o_mv rfl) ?_
      refine s_nilO ?_
      refine q_seqN ?_
      refine s_keep [6] rfl ?_
      refine s_ret ?_
      refine q_blkR ?_
      refine q_seqR ?_
      refine q_loopR ?_
      refine q_blkR ?_
      refine q_seqR ?_
      refine ret_leaf (.inr rfl) rfl rfl ?_
      refine congrArg (fun b => V.w (.bool b)) ?_
      first | (unfold burstOk; rw [all_no (by assumption : (burstL a s b)[i]? = some _) (page_no (by assumption : (burstL a s b)[0]? = some _) (by assumption))]; rfl; done) | (unfold burstOk; rw [all_end hi.2 (by omega)]; simp; done)
    · intro h4
      try rw [Decidable.not_not] at h4
      refine s_skip ?_
      refine q_blkN ?_
      refine q_seqN ?_
      refine s_keep [7, 14, 15, 16] rfl ?_
      refine s_rg ?_
      first | refine s_op (o_addn rfl rfl (by omega)) ?_ | refine s_op (o_add rfl rfl) ?_
      refine s_op (o_mv rfl) ?_
      refine s_nilO ?_
      refine q_loopN ?_
      exact ⟨i + 1, ⟨by omega, all_take (by assumption : (burstL a s b)[i]? = some _) hi.2 (page_is (by assumption : (burstL a s b)[0]? = some _) (by assumption))⟩, by omega, hasOf ⟨rfl, trivial⟩ rfl⟩
  · intro h1
    try rw [Decidable.not_not] at h1
    refine s_exit ?_
    refine q_seqX ?_
    refine q_loopX ?_
    refine q_blkH ?_
    refine q_seqN ?_
    refine s_keep [7] rfl ?_
    refine S_seq ?_
    refine s_rg ?_
    refine s_op (o_mv rfl) ?_
    first | refine s_op (o_lenM rfl) ?_ | refine s_op (o_len rfl) ?_ | refine s_op (o_lenL rfl rfl rfl) ?_ | refine s_op (o_lenN rfl) ?_
    first | refine s_op (o_gtr rfl rfl) ?_ | refine s_op (o_bin rfl rfl rfl rfl) ?_
    refine s_op (o_mv rfl) ?_
    refine s_nilO ?_
    refine q_seqN ?_
    refine s_keep [6] rfl ?_
    refine s_ret ?_
    refine ret_leaf (.inr rfl) rfl rfl ?_
    refine congrArg (fun b => V.w (.bool b)) ?_
    first | (unfold burstOk; rw [all_no (by assumption : (burstL a s b)[i]? = some _) (page_no (by assumption : (burstL a s b)[0]? = some _) (by assumption))]; rfl; done) | (unfold burstOk; rw [all_end hi.2 (by omega)]; simp; done)

theorem c_180 (a s b : Int) : CV prg 180 [.w (.int .i64 a), .w (.int .i64 s), .w (.int .i64 b)] (fun res => res = .w (.bool (burstOk a s b))) := by
  have hlen := burstL_le a s b
  refine cv_in g180 ?_
  refine s_keep [0, 1, 2] rfl ?_
  refine S_seq ?_
  refine s_rg ?_
  refine s_op (o_mv rfl) ?_
  refine s_nilO ?_
  refine q_seqN ?_
  refine s_keep [0, 1, 2] rfl ?_
  refine S_seq ?_
  refine s_rg ?_
  refine s_op (o_mv rfl) ?_
  refine s_op (o_mv rfl) ?_
  refine s_op (o_mv rfl) ?_
  refine s_call rfl rfl (c_179 ..) ?_
  refine s_op (o_mv rfl) ?_
  refine s_nilO ?_
  refine q_seqN ?_
  refine s_keep [7] rfl ?_
  refine S_seq ?_
  refine S_seq ?_
  refine s_rg ?_
  refine s_op (o_mv rfl) ?_
  refine s_nilO ?_
  refine q_seqN ?_
  refine s_keep [7, 8] rfl ?_
  refine S_block ?_
  refine S_loop0 (ι := Nat) (fun i => i ≤ (burstL a s b).length ∧ ((burstL a s b).take i).all (onPage (burstL a s b)) = true) (fun i => [(8, .w (.int .i64 (i : Int)))]) (fun i => (burstL a s b).length - i) 0 (by simp) rfl ⟨rfl, trivial⟩ (fun _ _ => rfl) rfl ?_
  intro i hi
  refine s_keep [7, 8] rfl ?_
  refine S_seq ?_
  refine S_seq ?_
  refine s_rg ?_
  refine s_op (o_mv rfl) ?_
  refine s_op (o_mv rfl) ?_
  first | refine s_op (o_lenM rfl) ?_ | refine s_op (o_len rfl) ?_ | refine s_op (o_lenL rfl rfl rfl) ?_ | refine s_op (o_lenN rfl) ?_
  first | refine s_op (o_lss rfl rfl) ?_ | refine s_op (o_bin rfl rfl rfl rfl) ?_
  refine s_nilO ?_
  refine q_seqN ?_
  refine s_keep [7, 8, 16] rfl ?_
  first | refine s_condD rfl ?_ ?_ | refine s_condN rfl ?_ ?_ | refine s_condNB rfl ?_ ?_ | refine s_condB rfl ?_ ?_
  · intro h1
    try rw [Decidable.not_not] at h1
    refine s_skip ?_
    refine q_seqN ?_
    refine s_keep [7, 8] rfl ?_
    refine S_seq ?_
    refine S_block ?_
    refine S_seq ?_
    refine s_rg ?_
    refine s_op (o_mv rfl) ?_
    refine s_op (o_mv rfl) ?_
    refine s_iaM rfl rfl (by omega) ?_
    intro y2 e2
    try simp only [Int.toNat_natCast, Int.toNat_zero] at e2
    refine s_op (o_ld rfl rfl) ?_
    first | refine s_op (o_quo rfl rfl (by decide)) ?_ | refine s_op (o_quo rfl rfl (by omega)) ?_
    refine s_op (o_mv rfl) ?_
    refine s_iaM rfl rfl (by omega) ?_
    intro y3 e3
    try simp only [Int.toNat_natCast, Int.toNat_zero] at e3
    refine s_op (o_ld rfl rfl) ?_
    first | refine s_op (o_quo rfl rfl (by decide)) ?_ | refine s_op (o_quo rfl rfl (by omega)) ?_
    first | refine s_op (o_neq rfl rfl) ?_ | refine s_op (o_bin rfl rfl rfl rfl) ?_
    refine s_nilO ?_
    refine q_seqN ?_
    refine s_keep [7, 8, 28] rfl ?_
    first | refine s_condD rfl ?_ ?_ | refine s_condN rfl ?_ ?_ | refine s_condNB rfl ?_ ?_ | refine s_condB rfl ?_ ?_
    · intro h4
      try rw [Decidable.not_not] at h4
      refine S_seq ?_
      refine s_rg ?_
      refine s_op (o_mv rfl) ?_
      refine s_nilO ?_
      refine q_seqN ?_
      refine s_keep [6] rfl ?_
      refine s_ret ?_
      refine q_blkR ?_
      refine q_seqR ?_
      refine q_loopR ?_
      refine q_blkR ?_
      refine q_seqR ?_
      refine ret_leaf (.inr rfl) rfl rfl ?_
      refine congrArg (fun b => V.w (.bool b)) ?_
      first | (unfold burstOk; rw [all_no (by assumption : (burstL a s b)[i]? = some _) (page_no (by assumption : (burstL a s b)[0]? = some _) (by assumption))]; rfl; done) | (unfold burstOk; rw [all_end hi.2 (by omega)]; simp; done)
    · intro h4
      try rw [Decidable.not_not] at h4
      refine s_skip ?_
      refine q_blkN ?_
      refine q_seqN ?_
      refine s_keep [7, 8] rfl ?_
      refine s_rg ?_
      refine s_op (o_mv rfl) ?_
      first | refine s_op (o_addn rfl rfl (by omega)) ?_ | refine s_op (o_add rfl rfl) ?_
      refine s_op (o_mv rfl) ?_
      refine s_nilO ?_
      refine q_loopN ?_
      exact ⟨i + 1, ⟨by omega, all_take (by assumption : (burstL a s b)[i]? = some _) hi.2 (page_is (by assumption : (burstL a s b)[0]? = some _) (by assumption))⟩, by omega, hasOf ⟨rfl, trivial⟩ rfl⟩
  · intro h1
    try rw [Decidable.not_not] at h1
    refine s_exit ?_
    refine q_seqX ?_
    refine q_loopX ?_
    refine q_blkH ?_
    refine q_seqN ?_
    refine s_keep [7] rfl ?_
    refine S_seq ?_
    refine s_rg ?_
    refine s_op (o_mv rfl) ?_
    first | refine s_op (o_lenM rfl) ?_ | refine s_op (o_len rfl) ?_ | refine s_op (o_lenL rfl rfl rfl) ?_ | refine s_op (o_lenN rfl) ?_
    first | refine s_op (o_gtr rfl rfl) ?_ | refine s_op (o_bin rfl rfl rfl rfl) ?_
    refine s_op (o_mv rfl) ?_
    refine s_nilO ?_
    refine q_seqN ?_
    refine s_keep [6] rfl ?_
    refine s_ret ?_
    refine ret_leaf (.inr rfl) rfl rfl ?_
    refine congrArg (fun b => V.w (.bool b)) ?_
    first | (unfold burstOk; rw [all_no (by assumption : (burstL a s b)[i]? = some _) (page_no (by assumption : (burstL a s b)[0]? = some _) (by assumption))]; rfl; done) | (unfold burstOk; rw [all_end hi.2 (by omega)]; simp; done)

theorem c_266 (xs : List Int) (hl : xs.length ≤ 140737488355328) (f : Nat) (caps : List V) (hc : caps.all (V.fzV 5) = true) (p : Int → Bool) (h : ∀ y, y ∈ xs → CV prg f (.w (.int .i64 y) :: caps) (fun v => v = .w (.bool (p y)))) : CV prg 266 [.sl 1 (xs.map iR), .fn f caps] (fun res => res = .w (.int .i64 (idxOf p xs))) := by
  refine cv_in g266 ?_
  refine s_keep [0, 1] rfl ?_
  refine S_seq ?_
  refine s_rg ?_
  refine s_op (o_mv rfl) ?_
  refine s_nilO ?_
  refine q_seqN ?_
  refine s_keep [0, 1] rfl ?_
  refine S_seq ?_
  refine S_seq ?_
  refine s_rg ?_
  refine s_op (o_mv rfl) ?_
  first | refine s_op (o_lenM rfl) ?_ | refine s_op (o_len rfl) ?_
  refine s_op (o_mv rfl) ?_
  refine s_nilO ?_
  refine q_seqN ?_
  refine s_keep [0, 1, 7, 8] rfl ?_
  refine S_block ?_
  refine S_loop0 (ι := Nat) (fun i => i ≤ xs.length ∧ (xs.take i).any p = false) (fun i => [(8, .w (.int .i64 (i : Int)))]) (fun i => xs.length - i) 0 (by simp) rfl ⟨rfl, trivial⟩ (fun _ _ => rfl) rfl ?_
  intro i hi
  refine s_keep [0, 1, 7, 8] rfl ?_
  refine S_seq ?_
  refine s_rg ?_
  first | refine s_op (o_lss rfl rfl) ?_ | refine s_op (o_bin rfl rfl rfl rfl) ?_
  refine s_nilO ?_
  refine q_seqN ?_
  refine s_keep [0, 1, 7, 8, 9] rfl ?_
  refine S_seq ?_
  first | refine s_condD rfl ?_ ?_ | refine s_condN rfl ?_ ?_ | refine s_condNB rfl ?_ ?_ | refine s_condB rfl ?_ ?_
  · intro h1
    try rw [Decidable.not_not] at h1
    refine s_skip ?_
    refine q_seqN ?_
    refine s_keep [0, 1, 7, 8] rfl ?_
    refine S_seq ?_
    refine S_block ?_
    refine S_seq ?_
    refine s_rg ?_
    refine s_op (o_mv rfl) ?_
    refine s_op (o_mv rfl) ?_
    refine s_nilO ?_
    refine q_seqN ?_
    refine s_keep [0, 1, 5, 7, 8] rfl ?_
    refine S_seq ?_
    refine s_rg ?_
    refine s_op (o_mv rfl) ?_
    refine s_op (o_mv rfl) ?_
    refine s_op (o_mv rfl) ?_
    refine s_iaM rfl rfl (by simp at *; omega) ?_
    intro y2 e2
    try simp only [Int.toNat_natCast, Int.toNat_zero] at e2
    refine s_op (o_ld rfl rfl) ?_
    refine s_calli rfl rfl (fz1 rfl hc) (h _ (List.mem_of_getElem? (by assumption))) ?_
    refine s_nilO ?_
    refine q_seqN ?_
    refine s_keep [0, 1, 5, 7, 8, 16] rfl ?_
    first | refine s_condD rfl ?_ ?_ | refine s_condN rfl ?_ ?_ | refine s_condNB rfl ?_ ?_ | refine s_condB rfl ?_ ?_
    · intro h3
      try rw [Decidable.not_not] at h3
      refine S_seq ?_
      refine s_rg ?_
      refine s_op (o_mv rfl) ?_
      refine s_op (o_mv rfl) ?_
      refine s_nilO ?_
      refine q_seqN ?_
      refine s_keep [4] rfl ?_
      refine s_ret ?_
      refine q_blkR ?_
      refine q_seqR ?_
      refine q_loopR ?_
      refine q_blkR ?_
      refine q_seqR ?_
      refine ret_leaf (.inr rfl) rfl rfl ?_
      refine congrArg (fun b => V.w (.int .i64 b)) ?_
      first | exact (idxOf_at (by assumption) hi.2 (by assumption)).symm | exact (idxOf_no (any_end hi.2 (by omega))).symm
    · intro h3
      try rw [Decidable.not_not] at h3
      refine s_skip ?_
      refine q_blkN ?_
      refine q_seqN ?_
      refine s_keep [0, 1, 7, 8] rfl ?_
      refine s_rg ?_
      first | refine s_op (o_addn rfl rfl (by omega)) ?_ | refine s_op (o_add rfl rfl) ?_
      refine s_op (o_mv rfl) ?_
      refine s_nilO ?_
      refine q_loopN ?_
      exact ⟨i + 1, ⟨by omega, any_take (by assumption) hi.2 (by assumption)⟩, by omega, hasOf ⟨rfl, trivial⟩ rfl⟩
  · intro h1
    try rw [Decidable.not_not] at h1
    refine s_exit ?_
    refine q_seqX ?_
    refine q_loopX ?_
    refine q_blkH ?_
    refine q_seqN ?_
    refine s_keep [] rfl ?_
    refine S_seq ?_
    refine s_rg ?_
    refine s_op (o_mv rfl) ?_
    refine s_nilO ?_
    refine q_seqN ?_
    refine s_keep [4] rfl ?_
    refine s_ret ?_
    refine ret_leaf (.inr rfl) rfl rfl ?_
    refine congrArg (fun b => V.w (.int .i64 b)) ?_
    first | exact (idxOf_at (by assumption) hi.2 (by assumption)).symm | exact (idxOf_no (any_end hi.2 (by omega))).symm

theorem c_257 (xs : List Int) (hl : xs.length ≤ 140737488355328) (f : Nat) (caps : List V) (hc : caps.all (V.fzV 5) = true) (p : Int → Bool) (h : ∀ y, y ∈ xs → CV prg f (.w (.int .i64 y) :: caps) (fun v => v = .w (.bool (p y)))) : CV prg 257 [.sl 1 (xs.map iR), .fn f caps] (fun res => res = .w (.bool (xs.any p))) := by
  refine cv_in g257 ?_
  refine s_keep [0, 1] rfl ?_
  refine S_seq ?_
  refine s_rg ?_
  refine s_op (o_mv rfl) ?_
  refine s_nilO ?_
  refine q_seqN ?_
  refine s_keep [0, 1] rfl ?_
  refine S_seq ?_
  refine s_rg ?_
  refine s_op (o_mv rfl) ?_
  refine s_op (o_mv rfl) ?_
  refine s_call rfl (fz2 rfl hc) (c_266 _ (by assumption) _ _ hc _ h) ?_
  first | refine s_op (o_geq rfl rfl) ?_ | refine s_op (o_bin rfl rfl rfl rfl) ?_
  refine s_op (o_mv rfl) ?_
  refine s_nilO ?_
  refine q_seqN ?_
  refine s_keep [4] rfl ?_
  refine s_ret ?_
  refine ret_leaf (.inr rfl) rfl rfl ?_
  refine congrArg (fun b => V.w (.bool b)) ?_
  exact idxOf_any p xs

end Go.Proofs.Ytdialnejieoelaa.AL
