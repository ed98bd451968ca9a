/- What functions do with plain data, each by the form of its code. Printed by program. -/
import Derived.Test.YtdialnejieoelaaCMstOk0
namespace Go.Proofs.Ytdialnejieoelaa.AL
open Go
set_option linter.unusedVariables false
set_option linter.unusedSimpArgs false
set_option maxRecDepth 4096

theorem c_66 (x : Req) (hs : x.small) : CV prg 66 [.agg x.r] (fun res => res = .w (.bool x.ok)) := by
  have hd : x.data.length ≤ 1048576 := hs
  refine cv_in g66 ?_
  refine s_keep [0] rfl ?_
  refine S_seq ?_
  refine s_rg ?_
  refine s_op (o_box rfl rfl rfl) ?_
  refine s_op (o_mv rfl) ?_
  refine s_nilO ?_
  refine q_seqN ?_
  refine s_keep [1] rfl ?_
  refine S_seq ?_
  refine s_rg ?_
  refine s_op (o_mv rfl) ?_
  refine s_nilO ?_
  refine q_seqN ?_
  refine s_keep [1, 3] rfl ?_
  refine S_seq ?_
  refine S_seq ?_
  refine s_rg ?_
  refine s_op (o_faC rfl) ?_
  refine s_op (o_ldC rfl rfl rfl) ?_
  refine s_nilO ?_
  refine q_seqN ?_
  refine s_keep [1, 3, 5] rfl ?_
  first | refine s_condD rfl ?_ ?_ | refine s_condN rfl ?_ ?_ | refine s_condNB rfl ?_ ?_ | refine s_condB rfl ?_ ?_
  · intro h1
    try rw [Decidable.not_not] at h1
    refine s_rg ?_
    refine s_op (o_faC rfl) ?_
    refine s_op (o_ldC rfl rfl rfl) ?_
    first | refine s_call rfl rfl (c_22 ..) ?_ | refine s_callL rfl rfl (by simp) (c_22 ..) rfl ?_
    refine s_op (o_mv rfl) ?_
    refine s_nilO ?_
    refine q_seqN ?_
    refine s_keep [1, 3] rfl ?_
    refine S_seq ?_
    refine s_rg ?_
    refine s_op (o_faC rfl) ?_
    refine s_op (o_ldC rfl rfl rfl) ?_
    refine s_op (o_faC rfl) ?_
    refine s_op (o_ldC rfl rfl rfl) ?_
    refine s_op (o_faC rfl) ?_
    refine s_op (o_ldC rfl rfl rfl) ?_
    first | refine s_call rfl rfl (c_30 ..) ?_ | refine s_callL rfl rfl (by simp) (c_30 ..) rfl ?_
    refine s_op (o_mv rfl) ?_
    first | refine s_gDT rfl ?_ ?_ | refine s_gNDT rfl ?_ ?_ | refine s_gNT rfl ?_ ?_ | refine s_gB rfl ?_ ?_
    · intro h2
      try rw [Decidable.not_not] at h2
      refine s_op (o_faC rfl) ?_
      refine s_gT rfl ?_
      refine s_op (o_ldC rfl rfl rfl) ?_
      refine s_gT rfl ?_
      first | refine s_op (o_lenM rfl) ?_ | refine s_op (o_len rfl) ?_ | refine s_op (o_lenL rfl rfl rfl) ?_ | refine s_op (o_lenN rfl) ?_
      refine s_gT rfl ?_
      refine s_op (o_mv rfl) ?_
      refine s_gT rfl ?_
      first | refine s_op (o_eql rfl rfl) ?_ | refine s_op (o_bin rfl rfl rfl rfl) ?_
      refine s_op (o_pickT rfl rfl) ?_
      refine s_keepO (is := [1, 22]) rfl ?_
      refine s_op (o_mv rfl) ?_
      first | refine s_gDT rfl ?_ ?_ | refine s_gNDT rfl ?_ ?_ | refine s_gNT rfl ?_ ?_ | refine s_gB rfl ?_ ?_
      · intro h3
        try rw [Decidable.not_not] at h3
        refine s_op (o_faC rfl) ?_
        refine s_gT rfl ?_
        refine s_op (o_ldC rfl rfl rfl) ?_
        refine s_gT rfl ?_
        refine s_op (o_fn rfl) ?_
        refine s_gT rfl ?_
        refine s_callL rfl rfl (by simp) (c_257 _ (by omega) _ _ rfl (fun d => !inB d 0 (limit x.size - 1)) (fun y _ => c_67 y x)) rfl ?_
        refine s_gT rfl ?_
        refine s_op (o_not rfl) ?_
        refine s_op (o_pickT rfl rfl) ?_
        refine s_op (o_mv rfl) ?_
        refine s_nilO ?_
        refine q_seqN ?_
        refine s_keep [2] rfl ?_
        refine s_ret ?_
        refine ret_leaf (.inr rfl) rfl rfl ?_
        refine congrArg (fun b => V.w (.bool b)) ?_
        first | (rw [data_not]; simp_all [Req.ok]; done) | (simp_all [Req.ok]; done)
      · intro h3
        try rw [Decidable.not_not] at h3
        refine s_gF rfl ?_
        refine s_gF rfl ?_
        refine s_gF rfl ?_
        refine s_gF rfl ?_
        refine s_gF rfl ?_
        refine s_op (o_pickF rfl rfl) ?_
        refine s_op (o_mv rfl) ?_
        refine s_nilO ?_
        refine q_seqN ?_
        refine s_keep [2] rfl ?_
        refine s_ret ?_
        refine ret_leaf (.inr rfl) rfl rfl ?_
        refine congrArg (fun b => V.w (.bool b)) ?_
        first | (rw [data_not]; simp_all [Req.ok]; done) | (simp_all [Req.ok]; done)
    · intro h2
      try rw [Decidable.not_not] at h2
      refine s_gF rfl ?_
      refine s_gF rfl ?_
      refine s_gF rfl ?_
      refine s_gF rfl ?_
      refine s_gF rfl ?_
      refine s_op (o_pickF rfl rfl) ?_
      refine s_keepO (is := [1, 22]) rfl ?_
      refine s_op (o_mv rfl) ?_
      refine s_gF rfl ?_
      refine s_gF rfl ?_
      refine s_gF rfl ?_
      refine s_gF rfl ?_
      refine s_gF rfl ?_
      refine s_op (o_pickF rfl rfl) ?_
      refine s_op (o_mv rfl) ?_
      refine s_nilO ?_
      refine q_seqN ?_
      refine s_keep [2] rfl ?_
      refine s_ret ?_
      refine ret_leaf (.inr rfl) rfl rfl ?_
      refine congrArg (fun b => V.w (.bool b)) ?_
      first | (rw [data_not]; simp_all [Req.ok]; done) | (simp_all [Req.ok]; done)
  · intro h1
    try rw [Decidable.not_not] at h1
    refine s_skip ?_
    refine q_seqN ?_
    refine s_keep [1, 3] rfl ?_
    refine S_seq ?_
    refine s_rg ?_
    refine s_op (o_faC rfl) ?_
    refine s_op (o_ldC rfl rfl rfl) ?_
    refine s_op (o_faC rfl) ?_
    refine s_op (o_ldC rfl rfl rfl) ?_
    refine s_op (o_faC rfl) ?_
    refine s_op (o_ldC rfl rfl rfl) ?_
    first | refine s_call rfl rfl (c_30 ..) ?_ | refine s_callL rfl rfl (by simp) (c_30 ..) rfl ?_
    refine s_op (o_mv rfl) ?_
    first | refine s_gDT rfl ?_ ?_ | refine s_gNDT rfl ?_ ?_ | refine s_gNT rfl ?_ ?_ | refine s_gB rfl ?_ ?_
    · intro h4
      try rw [Decidable.not_not] at h4
      refine s_op (o_faC rfl) ?_
      refine s_gT rfl ?_
      refine s_op (o_ldC rfl rfl rfl) ?_
      refine s_gT rfl ?_
      first | refine s_op (o_lenM rfl) ?_ | refine s_op (o_len rfl) ?_ | refine s_op (o_lenL rfl rfl rfl) ?_ | refine s_op (o_lenN rfl) ?_
      refine s_gT rfl ?_
      refine s_op (o_mv rfl) ?_
      refine s_gT rfl ?_
      first | refine s_op (o_eql rfl rfl) ?_ | refine s_op (o_bin rfl rfl rfl rfl) ?_
      refine s_op (o_pickT rfl rfl) ?_
      refine s_keepO (is := [1, 22]) rfl ?_
      refine s_op (o_mv rfl) ?_
      first | refine s_gDT rfl ?_ ?_ | refine s_gNDT rfl ?_ ?_ | refine s_gNT rfl ?_ ?_ | refine s_gB rfl ?_ ?_
      · intro h5
        try rw [Decidable.not_not] at h5
        refine s_op (o_faC rfl) ?_
        refine s_gT rfl ?_
        refine s_op (o_ldC rfl rfl rfl) ?_
        refine s_gT rfl ?_
        refine s_op (o_fn rfl) ?_
        refine s_gT rfl ?_
        refine s_callL rfl rfl (by simp) (c_257 _ (by omega) _ _ rfl (fun d => !inB d 0 (limit x.size - 1)) (fun y _ => c_67 y x)) rfl ?_
        refine s_gT rfl ?_
        refine s_op (o_not rfl) ?_
        refine s_op (o_pickT rfl rfl) ?_
        refine s_op (o_mv rfl) ?_
        refine s_nilO ?_
        refine q_seqN ?_
        refine s_keep [2] rfl ?_
        refine s_ret ?_
        refine ret_leaf (.inr rfl) rfl rfl ?_
        refine congrArg (fun b => V.w (.bool b)) ?_
        first | (rw [data_not]; simp_all [Req.ok]; done) | (simp_all [Req.ok]; done)
      · intro h5
        try rw [Decidable.not_not] at h5
        refine s_gF rfl ?_
        refine s_gF rfl ?_
        refine s_gF rfl ?_
        refine s_gF rfl ?_
        refine s_gF rfl ?_
        refine s_op (o_pickF rfl rfl) ?_
        refine s_op (o_mv rfl) ?_
        refine s_nilO ?_
        refine q_seqN ?_
        refine s_keep [2] rfl ?_
        refine s_ret ?_
        refine ret_leaf (.inr rfl) rfl rfl ?_
        refine congrArg (fun b => V.w (.bool b)) ?_
        first | (rw [data_not]; simp_all [Req.ok]; done) | (simp_all [Req.ok]; done)
    · intro h4
      try rw [Decidable.not_not] at h4
      refine s_gF rfl ?_
      refine s_gF rfl ?_
      refine s_gF rfl ?_
      refine s_gF rfl ?_
      refine s_gF rfl ?_
      refine s_op (o_pickF rfl rfl) ?_
      refine s_keepO (is := [1, 22]) rfl ?_
      refine s_op (o_mv rfl) ?_
      refine s_gF rfl ?_
      refine s_gF rfl ?_
      refine s_gF rfl ?_
      refine s_gF rfl ?_
      refine s_gF rfl ?_
      refine s_op (o_pickF rfl rfl) ?_
      refine s_op (o_mv rfl) ?_
      refine s_nilO ?_
      refine q_seqN ?_
      refine s_keep [2] rfl ?_
      refine s_ret ?_
      refine ret_leaf (.inr rfl) rfl rfl ?_
      refine congrArg (fun b => V.w (.bool b)) ?_
      first | (rw [data_not]; simp_all [Req.ok]; done) | (simp_all [Req.ok]; done)

theorem c_207 (x : Req) (hs : x.small) : CV prg 207 [.agg x.r] (fun res => res = .w (.bool x.ok)) := by
  have hd : x.data.length ≤ 1048576 := hs
  have hz := limit_bd x.size
  refine cv_in g207 ?_
  refine s_keep [0] rfl ?_
  refine S_seq ?_
  refine s_rg ?_
  refine s_op (o_box rfl rfl rfl) ?_
  refine s_op (o_mv rfl) ?_
  refine s_nilO ?_
  refine q_seqN ?_
  refine s_keep [1] rfl ?_
  refine S_seq ?_
  refine S_seq ?_
  refine s_rg ?_
  refine s_op (o_faC rfl) ?_
  refine s_op (o_ldC rfl rfl rfl) ?_
  refine s_op (o_faC rfl) ?_
  refine s_op (o_ldC rfl rfl rfl) ?_
  refine s_op (o_faC rfl) ?_
  refine s_op (o_ldC rfl rfl rfl) ?_
  first | refine s_call rfl rfl (c_180 ..) ?_ | refine s_callL rfl rfl (by simp) (c_180 ..) rfl ?_
  refine s_op (o_not rfl) ?_
  refine s_nilO ?_
  refine q_seqN ?_
  refine s_keep [1, 11] rfl ?_
  first | refine s_condD rfl ?_ ?_ | refine s_condN rfl ?_ ?_ | refine s_condNB rfl ?_ ?_ | refine s_condB rfl ?_ ?_
  · intro h1
    try rw [Decidable.not_not] at h1
    refine S_seq ?_
    refine s_rg ?_
    refine s_op (o_mv rfl) ?_
    refine s_nilO ?_
    refine q_seqN ?_
    refine s_keep [2] rfl ?_
    refine s_ret ?_
    refine q_seqR ?_
    refine ret_leaf (.inr rfl) rfl rfl ?_
    refine congrArg (fun b => V.w (.bool b)) ?_
    first | (unfold Req.ok; rw [all_no (by assumption) (by assumption)]; simp; done) | (have ha := all_end hi.2 (by omega); clear hi; cases hw : x.write <;> simp_all [Req.ok]; done) | (have ha := all_end hi.2 (by omega); clear hi; cases hw : x.write <;> simp_all [Req.ok] <;> omega) | (simp_all [Req.ok]; done)
  · intro h1
    try rw [Decidable.not_not] at h1
    refine s_skip ?_
    refine q_seqN ?_
    refine s_keep [1] rfl ?_
    refine S_seq ?_
    refine S_seq ?_
    refine s_rg ?_
    refine s_op (o_mv rfl) ?_
    refine s_nilO ?_
    refine q_seqN ?_
    refine s_keep [1, 3] rfl ?_
    refine S_block ?_
    refine S_loop0 (ι := Nat) (fun i => i ≤ x.data.length ∧ (x.data.take i).all (fun v => inB v 0 (limit x.size - 1)) = true) (fun i => [(3, .w (.int .i64 (i : Int)))]) (fun i => x.data.length - i) 0 (by simp) rfl ⟨rfl, trivial⟩ (fun _ _ => rfl) rfl ?_
    intro i hi
    refine s_keep [1, 3] rfl ?_
    refine S_seq ?_
    refine S_seq ?_
    refine s_rg ?_
    refine s_op (o_mv rfl) ?_
    refine s_op (o_faC rfl) ?_
    refine s_op (o_ldC rfl rfl rfl) ?_
    first | refine s_op (o_lenM rfl) ?_ | refine s_op (o_len rfl) ?_ | refine s_op (o_lenL rfl rfl rfl) ?_ | refine s_op (o_lenN rfl) ?_
    first | refine s_op (o_lss rfl rfl) ?_ | refine s_op (o_bin rfl rfl rfl rfl) ?_
    refine s_nilO ?_
    refine q_seqN ?_
    refine s_keep [1, 3, 16] rfl ?_
    first | refine s_condD rfl ?_ ?_ | refine s_condN rfl ?_ ?_ | refine s_condNB rfl ?_ ?_ | refine s_condB rfl ?_ ?_
    · intro h2
      try rw [Decidable.not_not] at h2
      refine s_skip ?_
      refine q_seqN ?_
      refine s_keep [1, 3] rfl ?_
      refine S_seq ?_
      refine S_block ?_
      refine S_seq ?_
      refine s_rg ?_
      refine s_op (o_faC rfl) ?_
      refine s_op (o_ldC rfl rfl rfl) ?_
      refine s_op (o_mv rfl) ?_
      refine s_iaM rfl rfl (by omega) ?_
      intro y3 e3
      try simp only [Int.toNat_natCast, Int.toNat_zero] at e3
      refine s_op (o_ld rfl rfl) ?_
      refine s_op (o_faC rfl) ?_
      refine s_op (o_ldC rfl rfl rfl) ?_
      first | refine s_call rfl rfl (c_201 ..) ?_ | refine s_callL rfl rfl (by simp) (c_201 ..) rfl ?_
      first | refine s_op (o_subn rfl rfl (by omega)) ?_ | refine s_op (o_sub rfl rfl) ?_
      first | refine s_call rfl rfl (c_230 ..) ?_ | refine s_callL rfl rfl (by simp) (c_230 ..) rfl ?_
      refine s_op (o_not rfl) ?_
      refine s_nilO ?_
      refine q_seqN ?_
      refine s_keep [1, 3, 29] rfl ?_
      first | refine s_condD rfl ?_ ?_ | refine s_condN rfl ?_ ?_ | refine s_condNB rfl ?_ ?_ | refine s_condB rfl ?_ ?_
      · intro h4
        try rw [Decidable.not_not] at h4
        refine S_seq ?_
        refine s_rg ?_
        refine s_op (o_mv rfl) ?_
        refine s_nilO ?_
        refine q_seqN ?_
        refine s_keep [2] rfl ?_
        refine s_ret ?_
        refine q_blkR ?_
        refine q_seqR ?_
        refine q_loopR ?_
        refine q_blkR ?_
        refine q_seqR ?_
        refine ret_leaf (.inr rfl) rfl rfl ?_
        refine congrArg (fun b => V.w (.bool b)) ?_
        first | (unfold Req.ok; rw [all_no (by assumption) (by assumption)]; simp; done) | (have ha := all_end hi.2 (by omega); clear hi; cases hw : x.write <;> simp_all [Req.ok]; done) | (have ha := all_end hi.2 (by omega); clear hi; cases hw : x.write <;> simp_all [Req.ok] <;> omega) | (simp_all [Req.ok]; done)
      · intro h4
        try rw [Decidable.not_not] at h4
        refine s_skip ?_
        refine q_blkN ?_
        refine q_seqN ?_
        refine s_keep [1, 3] rfl ?_
        refine s_rg ?_
        refine s_op (o_mv rfl) ?_
        first | refine s_op (o_addn rfl rfl (by omega)) ?_ | refine s_op (o_add rfl rfl) ?_
        refine s_op (o_mv rfl) ?_
        refine s_nilO ?_
        refine q_loopN ?_
        exact ⟨i + 1, ⟨by omega, all_take (by assumption) hi.2 (by assumption)⟩, by omega, hasOf ⟨rfl, trivial⟩ rfl⟩
    · intro h2
      try rw [Decidable.not_not] at h2
      refine s_exit ?_
      refine q_seqX ?_
      refine q_loopX ?_
      refine q_blkH ?_
      refine q_seqN ?_
      refine s_keep [1] rfl ?_
      refine S_seq ?_
      refine s_rg ?_
      refine s_op (o_faC rfl) ?_
      refine s_op (o_ldC rfl rfl rfl) ?_
      first | refine s_op (o_lenM rfl) ?_ | refine s_op (o_len rfl) ?_ | refine s_op (o_lenL rfl rfl rfl) ?_ | refine s_op (o_lenN rfl) ?_
      first | refine s_op (o_eql rfl rfl) ?_ | refine s_op (o_bin rfl rfl rfl rfl) ?_
      refine s_op (o_mv rfl) ?_
      first | refine s_gDT rfl ?_ ?_ | refine s_gNDT rfl ?_ ?_ | refine s_gNT rfl ?_ ?_ | refine s_gB rfl ?_ ?_
      · intro h5
        try rw [Decidable.not_not] at h5
        refine s_op (o_faC rfl) ?_
        refine s_gT rfl ?_
        refine s_op (o_ldC rfl rfl rfl) ?_
        refine s_gT rfl ?_
        refine s_op (o_not rfl) ?_
        refine s_op (o_pickT rfl rfl) ?_
        refine s_op (o_mv rfl) ?_
        first | refine s_gDF rfl ?_ ?_ | refine s_gNDF rfl ?_ ?_ | refine s_gNF rfl ?_ ?_ | refine s_gB rfl ?_ ?_
        · intro h6
          try rw [Decidable.not_not] at h6
          refine s_op (o_faC rfl) ?_
          refine s_gT rfl ?_
          refine s_op (o_ldC rfl rfl rfl) ?_
          refine s_gT rfl ?_
          first | refine s_op (o_lenM rfl) ?_ | refine s_op (o_len rfl) ?_ | refine s_op (o_lenL rfl rfl rfl) ?_ | refine s_op (o_lenN rfl) ?_
          refine s_gT rfl ?_
          refine s_op (o_faC rfl) ?_
          refine s_keepO (is := [1, 39, 42, 43]) rfl ?_
          refine s_gT rfl ?_
          refine s_op (o_ldC rfl rfl rfl) ?_
          refine s_gT rfl ?_
          first | refine s_call rfl rfl (c_173 ..) ?_ | refine s_callL rfl rfl (by simp) (c_173 ..) rfl ?_
          refine s_gT rfl ?_
          first | refine s_op (o_eql rfl rfl) ?_ | refine s_op (o_bin rfl rfl rfl rfl) ?_
          refine s_gT rfl ?_
          refine s_op (o_mv rfl) ?_
          first | refine s_gDT rfl ?_ ?_ | refine s_gNDT rfl ?_ ?_ | refine s_gNT rfl ?_ ?_ | refine s_gB rfl ?_ ?_
          · intro h7
            try rw [Decidable.not_not] at h7
            refine s_op (o_faC rfl) ?_
            refine s_gT rfl ?_
            refine s_op (o_ldC rfl rfl rfl) ?_
            refine s_gT rfl ?_
            refine s_op (o_pickT rfl rfl) ?_
            refine s_op (o_pickF rfl rfl) ?_
            refine s_op (o_mv rfl) ?_
            refine s_nilO ?_
            refine q_seqN ?_
            refine s_keep [2] rfl ?_
            refine s_ret ?_
            refine ret_leaf (.inr rfl) rfl rfl ?_
            refine congrArg (fun b => V.w (.bool b)) ?_
            first | (unfold Req.ok; rw [all_no (by assumption) (by assumption)]; simp; done) | (have ha := all_end hi.2 (by omega); clear hi; cases hw : x.write <;> simp_all [Req.ok]; done) | (have ha := all_end hi.2 (by omega); clear hi; cases hw : x.write <;> simp_all [Req.ok] <;> omega) | (simp_all [Req.ok]; done)
          · intro h7
            try rw [Decidable.not_not] at h7
            refine s_gF rfl ?_
            refine s_gF rfl ?_
            refine s_gT rfl ?_
            refine s_op (o_pickF rfl rfl) ?_
            refine s_op (o_pickF rfl rfl) ?_
            refine s_op (o_mv rfl) ?_
            refine s_nilO ?_
            refine q_seqN ?_
            refine s_keep [2] rfl ?_
            refine s_ret ?_
            refine ret_leaf (.inr rfl) rfl rfl ?_
            refine congrArg (fun b => V.w (.bool b)) ?_
            first | (unfold Req.ok; rw [all_no (by assumption) (by assumption)]; simp; done) | (have ha := all_end hi.2 (by omega); clear hi; cases hw : x.write <;> simp_all [Req.ok]; done) | (have ha := all_end hi.2 (by omega); clear hi; cases hw : x.write <;> simp_all [Req.ok] <;> omega) | (simp_all [Req.ok]; done)
        · intro h6
          try rw [Decidable.not_not] at h6
          refine s_gF rfl ?_
          refine s_gF rfl ?_
          refine s_gF rfl ?_
          refine s_gF rfl ?_
          refine s_keepO (is := [1, 39, 42, 43]) rfl ?_
          refine s_gF rfl ?_
          refine s_gF rfl ?_
          refine s_gF rfl ?_
          refine s_gF rfl ?_
          refine s_gN rfl ?_
          refine s_gN rfl ?_
          refine s_gF rfl ?_
          refine s_op (o_pickT rfl rfl) ?_
          refine s_op (o_mv rfl) ?_
          refine s_nilO ?_
          refine q_seqN ?_
          refine s_keep [2] rfl ?_
          refine s_ret ?_
          refine ret_leaf (.inr rfl) rfl rfl ?_
          refine congrArg (fun b => V.w (.bool b)) ?_
          first | (unfold Req.ok; rw [all_no (by assumption) (by assumption)]; simp; done) | (have ha := all_end hi.2 (by omega); clear hi; cases hw : x.write <;> simp_all [Req.ok]; done) | (have ha := all_end hi.2 (by omega); clear hi; cases hw : x.write <;> simp_all [Req.ok] <;> omega) | (simp_all [Req.ok]; done)
      · intro h5
        try rw [Decidable.not_not] at h5
        refine s_gF rfl ?_
        refine s_gF rfl ?_
        refine s_gF rfl ?_
        refine s_op (o_pickF rfl rfl) ?_
        refine s_op (o_mv rfl) ?_
        refine s_gT rfl ?_
        refine s_op (o_faC rfl) ?_
        refine s_gT rfl ?_
        refine s_op (o_ldC rfl rfl rfl) ?_
        refine s_gT rfl ?_
        first | refine s_op (o_lenM rfl) ?_ | refine s_op (o_len rfl) ?_ | refine s_op (o_lenL rfl rfl rfl) ?_ | refine s_op (o_lenN rfl) ?_
        refine s_gT rfl ?_
        refine s_op (o_faC rfl) ?_
        refine s_keepO (is := [1, 39, 42, 43]) rfl ?_
        refine s_gT rfl ?_
        refine s_op (o_ldC rfl rfl rfl) ?_
        refine s_gT rfl ?_
        first | refine s_call rfl rfl (c_173 ..) ?_ | refine s_callL rfl rfl (by simp) (c_173 ..) rfl ?_
        refine s_gT rfl ?_
        first | refine s_op (o_eql rfl rfl) ?_ | refine s_op (o_bin rfl rfl rfl rfl) ?_
        refine s_gT rfl ?_
        refine s_op (o_mv rfl) ?_
        first | refine s_gDT rfl ?_ ?_ | refine s_gNDT rfl ?_ ?_ | refine s_gNT rfl ?_ ?_ | refine s_gB rfl ?_ ?_
        · intro h8
          try rw [Decidable.not_not] at h8
          refine s_op (o_faC rfl) ?_
          refine s_gT rfl ?_
          refine s_op (o_ldC rfl rfl rfl) ?_
          refine s_gT rfl ?_
          refine s_op (o_pickT rfl rfl) ?_
          refine s_op (o_pickF rfl rfl) ?_
          refine s_op (o_mv rfl) ?_
          refine s_nilO ?_
          refine q_seqN ?_
          refine s_keep [2] rfl ?_
          refine s_ret ?_
          refine ret_leaf (.inr rfl) rfl rfl ?_
          refine congrArg (fun b => V.w (.bool b)) ?_
          first | (unfold Req.ok; rw [all_no (by assumption) (by assumption)]; simp; done) | (have ha := all_end hi.2 (by omega); clear hi; cases hw : x.write <;> simp_all [Req.ok]; done) | (have ha := all_end hi.2 (by omega); clear hi; cases hw : x.write <;> simp_all [Req.ok] <;> omega) | (simp_all [Req.ok]; done)
        · intro h8
          try rw [Decidable.not_not] at h8
          refine s_gF rfl ?_
          refine s_gF rfl ?_
          refine s_gT rfl ?_
          refine s_op (o_pickF rfl rfl) ?_
          refine s_op (o_pickF rfl rfl) ?_
          refine s_op (o_mv rfl) ?_
          refine s_nilO ?_
          refine q_seqN ?_
          refine s_keep [2] rfl ?_
          refine s_ret ?_
          refine ret_leaf (.inr rfl) rfl rfl ?_
          refine congrArg (fun b => V.w (.bool b)) ?_
          first | (unfold Req.ok; rw [all_no (by assumption) (by assumption)]; simp; done) | (have ha := all_end hi.2 (by omega); clear hi; cases hw : x.write <;> simp_all [Req.ok]; done) | (have ha := all_end hi.2 (by omega); clear hi; cases hw : x.write <;> simp_all [Req.ok] <;> omega) | (simp_all [Req.ok]; done)

def Mst.beats (m : Mst) : Int := match m.queue[0]? with | some r => AL.beats r.burst | none => 0
def Mst.right (m : Mst) : Bool := decide (m.queue.length ≤ 4) && decide (0 ≤ m.tries) && m.queue.all Req.ok &&
  (if m.queue.length = 0 then decide (m.beat = 0) && decide (m.done = 0) && decide (m.tries = 0) && !m.parted && !m.broken else inB m.done 0 (m.beats - 1) && inB m.beat m.done (min (m.done + 2) m.beats))
theorem Mst.beats_bd (m : Mst) : 0 ≤ m.beats ∧ m.beats ≤ 8 := by
  unfold Mst.beats
  split
  · exact AL.beats_bd _
  · simp
theorem Mst.beats_ne {m : Mst} (h : 0 < m.beats) : 0 < m.queue.length := by
  unfold Mst.beats at h
  split at h
  · rename_i r hr; exact (List.getElem?_eq_some_iff.1 hr).1
  · omega
theorem Mst.beats_nil {m : Mst} (h : m.queue.length = 0) : m.beats = 0 := by
  unfold Mst.beats
  rw [List.getElem?_eq_none (by omega)]
theorem Mst.beats_at {m : Mst} {r : Req} (h : m.queue[0]? = some r) : m.beats = AL.beats r.burst := by unfold Mst.beats; rw [h]
theorem mst_ix1 {m : Mst} {beat : Int} (h : inB beat 0 (m.beats - 1) = true) : (0 : Int) ≤ 0 ∧ (0 : Int) < m.queue.length := by
  have h1 := inB_t h
  have := Mst.beats_ne (m := m) (by omega)
  omega
theorem Mst.right_ok {m : Mst} (h : m.right = true) {i : Nat} {r : Req} (hr : m.queue[i]? = some r) : r.ok = true := by
  simp only [Mst.right, Bool.and_eq_true] at h
  exact List.all_eq_true.1 h.1.2 r (List.mem_of_getElem? hr)
theorem Req.ok_burst {r : Req} (h : r.ok = true) : ((burstL r.addr r.size r.burst).length : Int) = AL.beats r.burst := by
  simp only [Req.ok, burstOk, Bool.and_eq_true, decide_eq_true_eq] at h
  have h1 := burstL_len r.addr r.size r.burst
  have h2 := AL.beats_bd r.burst
  omega
theorem mst_ix2 {m : Mst} {beat : Int} {r : Req} (h1 : m.right = true) (h : inB beat 0 (m.beats - 1) = true) (hq : m.queue[0]? = some r) : 0 ≤ beat ∧ beat < ((burstL r.addr r.size r.burst).length : Int) := by
  have h2 := inB_t h
  rw [Req.ok_burst (Mst.right_ok h1 hq), ← Mst.beats_at hq]
  omega
def Mst.addrAt (m : Mst) (beat : Int) : Int := if m.right && inB beat 0 (m.beats - 1) then (match m.queue[0]? with | some r => ((burstL r.addr r.size r.burst)[beat.toNat]?).getD 0 | none => 0) else -1
theorem req_not (xs : List Req) : (!xs.any (fun r => !r.ok)) = xs.all Req.ok := by
  induction xs with
  | nil => rfl
  | cons m xs ih => simp only [List.any_cons, List.all_cons, Bool.not_or, Bool.not_not, ih]
theorem req_any (xs : List Req) : xs.any (fun r => !r.ok) = !xs.all Req.ok := by rw [← req_not, Bool.not_not]

theorem c_18 (m : Mst) : CV prg 18 [.rp m.r 0] (fun res => res = .w (.int .i64 m.beats)) := by
  refine cv_in g18 ?_
  refine s_keep [0] rfl ?_
  refine S_seq ?_
  refine s_rg ?_
  refine s_op (o_mv rfl) ?_
  refine s_nilO ?_
  refine q_seqN ?_
  refine s_keep [0] rfl ?_
  refine S_seq ?_
  refine S_seq ?_
  refine s_rg ?_
  refine s_op (o_mv rfl) ?_
  first | refine s_op (o_nilc rfl) ?_ | refine s_op (o_nilcR rfl) ?_
  refine s_op (o_fa rfl) ?_
  refine s_op (o_ld rfl rfl) ?_
  first | refine s_op (o_lenM rfl) ?_ | refine s_op (o_len rfl) ?_ | refine s_op (o_lenL rfl rfl rfl) ?_ | refine s_op (o_lenN rfl) ?_
  first | refine s_op (o_eql rfl rfl) ?_ | refine s_op (o_bin rfl rfl rfl rfl) ?_
  refine s_nilO ?_
  refine q_seqN ?_
  refine s_keep [0, 8] rfl ?_
  first | refine s_condD rfl ?_ ?_ | refine s_condN rfl ?_ ?_ | refine s_condNB rfl ?_ ?_ | refine s_condB rfl ?_ ?_
  · intro h1
    try rw [Decidable.not_not] at h1
    refine S_seq ?_
    refine s_rg ?_
    refine s_op (o_mv rfl) ?_
    refine s_nilO ?_
    refine q_seqN ?_
    refine s_keep [2] rfl ?_
    refine s_ret ?_
    refine q_seqR ?_
    refine ret_leaf (.inr rfl) rfl rfl ?_
    refine congrArg (fun b => V.w (.int .i64 b)) ?_
    first | exact (Mst.beats_at (by assumption)).symm | exact (Mst.beats_nil (by omega)).symm
  · intro h1
    try rw [Decidable.not_not] at h1
    refine s_skip ?_
    refine q_seqN ?_
    refine s_keep [0] rfl ?_
    refine S_seq ?_
    refine s_rg ?_
    refine s_op (o_mv rfl) ?_
    first | refine s_op (o_nilc rfl) ?_ | refine s_op (o_nilcR rfl) ?_
    refine s_op (o_fa rfl) ?_
    refine s_op (o_ld rfl rfl) ?_
    refine s_iaM rfl rfl (by omega) ?_
    intro y2 e2
    try simp only [Int.toNat_natCast, Int.toNat_zero] at e2
    refine s_op (o_fa rfl) ?_
    refine s_op (o_ld rfl rfl) ?_
    first | refine s_call rfl rfl (c_22 ..) ?_ | refine s_callL rfl rfl (by simp) (c_22 ..) rfl ?_
    refine s_op (o_mv rfl) ?_
    refine s_nilO ?_
    refine q_seqN ?_
    refine s_keep [2] rfl ?_
    refine s_ret ?_
    refine ret_leaf (.inr rfl) rfl rfl ?_
    refine congrArg (fun b => V.w (.int .i64 b)) ?_
    first | exact (Mst.beats_at (by assumption)).symm | exact (Mst.beats_nil (by omega)).symm

theorem c_220 (m : Mst) : CV prg 220 [.agg m.r] (fun res => res = .w (.int .i64 m.beats)) := by
  refine cv_in g220 ?_
  refine s_keep [0] rfl ?_
  refine S_seq ?_
  refine s_rg ?_
  refine s_op (o_box rfl rfl rfl) ?_
  refine s_op (o_mv rfl) ?_
  refine s_nilO ?_
  refine q_seqN ?_
  refine s_keep [1] rfl ?_
  refine S_seq ?_
  refine S_seq ?_
  refine s_rg ?_
  refine s_op (o_faC rfl) ?_
  refine s_op (o_ldC rfl rfl rfl) ?_
  first | refine s_op (o_lenM rfl) ?_ | refine s_op (o_len rfl) ?_ | refine s_op (o_lenL rfl rfl rfl) ?_ | refine s_op (o_lenN rfl) ?_
  first | refine s_op (o_eql rfl rfl) ?_ | refine s_op (o_bin rfl rfl rfl rfl) ?_
  refine s_nilO ?_
  refine q_seqN ?_
  refine s_keep [1, 6] rfl ?_
  first | refine s_condD rfl ?_ ?_ | refine s_condN rfl ?_ ?_ | refine s_condNB rfl ?_ ?_ | refine s_condB rfl ?_ ?_
  · intro h1
    try rw [Decidable.not_not] at h1
    refine S_seq ?_
    refine s_rg ?_
    refine s_op (o_mv rfl) ?_
    refine s_nilO ?_
    refine q_seqN ?_
    refine s_keep [2] rfl ?_
    refine s_ret ?_
    refine q_seqR ?_
    refine ret_leaf (.inr rfl) rfl rfl ?_
    refine congrArg (fun b => V.w (.int .i64 b)) ?_
    first | exact (Mst.beats_at (by assumption)).symm | exact (Mst.beats_nil (by omega)).symm
  · intro h1
    try rw [Decidable.not_not] at h1
    refine s_skip ?_
    refine q_seqN ?_
    refine s_keep [1] rfl ?_
    refine S_seq ?_
    refine s_rg ?_
    refine s_op (o_faC rfl) ?_
    refine s_op (o_ldC rfl rfl rfl) ?_
    refine s_iaM rfl rfl (by omega) ?_
    intro y2 e2
    try simp only [Int.toNat_natCast, Int.toNat_zero] at e2
    refine s_op (o_fa rfl) ?_
    refine s_op (o_ld rfl rfl) ?_
    first | refine s_call rfl rfl (c_173 ..) ?_ | refine s_callL rfl rfl (by simp) (c_173 ..) rfl ?_
    refine s_op (o_mv rfl) ?_
    refine s_nilO ?_
    refine q_seqN ?_
    refine s_keep [2] rfl ?_
    refine s_ret ?_
    refine ret_leaf (.inr rfl) rfl rfl ?_
    refine congrArg (fun b => V.w (.int .i64 b)) ?_
    first | exact (Mst.beats_at (by assumption)).symm | exact (Mst.beats_nil (by omega)).symm

theorem c_89 (r : Req) (hs : r.small) : CV prg 89 [.agg r.r] (fun res => res = .w (.bool (!r.ok))) := by
  refine cv_in g89 ?_
  refine s_keep [0] rfl ?_
  refine S_seq ?_
  refine s_rg ?_
  refine s_op (o_box rfl rfl rfl) ?_
  refine s_op (o_mv rfl) ?_
  refine s_nilO ?_
  refine q_seqN ?_
  refine s_keep [1] rfl ?_
  refine S_seq ?_
  refine s_rg ?_
  refine s_op (o_ldnC rfl rfl rfl) ?_
  first | refine s_call rfl rfl (c_66 _ (by assumption)) ?_ | refine s_callL rfl rfl (by simp) (c_66 _ (by assumption)) rfl ?_
  refine s_op (o_not rfl) ?_
  refine s_op (o_mv rfl) ?_
  refine s_nilO ?_
  refine q_seqN ?_
  refine s_keep [2] rfl ?_
  refine s_ret ?_
  refine ret_leaf (.inr rfl) rfl rfl ?_
  refine congrArg (fun b => V.w (.bool b)) ?_
  rfl

theorem c_88 (m : Mst) (hs : m.small) : CV prg 88 [.agg m.r] (fun res => res = .w (.bool m.right)) := by
  have hbb := m.beats_bd
  refine cv_in g88 ?_
  refine s_keep [0] rfl ?_
  refine S_seq ?_
  refine s_rg ?_
  refine s_op (o_box rfl rfl rfl) ?_
  refine s_op (o_mv rfl) ?_
  refine s_nilO ?_
  refine q_seqN ?_
  refine s_keep [1] rfl ?_
  refine S_seq ?_
  refine S_seq ?_
  refine s_rg ?_
  refine s_op (o_faC rfl) ?_
  refine s_op (o_ldC rfl rfl rfl) ?_
  first | refine s_op (o_lenM rfl) ?_ | refine s_op (o_len rfl) ?_ | refine s_op (o_lenL rfl rfl rfl) ?_ | refine s_op (o_lenN rfl) ?_
  first | refine s_op (o_gtr rfl rfl) ?_ | refine s_op (o_bin rfl rfl rfl rfl) ?_
  refine s_op (o_mv rfl) ?_
  first | refine s_gDF rfl ?_ ?_ | refine s_gNDF rfl ?_ ?_ | refine s_gNF rfl ?_ ?_ | refine s_gB rfl ?_ ?_
  · intro h1
    try rw [Decidable.not_not] at h1
    try have h1' := inB_t h1
    refine s_op (o_faC rfl) ?_
    refine s_gT rfl ?_
    refine s_op (o_ldC rfl rfl rfl) ?_
    refine s_gT rfl ?_
    first | refine s_op (o_lss rfl rfl) ?_ | refine s_op (o_bin rfl rfl rfl rfl) ?_
    refine s_op (o_pickF rfl rfl) ?_
    refine s_op (o_mv rfl) ?_
    first | refine s_gDF rfl ?_ ?_ | refine s_gNDF rfl ?_ ?_ | refine s_gNF rfl ?_ ?_ | refine s_gB rfl ?_ ?_
    · intro h2
      try rw [Decidable.not_not] at h2
      try have h2' := inB_t h2
      refine s_op (o_faC rfl) ?_
      refine s_gT rfl ?_
      refine s_op (o_ldC rfl rfl rfl) ?_
      refine s_gT rfl ?_
      refine s_call rfl rfl (c_260 _ (by have := hs.1; omega) _ _ rfl (fun r => !r.ok) (fun y hy => c_89 y (hs.2 y hy))) ?_
      refine s_op (o_pickF rfl rfl) ?_
      refine s_nilO ?_
      refine q_seqN ?_
      refine s_keep [1, 16] rfl ?_
      first | refine s_condD rfl ?_ ?_ | refine s_condN rfl ?_ ?_ | refine s_condNB rfl ?_ ?_ | refine s_condB rfl ?_ ?_
      · intro h3
        try rw [Decidable.not_not] at h3
        try have h3' := inB_t h3
        refine S_seq ?_
        refine s_rg ?_
        refine s_op (o_mv rfl) ?_
        refine s_nilO ?_
        refine q_seqN ?_
        refine s_keep [2] rfl ?_
        refine s_ret ?_
        refine q_seqR ?_
        refine ret_leaf (.inr rfl) rfl rfl ?_
        refine congrArg (fun b => V.w (.bool b)) ?_
        clear hs
        try simp only [req_any] at *
        unfold Mst.right
        generalize m.queue.all Req.ok = z at *
        generalize m.queue.length = n at *
        first | (simp_all [minL2]; done) | (simp_all [minL2] <;> omega)
      · intro h3
        try rw [Decidable.not_not] at h3
        try have h3' := inB_t h3
        refine s_skip ?_
        refine q_seqN ?_
        refine s_keep [1] rfl ?_
        refine S_seq ?_
        refine S_seq ?_
        refine s_rg ?_
        refine s_op (o_faC rfl) ?_
        refine s_op (o_ldC rfl rfl rfl) ?_
        first | refine s_op (o_lenM rfl) ?_ | refine s_op (o_len rfl) ?_ | refine s_op (o_lenL rfl rfl rfl) ?_ | refine s_op (o_lenN rfl) ?_
        first | refine s_op (o_eql rfl rfl) ?_ | refine s_op (o_bin rfl rfl rfl rfl) ?_
        refine s_nilO ?_
        refine q_seqN ?_
        refine s_keep [1, 20] rfl ?_
        first | refine s_condD rfl ?_ ?_ | refine s_condN rfl ?_ ?_ | refine s_condNB rfl ?_ ?_ | refine s_condB rfl ?_ ?_
        · intro h4
          try rw [Decidable.not_not] at h4
          try have h4' := inB_t h4
          refine S_seq ?_
          refine s_rg ?_
          refine s_op (o_faC rfl) ?_
          refine s_op (o_ldC rfl rfl rfl) ?_
          first | refine s_op (o_eql rfl rfl) ?_ | refine s_op (o_bin rfl rfl rfl rfl) ?_
          refine s_op (o_mv rfl) ?_
          first | refine s_gDT rfl ?_ ?_ | refine s_gNDT rfl ?_ ?_ | refine s_gNT rfl ?_ ?_ | refine s_gB rfl ?_ ?_
          · intro h5
            try rw [Decidable.not_not] at h5
            try have h5' := inB_t h5
            refine s_op (o_faC rfl) ?_
            refine s_gT rfl ?_
            refine s_op (o_ldC rfl rfl rfl) ?_
            refine s_gT rfl ?_
            first | refine s_op (o_eql rfl rfl) ?_ | refine s_op (o_bin rfl rfl rfl rfl) ?_
            refine s_op (o_pickT rfl rfl) ?_
            refine s_op (o_mv rfl) ?_
            first | refine s_gDT rfl ?_ ?_ | refine s_gNDT rfl ?_ ?_ | refine s_gNT rfl ?_ ?_ | refine s_gB rfl ?_ ?_
            · intro h6
              try rw [Decidable.not_not] at h6
              try have h6' := inB_t h6
              refine s_op (o_faC rfl) ?_
              refine s_gT rfl ?_
              refine s_op (o_ldC rfl rfl rfl) ?_
              refine s_gT rfl ?_
              first | refine s_op (o_eql rfl rfl) ?_ | refine s_op (o_bin rfl rfl rfl rfl) ?_
              refine s_op (o_pickT rfl rfl) ?_
              refine s_op (o_mv rfl) ?_
              refine s_keepO (is := [1, 34]) rfl ?_
              first | refine s_gDT rfl ?_ ?_ | refine s_gNDT rfl ?_ ?_ | refine s_gNT rfl ?_ ?_ | refine s_gB rfl ?_ ?_
              · intro h7
                try rw [Decidable.not_not] at h7
                try have h7' := inB_t h7
                refine s_op (o_faC rfl) ?_
                refine s_gT rfl ?_
                refine s_op (o_ldC rfl rfl rfl) ?_
                refine s_gT rfl ?_
                refine s_op (o_not rfl) ?_
                refine s_op (o_pickT rfl rfl) ?_
                refine s_op (o_mv rfl) ?_
                first | refine s_gDT rfl ?_ ?_ | refine s_gNDT rfl ?_ ?_ | refine s_gNT rfl ?_ ?_ | refine s_gB rfl ?_ ?_
                · intro h8
                  try rw [Decidable.not_not] at h8
                  try have h8' := inB_t h8
                  refine s_op (o_faC rfl) ?_
                  refine s_gT rfl ?_
                  refine s_op (o_ldC rfl rfl rfl) ?_
                  refine s_gT rfl ?_
                  refine s_op (o_not rfl) ?_
                  refine s_op (o_pickT rfl rfl) ?_
                  refine s_op (o_mv rfl) ?_
                  refine s_nilO ?_
                  refine q_seqN ?_
                  refine s_keep [2] rfl ?_
                  refine s_ret ?_
                  refine q_seqR ?_
                  refine ret_leaf (.inr rfl) rfl rfl ?_
                  refine congrArg (fun b => V.w (.bool b)) ?_
                  clear hs
                  try simp only [req_any] at *
                  unfold Mst.right
                  generalize m.queue.all Req.ok = z at *
                  generalize m.queue.length = n at *
                  first | (simp_all [minL2]; done) | (simp_all [minL2] <;> omega)
                · intro h8
                  try rw [Decidable.not_not] at h8
                  try have h8' := inB_t h8
                  refine s_gF rfl ?_
                  refine s_gF rfl ?_
                  refine s_gF rfl ?_
                  refine s_op (o_pickF rfl rfl) ?_
                  refine s_op (o_mv rfl) ?_
                  refine s_nilO ?_
                  refine q_seqN ?_
                  refine s_keep [2] rfl ?_
                  refine s_ret ?_
                  refine q_seqR ?_
                  refine ret_leaf (.inr rfl) rfl rfl ?_
                  refine congrArg (fun b => V.w (.bool b)) ?_
                  clear hs
                  try simp only [req_any] at *
                  unfold Mst.right
                  generalize m.queue.all Req.ok = z at *
                  generalize m.queue.length = n at *
                  first | (simp_all [minL2]; done) | (simp_all [minL2] <;> omega)
              · intro h7
                try rw [Decidable.not_not] at h7
                try have h7' := inB_t h7
                refine s_gF rfl ?_
                refine s_gF rfl ?_
                refine s_gF rfl ?_
                refine s_op (o_pickF rfl rfl) ?_
                refine s_op (o_mv rfl) ?_
                refine s_gF rfl ?_
                refine s_gF rfl ?_
                refine s_gF rfl ?_
                refine s_op (o_pickF rfl rfl) ?_
                refine s_op (o_mv rfl) ?_
                refine s_nilO ?_
                refine q_seqN ?_
                refine s_keep [2] rfl ?_
                refine s_ret ?_
                refine q_seqR ?_
                refine ret_leaf (.inr rfl) rfl rfl ?_
                refine congrArg (fun b => V.w (.bool b)) ?_
                clear hs
                try simp only [req_any] at *
                unfold Mst.right
                generalize m.queue.all Req.ok = z at *
                generalize m.queue.length = n at *
                first | (simp_all [minL2]; done) | (simp_all [minL2] <;> omega)
            · intro h6
              try rw [Decidable.not_not] at h6
              try have h6' := inB_t h6
              refine s_gF rfl ?_
              refine s_gF rfl ?_
              refine s_gF rfl ?_
              refine s_op (o_pickF rfl rfl) ?_
              refine s_op (o_mv rfl) ?_
              refine s_keepO (is := [1, 34]) rfl ?_
              refine s_gF rfl ?_
              refine s_gF rfl ?_
              refine s_gF rfl ?_
              refine s_op (o_pickF rfl rfl) ?_
              refine s_op (o_mv rfl) ?_
              refine s_gF rfl ?_
              refine s_gF rfl ?_
              refine s_gF rfl ?_
              refine s_op (o_pickF rfl rfl) ?_
              refine s_op (o_mv rfl) ?_
              refine s_nilO ?_
              refine q_seqN ?_
              refine s_keep [2] rfl ?_
              refine s_ret ?_
              refine q_seqR ?_
              refine ret_leaf (.inr rfl) rfl rfl ?_
              refine congrArg (fun b => V.w (.bool b)) ?_
              clear hs
              try simp only [req_any] at *
              unfold Mst.right
              generalize m.queue.all Req.ok = z at *
              generalize m.queue.length = n at *
              first | (simp_all [minL2]; done) | (simp_all [minL2] <;> omega)
          · intro h5
            try rw [Decidable.not_not] at h5
            try have h5' := inB_t h5
            refine s_gF rfl ?_
            refine s_gF rfl ?_
            refine s_gF rfl ?_
            refine s_op (o_pickF rfl rfl) ?_
            refine s_op (o_mv rfl) ?_
            refine s_gF rfl ?_
            refine s_gF rfl ?_
            refine s_gF rfl ?_
            refine s_op (o_pickF rfl rfl) ?_
            refine s_op (o_mv rfl) ?_
            refine s_keepO (is := [1, 34]) rfl ?_
            refine s_gF rfl ?_
            refine s_gF rfl ?_
            refine s_gF rfl ?_
            refine s_op (o_pickF rfl rfl) ?_
            refine s_op (o_mv rfl) ?_
            refine s_gF rfl ?_
            refine s_gF rfl ?_
            refine s_gF rfl ?_
            refine s_op (o_pickF rfl rfl) ?_
            refine s_op (o_mv rfl) ?_
            refine s_nilO ?_
            refine q_seqN ?_
            refine s_keep [2] rfl ?_
            refine s_ret ?_
            refine q_seqR ?_
            refine ret_leaf (.inr rfl) rfl rfl ?_
            refine congrArg (fun b => V.w (.bool b)) ?_
            clear hs
            try simp only [req_any] at *
            unfold Mst.right
            generalize m.queue.all Req.ok = z at *
            generalize m.queue.length = n at *
            first | (simp_all [minL2]; done) | (simp_all [minL2] <;> omega)
        · intro h4
          try rw [Decidable.not_not] at h4
          try have h4' := inB_t h4
          refine s_skip ?_
          refine q_seqN ?_
          refine s_keep [1] rfl ?_
          refine S_seq ?_
          refine s_rg ?_
          refine s_op (o_faC rfl) ?_
          refine s_op (o_ldC rfl rfl rfl) ?_
          refine s_callL rfl rfl (by simp) (c_18 m) rfl ?_
          first | refine s_op (o_subn rfl rfl (by first | omega | (simp only [minL2]; omega))) ?_ | refine s_op (o_sub rfl rfl) ?_
          first | refine s_call rfl rfl (c_103 ..) ?_ | refine s_callL rfl rfl (by simp) (c_103 ..) rfl ?_
          refine s_op (o_mv rfl) ?_
          first | refine s_gDT rfl ?_ ?_ | refine s_gNDT rfl ?_ ?_ | refine s_gNT rfl ?_ ?_ | refine s_gB rfl ?_ ?_
          · intro h9
            try rw [Decidable.not_not] at h9
            try have h9' := inB_t h9
            refine s_op (o_faC rfl) ?_
            refine s_gT rfl ?_
            refine s_op (o_ldC rfl rfl rfl) ?_
            refine s_gT rfl ?_
            refine s_op (o_faC rfl) ?_
            refine s_gT rfl ?_
            refine s_op (o_ldC rfl rfl rfl) ?_
            refine s_gT rfl ?_
            refine s_op (o_faC rfl) ?_
            refine s_gT rfl ?_
            refine s_op (o_ldC rfl rfl rfl) ?_
            refine s_gT rfl ?_
            first | refine s_op (o_addn rfl rfl (by first | omega | (simp only [minL2]; omega))) ?_ | refine s_op (o_add rfl rfl) ?_
            refine s_gT rfl ?_
            refine s_callL rfl rfl (by simp) (c_18 m) rfl ?_
            refine s_keepO (is := [49, 51, 53, 56, 57]) rfl ?_
            refine s_gT rfl ?_
            refine s_op (o_mn rfl) ?_
            refine s_gT rfl ?_
            first | refine s_call rfl rfl (c_103 ..) ?_ | refine s_callL rfl rfl (by simp) (c_103 ..) rfl ?_
            refine s_op (o_pickT rfl rfl) ?_
            refine s_op (o_mv rfl) ?_
            refine s_nilO ?_
            refine q_seqN ?_
            refine s_keep [2] rfl ?_
            refine s_ret ?_
            refine ret_leaf (.inr rfl) rfl rfl ?_
            refine congrArg (fun b => V.w (.bool b)) ?_
            clear hs
            try simp only [req_any] at *
            unfold Mst.right
            generalize m.queue.all Req.ok = z at *
            generalize m.queue.length = n at *
            first | (simp_all [minL2]; done) | (simp_all [minL2] <;> omega)
          · intro h9
            try rw [Decidable.not_not] at h9
            try have h9' := inB_t h9
            refine s_gF rfl ?_
            refine s_gF rfl ?_
            refine s_gF rfl ?_
            refine s_gF rfl ?_
            refine s_gF rfl ?_
            refine s_gF rfl ?_
            refine s_gF rfl ?_
            refine s_gF rfl ?_
            refine s_keepO (is := [49, 51, 53, 56, 57]) rfl ?_
            refine s_gF rfl ?_
            refine s_gF rfl ?_
            refine s_op (o_pickF rfl rfl) ?_
            refine s_op (o_mv rfl) ?_
            refine s_nilO ?_
            refine q_seqN ?_
            refine s_keep [2] rfl ?_
            refine s_ret ?_
            refine ret_leaf (.inr rfl) rfl rfl ?_
            refine congrArg (fun b => V.w (.bool b)) ?_
            clear hs
            try simp only [req_any] at *
            unfold Mst.right
            generalize m.queue.all Req.ok = z at *
            generalize m.queue.length = n at *
            first | (simp_all [minL2]; done) | (simp_all [minL2] <;> omega)
    · intro h2
      try rw [Decidable.not_not] at h2
      try have h2' := inB_t h2
      refine s_gF rfl ?_
      refine s_gF rfl ?_
      refine s_gF rfl ?_
      refine s_op (o_pickT rfl rfl) ?_
      refine s_nilO ?_
      refine q_seqN ?_
      refine s_keep [1, 16] rfl ?_
      refine s_condT rfl ?_
      refine S_seq ?_
      refine s_rg ?_
      refine s_op (o_mv rfl) ?_
      refine s_nilO ?_
      refine q_seqN ?_
      refine s_keep [2] rfl ?_
      refine s_ret ?_
      refine q_seqR ?_
      refine ret_leaf (.inr rfl) rfl rfl ?_
      refine congrArg (fun b => V.w (.bool b)) ?_
      clear hs
      try simp only [req_any] at *
      unfold Mst.right
      generalize m.queue.all Req.ok = z at *
      generalize m.queue.length = n at *
      first | (simp_all [minL2]; done) | (simp_all [minL2] <;> omega)
  · intro h1
    try rw [Decidable.not_not] at h1
    try have h1' := inB_t h1
    refine s_gF rfl ?_
    refine s_gF rfl ?_
    refine s_gF rfl ?_
    refine s_op (o_pickT rfl rfl) ?_
    refine s_op (o_mv rfl) ?_
    refine s_gF rfl ?_
    refine s_gF rfl ?_
    refine s_gF rfl ?_
    refine s_op (o_pickT rfl rfl) ?_
    refine s_nilO ?_
    refine q_seqN ?_
    refine s_keep [1, 16] rfl ?_
    refine s_condT rfl ?_
    refine S_seq ?_
    refine s_rg ?_
    refine s_op (o_mv rfl) ?_
    refine s_nilO ?_
    refine q_seqN ?_
    refine s_keep [2] rfl ?_
    refine s_ret ?_
    refine q_seqR ?_
    refine ret_leaf (.inr rfl) rfl rfl ?_
    refine congrArg (fun b => V.w (.bool b)) ?_
    clear hs
    try simp only [req_any] at *
    unfold Mst.right
    generalize m.queue.all Req.ok = z at *
    generalize m.queue.length = n at *
    first | (simp_all [minL2]; done) | (simp_all [minL2] <;> omega)

theorem c_221 (m : Mst) (hs : m.small) : CV prg 221 [.agg m.r] (fun res => res = .w (.bool m.right)) := by
  have hbb := m.beats_bd
  have hq := hs.1
  refine cv_in g221 ?_
  refine s_keep [0] rfl ?_
  refine S_seq ?_
  refine s_rg ?_
  refine s_op (o_box rfl rfl rfl) ?_
  refine s_op (o_mv rfl) ?_
  refine s_nilO ?_
  refine q_seqN ?_
  refine s_keep [1] rfl ?_
  refine S_seq ?_
  refine S_seq ?_
  refine s_rg ?_
  refine s_op (o_mv rfl) ?_
  refine s_nilO ?_
  refine q_seqN ?_
  refine s_keep [1, 3] rfl ?_
  refine S_block ?_
  refine S_loop0 (ι := Nat) (fun i => i ≤ m.queue.length ∧ (m.queue.take i).all Req.ok = true) (fun i => [(3, .w (.int .i64 (i : Int)))]) (fun i => m.queue.length - i) 0 (by simp) rfl ⟨rfl, trivial⟩ (fun _ _ => rfl) rfl ?_
  intro i hi
  refine s_keep [1, 3] rfl ?_
  refine S_seq ?_
  refine S_seq ?_
  refine s_rg ?_
  refine s_op (o_mv rfl) ?_
  refine s_op (o_faC rfl) ?_
  refine s_op (o_ldC rfl rfl rfl) ?_
  first | refine s_op (o_lenM rfl) ?_ | refine s_op (o_len rfl) ?_ | refine s_op (o_lenL rfl rfl rfl) ?_ | refine s_op (o_lenN rfl) ?_
  first | refine s_op (o_lss rfl rfl) ?_ | refine s_op (o_bin rfl rfl rfl rfl) ?_
  refine s_nilO ?_
  refine q_seqN ?_
  refine s_keep [1, 3, 8] rfl ?_
  first | refine s_condD rfl ?_ ?_ | refine s_condN rfl ?_ ?_ | refine s_condNB rfl ?_ ?_ | refine s_condB rfl ?_ ?_
  · intro h1
    try rw [Decidable.not_not] at h1
    try have h1' := inB_t h1
    refine s_skip ?_
    refine q_seqN ?_
    refine s_keep [1, 3] rfl ?_
    refine S_seq ?_
    refine S_block ?_
    refine S_seq ?_
    refine s_rg ?_
    refine s_op (o_faC rfl) ?_
    refine s_op (o_ldC rfl rfl rfl) ?_
    refine s_op (o_mv rfl) ?_
    refine s_iaM rfl rfl (by omega) ?_
    intro y2 e2
    try simp only [Int.toNat_natCast, Int.toNat_zero] at e2
    refine s_op (o_ldn rfl rfl) ?_
    first | refine s_call rfl rfl (c_207 _ (hs.2 _ (List.mem_of_getElem? (by assumption)))) ?_ | refine s_callL rfl rfl (by simp) (c_207 _ (hs.2 _ (List.mem_of_getElem? (by assumption)))) rfl ?_
    refine s_op (o_not rfl) ?_
    refine s_nilO ?_
    refine q_seqN ?_
    refine s_keep [1, 3, 17] rfl ?_
    first | refine s_condD rfl ?_ ?_ | refine s_condN rfl ?_ ?_ | refine s_condNB rfl ?_ ?_ | refine s_condB rfl ?_ ?_
    · intro h3
      try rw [Decidable.not_not] at h3
      try have h3' := inB_t h3
      refine S_seq ?_
      refine s_rg ?_
      refine s_op (o_mv rfl) ?_
      refine s_nilO ?_
      refine q_seqN ?_
      refine s_keep [2] rfl ?_
      refine s_ret ?_
      refine q_blkR ?_
      refine q_seqR ?_
      refine q_loopR ?_
      refine q_blkR ?_
      refine q_seqR ?_
      refine ret_leaf (.inr rfl) rfl rfl ?_
      refine congrArg (fun b => V.w (.bool b)) ?_
      clear hs; first | (unfold Mst.right; rw [all_no (by assumption : m.queue[i]? = some _) (by assumption)]; simp; done) | (have ha := all_end hi.2 (by omega); clear hi; simp_all [Mst.right, minL2]; done) | (have ha := all_end hi.2 (by omega); clear hi; simp_all [Mst.right, minL2] <;> omega)
    · intro h3
      try rw [Decidable.not_not] at h3
      try have h3' := inB_t h3
      refine s_skip ?_
      refine q_blkN ?_
      refine q_seqN ?_
      refine s_keep [1, 3] rfl ?_
      refine s_rg ?_
      refine s_op (o_mv rfl) ?_
      first | refine s_op (o_addn rfl rfl (by omega)) ?_ | refine s_op (o_add rfl rfl) ?_
      refine s_op (o_mv rfl) ?_
      refine s_nilO ?_
      refine q_loopN ?_
      exact ⟨i + 1, ⟨by omega, all_take (by assumption) hi.2 (by assumption)⟩, by omega, hasOf ⟨rfl, trivial⟩ rfl⟩
  · intro h1
    try rw [Decidable.not_not] at h1
    try have h1' := inB_t h1
    refine s_exit ?_
    refine q_seqX ?_
    refine q_loopX ?_
    refine q_blkH ?_
    refine q_seqN ?_
    refine s_keep [1] rfl ?_
    refine S_seq ?_
    refine S_seq ?_
    refine s_rg ?_
    refine s_op (o_faC rfl) ?_
    refine s_op (o_ldC rfl rfl rfl) ?_
    first | refine s_op (o_lenM rfl) ?_ | refine s_op (o_len rfl) ?_ | refine s_op (o_lenL rfl rfl rfl) ?_ | refine s_op (o_lenN rfl) ?_
    first | refine s_op (o_gtr rfl rfl) ?_ | refine s_op (o_bin rfl rfl rfl rfl) ?_
    refine s_op (o_mv rfl) ?_
    first | refine s_gDF rfl ?_ ?_ | refine s_gNDF rfl ?_ ?_ | refine s_gNF rfl ?_ ?_ | refine s_gB rfl ?_ ?_
    · intro h4
      try rw [Decidable.not_not] at h4
      try have h4' := inB_t h4
      refine s_op (o_faC rfl) ?_
      refine s_gT rfl ?_
      refine s_op (o_ldC rfl rfl rfl) ?_
      refine s_gT rfl ?_
      first | refine s_op (o_lss rfl rfl) ?_ | refine s_op (o_bin rfl rfl rfl rfl) ?_
      refine s_op (o_pickF rfl rfl) ?_
      refine s_nilO ?_
      refine q_seqN ?_
      refine s_keep [1, 26] rfl ?_
      first | refine s_condD rfl ?_ ?_ | refine s_condN rfl ?_ ?_ | refine s_condNB rfl ?_ ?_ | refine s_condB rfl ?_ ?_
      · intro h5
        try rw [Decidable.not_not] at h5
        try have h5' := inB_t h5
        refine S_seq ?_
        refine s_rg ?_
        refine s_op (o_mv rfl) ?_
        refine s_nilO ?_
        refine q_seqN ?_
        refine s_keep [2] rfl ?_
        refine s_ret ?_
        refine q_seqR ?_
        refine ret_leaf (.inr rfl) rfl rfl ?_
        refine congrArg (fun b => V.w (.bool b)) ?_
        clear hs; first | (unfold Mst.right; rw [all_no (by assumption : m.queue[i]? = some _) (by assumption)]; simp; done) | (have ha := all_end hi.2 (by omega); clear hi; simp_all [Mst.right, minL2]; done) | (have ha := all_end hi.2 (by omega); clear hi; simp_all [Mst.right, minL2] <;> omega)
      · intro h5
        try rw [Decidable.not_not] at h5
        try have h5' := inB_t h5
        refine s_skip ?_
        refine q_seqN ?_
        refine s_keep [1] rfl ?_
        refine S_seq ?_
        refine S_seq ?_
        refine s_rg ?_
        refine s_op (o_faC rfl) ?_
        refine s_op (o_ldC rfl rfl rfl) ?_
        first | refine s_op (o_lenM rfl) ?_ | refine s_op (o_len rfl) ?_ | refine s_op (o_lenL rfl rfl rfl) ?_ | refine s_op (o_lenN rfl) ?_
        first | refine s_op (o_eql rfl rfl) ?_ | refine s_op (o_bin rfl rfl rfl rfl) ?_
        refine s_nilO ?_
        refine q_seqN ?_
        refine s_keep [1, 30] rfl ?_
        first | refine s_condD rfl ?_ ?_ | refine s_condN rfl ?_ ?_ | refine s_condNB rfl ?_ ?_ | refine s_condB rfl ?_ ?_
        · intro h6
          try rw [Decidable.not_not] at h6
          try have h6' := inB_t h6
          refine S_seq ?_
          refine s_rg ?_
          refine s_op (o_faC rfl) ?_
          refine s_op (o_ldC rfl rfl rfl) ?_
          first | refine s_op (o_eql rfl rfl) ?_ | refine s_op (o_bin rfl rfl rfl rfl) ?_
          refine s_op (o_mv rfl) ?_
          first | refine s_gDT rfl ?_ ?_ | refine s_gNDT rfl ?_ ?_ | refine s_gNT rfl ?_ ?_ | refine s_gB rfl ?_ ?_
          · intro h7
            try rw [Decidable.not_not] at h7
            try have h7' := inB_t h7
            refine s_op (o_faC rfl) ?_
            refine s_gT rfl ?_
            refine s_op (o_ldC rfl rfl rfl) ?_
            refine s_gT rfl ?_
            first | refine s_op (o_eql rfl rfl) ?_ | refine s_op (o_bin rfl rfl rfl rfl) ?_
            refine s_op (o_pickT rfl rfl) ?_
            refine s_op (o_mv rfl) ?_
            first | refine s_gDT rfl ?_ ?_ | refine s_gNDT rfl ?_ ?_ | refine s_gNT rfl ?_ ?_ | refine s_gB rfl ?_ ?_
            · intro h8
              try rw [Decidable.not_not] at h8
              try have h8' := inB_t h8
              refine s_op (o_faC rfl) ?_
              refine s_gT rfl ?_
              refine s_op (o_ldC rfl rfl rfl) ?_
              refine s_gT rfl ?_
              first | refine s_op (o_eql rfl rfl) ?_ | refine s_op (o_bin rfl rfl rfl rfl) ?_
              refine s_op (o_pickT rfl rfl) ?_
              refine s_op (o_mv rfl) ?_
              refine s_keepO (is := [1, 44]) rfl ?_
              first | refine s_gDT rfl ?_ ?_ | refine s_gNDT rfl ?_ ?_ | refine s_gNT rfl ?_ ?_ | refine s_gB rfl ?_ ?_
              · intro h9
                try rw [Decidable.not_not] at h9
                try have h9' := inB_t h9
                refine s_op (o_faC rfl) ?_
                refine s_gT rfl ?_
                refine s_op (o_ldC rfl rfl rfl) ?_
                refine s_gT rfl ?_
                refine s_op (o_not rfl) ?_
                refine s_op (o_pickT rfl rfl) ?_
                refine s_op (o_mv rfl) ?_
                first | refine s_gDT rfl ?_ ?_ | refine s_gNDT rfl ?_ ?_ | refine s_gNT rfl ?_ ?_ | refine s_gB rfl ?_ ?_
                · intro h10
                  try rw [Decidable.not_not] at h10
                  try have h10' := inB_t h10
                  refine s_op (o_faC rfl) ?_
                  refine s_gT rfl ?_
                  refine s_op (o_ldC rfl rfl rfl) ?_
                  refine s_gT rfl ?_
                  refine s_op (o_not rfl) ?_
                  refine s_op (o_pickT rfl rfl) ?_
                  refine s_op (o_mv rfl) ?_
                  refine s_nilO ?_
                  refine q_seqN ?_
                  refine s_keep [2] rfl ?_
                  refine s_ret ?_
                  refine q_seqR ?_
                  refine ret_leaf (.inr rfl) rfl rfl ?_
                  refine congrArg (fun b => V.w (.bool b)) ?_
                  clear hs; first | (unfold Mst.right; rw [all_no (by assumption : m.queue[i]? = some _) (by assumption)]; simp; done) | (have ha := all_end hi.2 (by omega); clear hi; simp_all [Mst.right, minL2]; done) | (have ha := all_end hi.2 (by omega); clear hi; simp_all [Mst.right, minL2] <;> omega)
                · intro h10
                  try rw [Decidable.not_not] at h10
                  try have h10' := inB_t h10
                  refine s_gF rfl ?_
                  refine s_gF rfl ?_
                  refine s_gF rfl ?_
                  refine s_op (o_pickF rfl rfl) ?_
                  refine s_op (o_mv rfl) ?_
                  refine s_nilO ?_
                  refine q_seqN ?_
                  refine s_keep [2] rfl ?_
                  refine s_ret ?_
                  refine q_seqR ?_
                  refine ret_leaf (.inr rfl) rfl rfl ?_
                  refine congrArg (fun b => V.w (.bool b)) ?_
                  clear hs; first | (unfold Mst.right; rw [all_no (by assumption : m.queue[i]? = some _) (by assumption)]; simp; done) | (have ha := all_end hi.2 (by omega); clear hi; simp_all [Mst.right, minL2]; done) | (have ha := all_end hi.2 (by omega); clear hi; simp_all [Mst.right, minL2] <;> omega)
              · intro h9
                try rw [Decidable.not_not] at h9
                try have h9' := inB_t h9
                refine s_gF rfl ?_
                refine s_gF rfl ?_
                refine s_gF rfl ?_
                refine s_op (o_pickF rfl rfl) ?_
                refine s_op (o_mv rfl) ?_
                refine s_gF rfl ?_
                refine s_gF rfl ?_
                refine s_gF rfl ?_
                refine s_op (o_pickF rfl rfl) ?_
                refine s_op (o_mv rfl) ?_
                refine s_nilO ?_
                refine q_seqN ?_
                refine s_keep [2] rfl ?_
                refine s_ret ?_
                refine q_seqR ?_
                refine ret_leaf (.inr rfl) rfl rfl ?_
                refine congrArg (fun b => V.w (.bool b)) ?_
                clear hs; first | (unfold Mst.right; rw [all_no (by assumption : m.queue[i]? = some _) (by assumption)]; simp; done) | (have ha := all_end hi.2 (by omega); clear hi; simp_all [Mst.right, minL2]; done) | (have ha := all_end hi.2 (by omega); clear hi; simp_all [Mst.right, minL2] <;> omega)
            · intro h8
              try rw [Decidable.not_not] at h8
              try have h8' := inB_t h8
              refine s_gF rfl ?_
              refine s_gF rfl ?_
              refine s_gF rfl ?_
              refine s_op (o_pickF rfl rfl) ?_
              refine s_op (o_mv rfl) ?_
              refine s_keepO (is := [1, 44]) rfl ?_
              refine s_gF rfl ?_
              refine s_gF rfl ?_
              refine s_gF rfl ?_
              refine s_op (o_pickF rfl rfl) ?_
              refine s_op (o_mv rfl) ?_
              refine s_gF rfl ?_
              refine s_gF rfl ?_
              refine s_gF rfl ?_
              refine s_op (o_pickF rfl rfl) ?_
              refine s_op (o_mv rfl) ?_
              refine s_nilO ?_
              refine q_seqN ?_
              refine s_keep [2] rfl ?_
              refine s_ret ?_
              refine q_seqR ?_
              refine ret_leaf (.inr rfl) rfl rfl ?_
              refine congrArg (fun b => V.w (.bool b)) ?_
              clear hs; first | (unfold Mst.right; rw [all_no (by assumption : m.queue[i]? = some _) (by assumption)]; simp; done) | (have ha := all_end hi.2 (by omega); clear hi; simp_all [Mst.right, minL2]; done) | (have ha := all_end hi.2 (by omega); clear hi; simp_all [Mst.right, minL2] <;> omega)
          · intro h7
            try rw [Decidable.not_not] at h7
            try have h7' := inB_t h7
            refine s_gF rfl ?_
            refine s_gF rfl ?_
            refine s_gF rfl ?_
            refine s_op (o_pickF rfl rfl) ?_
            refine s_op (o_mv rfl) ?_
            refine s_gF rfl ?_
            refine s_gF rfl ?_
            refine s_gF rfl ?_
            refine s_op (o_pickF rfl rfl) ?_
            refine s_op (o_mv rfl) ?_
            refine s_keepO (is := [1, 44]) rfl ?_
            refine s_gF rfl ?_
            refine s_gF rfl ?_
            refine s_gF rfl ?_
            refine s_op (o_pickF rfl rfl) ?_
            refine s_op (o_mv rfl) ?_
            refine s_gF rfl ?_
            refine s_gF rfl ?_
            refine s_gF rfl ?_
            refine s_op (o_pickF rfl rfl) ?_
            refine s_op (o_mv rfl) ?_
            refine s_nilO ?_
            refine q_seqN ?_
            refine s_keep [2] rfl ?_
            refine s_ret ?_
            refine q_seqR ?_
            refine ret_leaf (.inr rfl) rfl rfl ?_
            refine congrArg (fun b => V.w (.bool b)) ?_
            clear hs; first | (unfold Mst.right; rw [all_no (by assumption : m.queue[i]? = some _) (by assumption)]; simp; done) | (have ha := all_end hi.2 (by omega); clear hi; simp_all [Mst.right, minL2]; done) | (have ha := all_end hi.2 (by omega); clear hi; simp_all [Mst.right, minL2] <;> omega)
        · intro h6
          try rw [Decidable.not_not] at h6
          try have h6' := inB_t h6
          refine s_skip ?_
          refine q_seqN ?_
          refine s_keep [1] rfl ?_
          refine S_seq ?_
          refine s_rg ?_
          refine s_op (o_faC rfl) ?_
          refine s_op (o_ldC rfl rfl rfl) ?_
          refine s_op (o_ldnC rfl rfl rfl) ?_
          first | refine s_call rfl rfl (c_220 _) ?_ | refine s_callL rfl rfl (by simp) (c_220 _) rfl ?_
          first | refine s_op (o_subn rfl rfl (by omega)) ?_ | refine s_op (o_sub rfl rfl) ?_
          first | refine s_call rfl rfl (c_230 ..) ?_ | refine s_callL rfl rfl (by simp) (c_230 ..) rfl ?_
          refine s_op (o_mv rfl) ?_
          first | refine s_gDT rfl ?_ ?_ | refine s_gNDT rfl ?_ ?_ | refine s_gNT rfl ?_ ?_ | refine s_gB rfl ?_ ?_
          · intro h11
            try rw [Decidable.not_not] at h11
            try have h11' := inB_t h11
            refine s_op (o_faC rfl) ?_
            refine s_gT rfl ?_
            refine s_op (o_ldC rfl rfl rfl) ?_
            refine s_gT rfl ?_
            refine s_op (o_faC rfl) ?_
            refine s_gT rfl ?_
            refine s_op (o_ldC rfl rfl rfl) ?_
            refine s_gT rfl ?_
            refine s_op (o_faC rfl) ?_
            refine s_gT rfl ?_
            refine s_op (o_ldC rfl rfl rfl) ?_
            refine s_gT rfl ?_
            first | refine s_op (o_addn rfl rfl (by omega)) ?_ | refine s_op (o_add rfl rfl) ?_
            refine s_keepO (is := [1, 60, 62, 64, 67]) rfl ?_
            refine s_gT rfl ?_
            refine s_op (o_ldnC rfl rfl rfl) ?_
            refine s_gT rfl ?_
            first | refine s_call rfl rfl (c_220 _) ?_ | refine s_callL rfl rfl (by simp) (c_220 _) rfl ?_
            refine s_gT rfl ?_
            refine s_op (o_mn rfl) ?_
            refine s_gT rfl ?_
            first | refine s_call rfl rfl (c_230 ..) ?_ | refine s_callL rfl rfl (by simp) (c_230 ..) rfl ?_
            refine s_op (o_pickT rfl rfl) ?_
            refine s_op (o_mv rfl) ?_
            refine s_nilO ?_
            refine q_seqN ?_
            refine s_keep [2] rfl ?_
            refine s_ret ?_
            refine ret_leaf (.inr rfl) rfl rfl ?_
            refine congrArg (fun b => V.w (.bool b)) ?_
            clear hs; first | (unfold Mst.right; rw [all_no (by assumption : m.queue[i]? = some _) (by assumption)]; simp; done) | (have ha := all_end hi.2 (by omega); clear hi; simp_all [Mst.right, minL2]; done) | (have ha := all_end hi.2 (by omega); clear hi; simp_all [Mst.right, minL2] <;> omega)
          · intro h11
            try rw [Decidable.not_not] at h11
            try have h11' := inB_t h11
            refine s_gF rfl ?_
            refine s_gF rfl ?_
            refine s_gF rfl ?_
            refine s_gF rfl ?_
            refine s_gF rfl ?_
            refine s_gF rfl ?_
            refine s_gF rfl ?_
            refine s_keepO (is := [1, 60, 62, 64, 67]) rfl ?_
            refine s_gF rfl ?_
            refine s_gF rfl ?_
            refine s_gF rfl ?_
            refine s_gF rfl ?_
            refine s_op (o_pickF rfl rfl) ?_
            refine s_op (o_mv rfl) ?_
            refine s_nilO ?_
            refine q_seqN ?_
            refine s_keep [2] rfl ?_
            refine s_ret ?_
            refine ret_leaf (.inr rfl) rfl rfl ?_
            refine congrArg (fun b => V.w (.bool b)) ?_
            clear hs; first | (unfold Mst.right; rw [all_no (by assumption : m.queue[i]? = some _) (by assumption)]; simp; done) | (have ha := all_end hi.2 (by omega); clear hi; simp_all [Mst.right, minL2]; done) | (have ha := all_end hi.2 (by omega); clear hi; simp_all [Mst.right, minL2] <;> omega)
    · intro h4
      try rw [Decidable.not_not] at h4
      try have h4' := inB_t h4
      refine s_gF rfl ?_
      refine s_gF rfl ?_
      refine s_gF rfl ?_
      refine s_op (o_pickT rfl rfl) ?_
      refine s_nilO ?_
      refine q_seqN ?_
      refine s_keep [1, 26] rfl ?_
      refine s_condT rfl ?_
      refine S_seq ?_
      refine s_rg ?_
      refine s_op (o_mv rfl) ?_
      refine s_nilO ?_
      refine q_seqN ?_
      refine s_keep [2] rfl ?_
      refine s_ret ?_
      refine q_seqR ?_
      refine ret_leaf (.inr rfl) rfl rfl ?_
      refine congrArg (fun b => V.w (.bool b)) ?_
      clear hs; first | (unfold Mst.right; rw [all_no (by assumption : m.queue[i]? = some _) (by assumption)]; simp; done) | (have ha := all_end hi.2 (by omega); clear hi; simp_all [Mst.right, minL2]; done) | (have ha := all_end hi.2 (by omega); clear hi; simp_all [Mst.right, minL2] <;> omega)

theorem c_364 (m : Mst) (x : Conf) (hs : m.small) (hl : x.masters.length ≤ 1048576) : CV prg 364 [.agg m.r, .agg x.r] (fun res => res = .w (.bool (x.ok && m.right && decide (m.tries ≤ x.maxRetry)))) := by
  refine cv_in g364 ?_
  refine s_keep [0, 1] rfl ?_
  refine S_seq ?_
  refine s_rg ?_
  refine s_op (o_box rfl rfl rfl) ?_
  refine s_op (o_box rfl rfl rfl) ?_
  refine s_op (o_mv rfl) ?_
  refine s_nilO ?_
  refine q_seqN ?_
  refine s_keep [2, 3] rfl ?_
  refine S_seq ?_
  refine s_rg ?_
  refine s_op (o_ldnC rfl rfl rfl) ?_
  first | refine s_call rfl rfl (c_34 _ (by assumption)) ?_ | refine s_callL rfl rfl (by simp) (c_34 _ (by assumption)) rfl ?_
  refine s_op (o_mv rfl) ?_
  first | refine s_gDT rfl ?_ ?_ | refine s_gNDT rfl ?_ ?_ | refine s_gNT rfl ?_ ?_ | refine s_gB rfl ?_ ?_
  · intro h1
    try rw [Decidable.not_not] at h1
    refine s_op (o_ldnC rfl rfl rfl) ?_
    refine s_gT rfl ?_
    first | refine s_call rfl rfl (c_88 _ (by assumption)) ?_ | refine s_callL rfl rfl (by simp) (c_88 _ (by assumption)) rfl ?_
    refine s_op (o_pickT rfl rfl) ?_
    refine s_op (o_mv rfl) ?_
    first | refine s_gDT rfl ?_ ?_ | refine s_gNDT rfl ?_ ?_ | refine s_gNT rfl ?_ ?_ | refine s_gB rfl ?_ ?_
    · intro h2
      try rw [Decidable.not_not] at h2
      refine s_op (o_faC rfl) ?_
      refine s_gT rfl ?_
      refine s_op (o_ldC rfl rfl rfl) ?_
      refine s_gT rfl ?_
      refine s_op (o_faC rfl) ?_
      refine s_gT rfl ?_
      refine s_op (o_ldC rfl rfl rfl) ?_
      refine s_gT rfl ?_
      first | refine s_op (o_leq rfl rfl) ?_ | refine s_op (o_bin rfl rfl rfl rfl) ?_
      refine s_op (o_pickT rfl rfl) ?_
      refine s_op (o_mv rfl) ?_
      refine s_nilO ?_
      refine q_seqN ?_
      refine s_keep [4] rfl ?_
      refine s_ret ?_
      refine ret_leaf (.inr rfl) rfl rfl ?_
      refine congrArg (fun b => V.w (.bool b)) ?_
      clear hs; simp_all
    · intro h2
      try rw [Decidable.not_not] at h2
      refine s_gF rfl ?_
      refine s_gF rfl ?_
      refine s_gF rfl ?_
      refine s_gF rfl ?_
      refine s_gF rfl ?_
      refine s_op (o_pickF rfl rfl) ?_
      refine s_op (o_mv rfl) ?_
      refine s_nilO ?_
      refine q_seqN ?_
      refine s_keep [4] rfl ?_
      refine s_ret ?_
      refine ret_leaf (.inr rfl) rfl rfl ?_
      refine congrArg (fun b => V.w (.bool b)) ?_
      clear hs; simp_all
  · intro h1
    try rw [Decidable.not_not] at h1
    refine s_gF rfl ?_
    refine s_gF rfl ?_
    refine s_op (o_pickF rfl rfl) ?_
    refine s_op (o_mv rfl) ?_
    refine s_gF rfl ?_
    refine s_gF rfl ?_
    refine s_gF rfl ?_
    refine s_gF rfl ?_
    refine s_gF rfl ?_
    refine s_op (o_pickF rfl rfl) ?_
    refine s_op (o_mv rfl) ?_
    refine s_nilO ?_
    refine q_seqN ?_
    refine s_keep [4] rfl ?_
    refine s_ret ?_
    refine ret_leaf (.inr rfl) rfl rfl ?_
    refine congrArg (fun b => V.w (.bool b)) ?_
    clear hs; simp_all

theorem c_204 (m : Mst) (x : Conf) (hs : m.small) (hl : x.masters.length ≤ 1048576) : CV prg 204 [.agg m.r, .agg x.r] (fun res => res = .w (.bool (x.ok && m.right && decide (m.tries ≤ x.maxRetry)))) := by
  refine cv_in g204 ?_
  refine s_keep [0, 1] rfl ?_
  refine S_seq ?_
  refine s_rg ?_
  refine s_op (o_box rfl rfl rfl) ?_
  refine s_op (o_box rfl rfl rfl) ?_
  refine s_op (o_mv rfl) ?_
  refine s_nilO ?_
  refine q_seqN ?_
  refine s_keep [2, 3] rfl ?_
  refine S_seq ?_
  refine s_rg ?_
  refine s_op (o_ldnC rfl rfl rfl) ?_
  first | refine s_call rfl rfl (c_184 _ (by assumption)) ?_ | refine s_callL rfl rfl (by simp) (c_184 _ (by assumption)) rfl ?_
  refine s_op (o_mv rfl) ?_
  first | refine s_gDT rfl ?_ ?_ | refine s_gNDT rfl ?_ ?_ | refine s_gNT rfl ?_ ?_ | refine s_gB rfl ?_ ?_
  · intro h1
    try rw [Decidable.not_not] at h1
    refine s_op (o_ldnC rfl rfl rfl) ?_
    refine s_gT rfl ?_
    first | refine s_call rfl rfl (c_221 _ (by assumption)) ?_ | refine s_callL rfl rfl (by simp) (c_221 _ (by assumption)) rfl ?_
    refine s_op (o_pickT rfl rfl) ?_
    refine s_op (o_mv rfl) ?_
    first | refine s_gDT rfl ?_ ?_ | refine s_gNDT rfl ?_ ?_ | refine s_gNT rfl ?_ ?_ | refine s_gB rfl ?_ ?_
    · intro h2
      try rw [Decidable.not_not] at h2
      refine s_op (o_faC rfl) ?_
      refine s_gT rfl ?_
      refine s_op (o_ldC rfl rfl rfl) ?_
      refine s_gT rfl ?_
      refine s_op (o_faC rfl) ?_
      refine s_gT rfl ?_
      refine s_op (o_ldC rfl rfl rfl) ?_
      refine s_gT rfl ?_
      first | refine s_op (o_leq rfl rfl) ?_ | refine s_op (o_bin rfl rfl rfl rfl) ?_
      refine s_op (o_pickT rfl rfl) ?_
      refine s_op (o_mv rfl) ?_
      refine s_nilO ?_
      refine q_seqN ?_
      refine s_keep [4] rfl ?_
      refine s_ret ?_
      refine ret_leaf (.inr rfl) rfl rfl ?_
      refine congrArg (fun b => V.w (.bool b)) ?_
      clear hs; simp_all
    · intro h2
      try rw [Decidable.not_not] at h2
      refine s_gF rfl ?_
      refine s_gF rfl ?_
      refine s_gF rfl ?_
      refine s_gF rfl ?_
      refine s_gF rfl ?_
      refine s_op (o_pickF rfl rfl) ?_
      refine s_op (o_mv rfl) ?_
      refine s_nilO ?_
      refine q_seqN ?_
      refine s_keep [4] rfl ?_
      refine s_ret ?_
      refine ret_leaf (.inr rfl) rfl rfl ?_
      refine congrArg (fun b => V.w (.bool b)) ?_
      clear hs; simp_all
  · intro h1
    try rw [Decidable.not_not] at h1
    refine s_gF rfl ?_
    refine s_gF rfl ?_
    refine s_op (o_pickF rfl rfl) ?_
    refine s_op (o_mv rfl) ?_
    refine s_gF rfl ?_
    refine s_gF rfl ?_
    refine s_gF rfl ?_
    refine s_gF rfl ?_
    refine s_gF rfl ?_
    refine s_op (o_pickF rfl rfl) ?_
    refine s_op (o_mv rfl) ?_
    refine s_nilO ?_
    refine q_seqN ?_
    refine s_keep [4] rfl ?_
    refine s_ret ?_
    refine ret_leaf (.inr rfl) rfl rfl ?_
    refine congrArg (fun b => V.w (.bool b)) ?_
    clear hs; simp_all

theorem c_348 (m : Mst) (hwm : m.wf) (x : Conf) (hwx : x.wf) : CV prg 348 [.agg m.r, .agg x.r] (fun res => res = .w (.bool true)) := by
  refine cv_in g348 ?_
  refine s_keep [0, 1] rfl ?_
  refine S_seq ?_
  refine s_rg ?_
  refine s_op (o_box rfl rfl rfl) ?_
  refine s_op (o_box rfl rfl rfl) ?_
  refine s_op (o_mv rfl) ?_
  refine s_nilO ?_
  refine q_seqN ?_
  refine s_keep [2, 3] rfl ?_
  refine S_seq ?_
  refine s_rg ?_
  refine s_op (o_mv rfl) ?_
  refine s_nilO ?_
  refine q_seqN ?_
  refine s_keep [2, 3, 5] rfl ?_
  refine S_seq ?_
  refine s_rg ?_
  refine s_op (o_ldnC rfl rfl rfl) ?_
  refine s_op (o_mv rfl) ?_
  first | refine s_call rfl rfl (c_151 _ _ (by (try unfold room at *); omega) (by assumption)) ?_ | refine s_callL rfl rfl (by simp) (c_151 _ _ (by (try unfold room at *); omega) (by assumption)) rfl ?_
  refine s_op (o_mv rfl) ?_
  refine s_nilO ?_
  refine q_seqN ?_
  refine s_keep [2, 3, 5] rfl ?_
  refine S_seq ?_
  refine S_seq ?_
  refine s_rg ?_
  refine s_op (o_mv rfl) ?_
  first | refine s_op (o_lss rfl rfl) ?_ | refine s_op (o_bin rfl rfl rfl rfl) ?_
  refine s_nilO ?_
  refine q_seqN ?_
  refine s_keep [2, 3, 5, 14] rfl ?_
  first | refine s_condD rfl ?_ ?_ | refine s_condN rfl ?_ ?_ | refine s_condNB rfl ?_ ?_ | refine s_condB rfl ?_ ?_
  · intro h1
    try rw [Decidable.not_not] at h1
    try have hsm : m.small := Mst.small_of (by (try unfold room at *); omega)
    try rw [decide_eq_true (rfl : m = m)] at h1
    try have hsx : x.small := Conf.small_of (by (try unfold room at *); omega)
    try have hlx : x.masters.length ≤ 1048576 := hsx
    try rw [decide_eq_true (rfl : x = x)] at h1
    refine S_seq ?_
    refine s_rg ?_
    refine s_op (o_mv rfl) ?_
    refine s_nilO ?_
    refine q_seqN ?_
    refine s_keep [4] rfl ?_
    refine s_ret ?_
    refine q_seqR ?_
    refine ret_leaf (.inr rfl) rfl rfl ?_
    refine congrArg (fun b => V.w (.bool b)) ?_
    simp_all
  · intro h1
    try rw [Decidable.not_not] at h1
    try have hsm : m.small := Mst.small_of (by (try unfold room at *); omega)
    try rw [decide_eq_true (rfl : m = m)] at h1
    try have hsx : x.small := Conf.small_of (by (try unfold room at *); omega)
    try have hlx : x.masters.length ≤ 1048576 := hsx
    try rw [decide_eq_true (rfl : x = x)] at h1
    refine s_skip ?_
    refine q_seqN ?_
    refine s_keep [2, 3, 5] rfl ?_
    refine S_seq ?_
    refine s_rg ?_
    refine s_op (o_ldnC rfl rfl rfl) ?_
    refine s_op (o_mv rfl) ?_
    first | refine s_call rfl rfl (c_145 _ _ (by (try unfold room at *); omega) (by assumption)) ?_ | refine s_callL rfl rfl (by simp) (c_145 _ _ (by (try unfold room at *); omega) (by assumption)) rfl ?_
    refine s_op (o_mv rfl) ?_
    refine s_nilO ?_
    refine q_seqN ?_
    refine s_keep [2, 3, 5] rfl ?_
    refine S_seq ?_
    refine S_seq ?_
    refine s_rg ?_
    refine s_op (o_mv rfl) ?_
    first | refine s_op (o_lss rfl rfl) ?_ | refine s_op (o_bin rfl rfl rfl rfl) ?_
    refine s_nilO ?_
    refine q_seqN ?_
    refine s_keep [2, 3, 19] rfl ?_
    first | refine s_condD rfl ?_ ?_ | refine s_condN rfl ?_ ?_ | refine s_condNB rfl ?_ ?_ | refine s_condB rfl ?_ ?_
    · intro h2
      try rw [Decidable.not_not] at h2
      try have hsm : m.small := Mst.small_of (by (try unfold room at *); omega)
      try rw [decide_eq_true (rfl : m = m)] at h2
      try have hsx : x.small := Conf.small_of (by (try unfold room at *); omega)
      try have hlx : x.masters.length ≤ 1048576 := hsx
      try rw [decide_eq_true (rfl : x = x)] at h2
      refine S_seq ?_
      refine s_rg ?_
      refine s_op (o_mv rfl) ?_
      refine s_nilO ?_
      refine q_seqN ?_
      refine s_keep [4] rfl ?_
      refine s_ret ?_
      refine q_seqR ?_
      refine ret_leaf (.inr rfl) rfl rfl ?_
      refine congrArg (fun b => V.w (.bool b)) ?_
      simp_all
    · intro h2
      try rw [Decidable.not_not] at h2
      try have hsm : m.small := Mst.small_of (by (try unfold room at *); omega)
      try rw [decide_eq_true (rfl : m = m)] at h2
      try have hsx : x.small := Conf.small_of (by (try unfold room at *); omega)
      try have hlx : x.masters.length ≤ 1048576 := hsx
      try rw [decide_eq_true (rfl : x = x)] at h2
      refine s_skip ?_
      refine q_seqN ?_
      refine s_keep [2, 3] rfl ?_
      refine S_seq ?_
      refine s_rg ?_
      refine s_op (o_ldnC rfl rfl rfl) ?_
      first | refine s_call rfl rfl (c_167 _ (by assumption)) ?_ | refine s_callL rfl rfl (by simp) (c_167 _ (by assumption)) rfl ?_
      refine s_op (o_ldnC rfl rfl rfl) ?_
      first | refine s_call rfl rfl (c_159 _ (by assumption)) ?_ | refine s_callL rfl rfl (by simp) (c_159 _ (by assumption)) rfl ?_
      first | refine s_call rfl rfl (c_204 _ _ (by assumption) (by assumption)) ?_ | refine s_callL rfl rfl (by simp) (c_204 _ _ (by assumption) (by assumption)) rfl ?_
      refine s_op (o_mv rfl) ?_
      refine s_nilO ?_
      refine q_seqN ?_
      refine s_keep [2, 3, 6] rfl ?_
      refine S_seq ?_
      refine s_rg ?_
      refine s_op (o_ldnC rfl rfl rfl) ?_
      first | refine s_call rfl rfl (c_167 _ (by assumption)) ?_ | refine s_callL rfl rfl (by simp) (c_167 _ (by assumption)) rfl ?_
      refine s_op (o_new rfl rfl) ?_
      refine s_opN (o_stnC rfl rfl rfl rfl rfl rfl rfl) ?_
      refine s_nilO ?_
      refine q_seqN ?_
      refine s_keep [2, 3, 6, 7] rfl ?_
      refine S_seq ?_
      refine s_rg ?_
      refine s_op (o_ldnC rfl rfl rfl) ?_
      first | refine s_call rfl rfl (c_159 _ (by assumption)) ?_ | refine s_callL rfl rfl (by simp) (c_159 _ (by assumption)) rfl ?_
      refine s_op (o_new rfl rfl) ?_
      refine s_opN (o_stnC rfl rfl rfl rfl rfl rfl rfl) ?_
      refine s_nilO ?_
      refine q_seqN ?_
      refine s_keep [2, 3, 6, 7, 8] rfl ?_
      refine S_seq ?_
      refine s_rg ?_
      refine s_op (o_ldnC rfl rfl rfl) ?_
      refine s_op (o_ldnC rfl rfl rfl) ?_
      first | refine s_call rfl rfl (c_364 _ _ (by assumption) (by assumption)) ?_ | refine s_callL rfl rfl (by simp) (c_364 _ _ (by assumption) (by assumption)) rfl ?_
      refine s_op (o_mv rfl) ?_
      refine s_nilO ?_
      refine q_seqN ?_
      refine s_keep [2, 3, 6, 7, 8, 9] rfl ?_
      refine S_seq ?_
      refine S_seq ?_
      refine s_rg ?_
      refine s_op (o_mv rfl) ?_
      refine s_op (o_mv rfl) ?_
      refine s_op (o_eqb rfl rfl) ?_
      refine s_nilO ?_
      refine q_seqN ?_
      refine s_keep [2, 3, 7, 8, 34] rfl ?_
      first | refine s_condD rfl ?_ ?_ | refine s_condN rfl ?_ ?_ | refine s_condNB rfl ?_ ?_ | refine s_condB rfl ?_ ?_
      · intro h3
        try rw [Decidable.not_not] at h3
        try have hsm : m.small := Mst.small_of (by (try unfold room at *); omega)
        try rw [decide_eq_true (rfl : m = m)] at h3
        try have hsx : x.small := Conf.small_of (by (try unfold room at *); omega)
        try have hlx : x.masters.length ≤ 1048576 := hsx
        try rw [decide_eq_true (rfl : x = x)] at h3
        refine S_seq ?_
        refine s_rg ?_
        refine s_op (o_mv rfl) ?_
        refine s_nilO ?_
        refine q_seqN ?_
        refine s_keep [4] rfl ?_
        refine s_ret ?_
        refine q_seqR ?_
        refine ret_leaf (.inr rfl) rfl rfl ?_
        refine congrArg (fun b => V.w (.bool b)) ?_
        simp_all
      · intro h3
        try rw [Decidable.not_not] at h3
        try have hsm : m.small := Mst.small_of (by (try unfold room at *); omega)
        try rw [decide_eq_true (rfl : m = m)] at h3
        try have hsx : x.small := Conf.small_of (by (try unfold room at *); omega)
        try have hlx : x.masters.length ≤ 1048576 := hsx
        try rw [decide_eq_true (rfl : x = x)] at h3
        refine s_skip ?_
        refine q_seqN ?_
        refine s_keep [2, 3, 7, 8] rfl ?_
        refine S_seq ?_
        refine S_seq ?_
        refine s_rg ?_
        refine s_op (o_ldnC rfl rfl rfl) ?_
        refine s_op (o_ldnC rfl rfl rfl) ?_
        first | refine s_call rfl rfl (c_167 _ (by assumption)) ?_ | refine s_callL rfl rfl (by simp) (c_167 _ (by assumption)) rfl ?_
        first | refine s_call rfl rfl (c_136 _ _ (by assumption)) ?_ | refine s_callL rfl rfl (by simp) (c_136 _ _ (by assumption)) rfl ?_
        refine s_op (o_not rfl) ?_
        refine s_nilO ?_
        refine q_seqN ?_
        refine s_keep [3, 8, 39] rfl ?_
        first | refine s_condD rfl ?_ ?_ | refine s_condN rfl ?_ ?_ | refine s_condNB rfl ?_ ?_ | refine s_condB rfl ?_ ?_
        · intro h4
          try rw [Decidable.not_not] at h4
          try have hsm : m.small := Mst.small_of (by (try unfold room at *); omega)
          try rw [decide_eq_true (rfl : m = m)] at h4
          try have hsx : x.small := Conf.small_of (by (try unfold room at *); omega)
          try have hlx : x.masters.length ≤ 1048576 := hsx
          try rw [decide_eq_true (rfl : x = x)] at h4
          refine S_seq ?_
          refine s_rg ?_
          refine s_op (o_mv rfl) ?_
          refine s_nilO ?_
          refine q_seqN ?_
          refine s_keep [4] rfl ?_
          refine s_ret ?_
          refine q_seqR ?_
          refine ret_leaf (.inr rfl) rfl rfl ?_
          refine congrArg (fun b => V.w (.bool b)) ?_
          simp_all
        · intro h4
          try rw [Decidable.not_not] at h4
          try have hsm : m.small := Mst.small_of (by (try unfold room at *); omega)
          try rw [decide_eq_true (rfl : m = m)] at h4
          try have hsx : x.small := Conf.small_of (by (try unfold room at *); omega)
          try have hlx : x.masters.length ≤ 1048576 := hsx
          try rw [decide_eq_true (rfl : x = x)] at h4
          refine s_skip ?_
          refine q_seqN ?_
          refine s_keep [3, 8] rfl ?_
          refine S_seq ?_
          refine S_seq ?_
          refine s_rg ?_
          refine s_op (o_ldnC rfl rfl rfl) ?_
          refine s_op (o_ldnC rfl rfl rfl) ?_
          first | refine s_call rfl rfl (c_159 _ (by assumption)) ?_ | refine s_callL rfl rfl (by simp) (c_159 _ (by assumption)) rfl ?_
          first | refine s_call rfl rfl (c_128 _ _ (by assumption)) ?_ | refine s_callL rfl rfl (by simp) (c_128 _ _ (by assumption)) rfl ?_
          refine s_op (o_not rfl) ?_
          refine s_nilO ?_
          refine q_seqN ?_
          refine s_keep [44] rfl ?_
          first | refine s_condD rfl ?_ ?_ | refine s_condN rfl ?_ ?_ | refine s_condNB rfl ?_ ?_ | refine s_condB rfl ?_ ?_
          · intro h5
            try rw [Decidable.not_not] at h5
            try have hsm : m.small := Mst.small_of (by (try unfold room at *); omega)
            try rw [decide_eq_true (rfl : m = m)] at h5
            try have hsx : x.small := Conf.small_of (by (try unfold room at *); omega)
            try have hlx : x.masters.length ≤ 1048576 := hsx
            try rw [decide_eq_true (rfl : x = x)] at h5
            refine S_seq ?_
            refine s_rg ?_
            refine s_op (o_mv rfl) ?_
            refine s_nilO ?_
            refine q_seqN ?_
            refine s_keep [4] rfl ?_
            refine s_ret ?_
            refine q_seqR ?_
            refine ret_leaf (.inr rfl) rfl rfl ?_
            refine congrArg (fun b => V.w (.bool b)) ?_
            simp_all
          · intro h5
            try rw [Decidable.not_not] at h5
            try have hsm : m.small := Mst.small_of (by (try unfold room at *); omega)
            try rw [decide_eq_true (rfl : m = m)] at h5
            try have hsx : x.small := Conf.small_of (by (try unfold room at *); omega)
            try have hlx : x.masters.length ≤ 1048576 := hsx
            try rw [decide_eq_true (rfl : x = x)] at h5
            refine s_skip ?_
            refine q_seqN ?_
            refine s_keep [] rfl ?_
            refine S_seq ?_
            refine s_rg ?_
            refine s_op (o_mv rfl) ?_
            refine s_nilO ?_
            refine q_seqN ?_
            refine s_keep [4] rfl ?_
            refine s_ret ?_
            refine ret_leaf (.inr rfl) rfl rfl ?_
            refine congrArg (fun b => V.w (.bool b)) ?_
            simp_all

end Go.Proofs.Ytdialnejieoelaa.AL
