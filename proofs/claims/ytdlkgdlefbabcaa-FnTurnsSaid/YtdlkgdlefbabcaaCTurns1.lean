/- What functions do with plain data, each by the form of its code. Printed by program. -/
import Derived.Test.YtdlkgdlefbabcaaCTurns0
namespace Go.Proofs.Ytdlkgdlefbabcaa.AL
open Go
set_option linter.unusedVariables false
set_option linter.unusedSimpArgs false
set_option maxRecDepth 4096

theorem cg_330 (code : List Int) (hc : code.length ≤ 1048576) (i h : Int) (hi : 0 ≤ i ∧ i ≤ code.length) : GV prg 330 [cur code i h] [.cp 0 0] (fun u L1 => (∃ (w : Wrr) (x : Conf), u = .tup [.agg w.r, .agg x.r] ∧ x.masters.length ≤ 4) ∧ ∃ (i h : Int), (0 ≤ i ∧ i ≤ code.length) ∧ L1 = [cur code i h]) := by
  refine gv_inF g330 ?_
  refine s_keep [0] rfl ?_
  refine S_seq ?_
  refine s_rg ?_
  refine s_op (o_new rfl rfl) ?_
  refine s_op (o_new rfl rfl) ?_
  refine s_nilO ?_
  refine q_seqN ?_
  refine s_keep [0, 2, 3] rfl ?_
  refine S_seq ?_
  refine s_rg ?_
  refine s_op (o_mv rfl) ?_
  refine s_callG [0] rfl rfl rfl rfl (by simp) (.inl rfl) (cg_243 _ hc _ _ hi) ?_
  rintro u L1 ⟨⟨z, rfl, hz⟩, i, h, hi, rfl⟩
  refine ⟨_, _, rfl, rfl, ?_⟩
  refine s_op (o_new rfl rfl) ?_
  refine s_opN (o_stnC rfl rfl rfl rfl rfl rfl rfl) ?_
  refine s_nilO ?_
  refine q_seqN ?_
  refine s_keep [0, 2, 3, 4] rfl ?_
  refine S_seq ?_
  refine S_seq ?_
  refine s_rg ?_
  refine s_op (o_mv rfl) ?_
  refine s_callG [0] rfl rfl rfl rfl (by simp) (.inl rfl) (cg_233 _ hc _ _ hi _) ?_
  rintro u L1 ⟨⟨b, rfl⟩, i, h, hi, rfl⟩
  refine ⟨_, _, rfl, rfl, ?_⟩
  refine s_nilO ?_
  refine q_seqN ?_
  refine s_keep [0, 2, 3, 4, 9] rfl ?_
  first | refine s_condD rfl ?_ ?_ | refine s_condN rfl ?_ ?_ | refine s_condNB rfl ?_ ?_ | refine s_condB rfl ?_ ?_
  · intro h1
    try rw [Decidable.not_not] at h1
    refine s_rg ?_
    refine s_op (o_mv rfl) ?_
    refine s_callG [0] rfl rfl rfl rfl (by simp) (.inl rfl) (cg_242 _ hc _ _ hi) ?_
    rintro u L1 ⟨⟨z, rfl, hz⟩, i, h, hi, rfl⟩
    refine ⟨_, _, rfl, rfl, ?_⟩
    refine s_opN (o_stnC rfl rfl rfl rfl rfl rfl rfl) ?_
    refine s_nilO ?_
    refine q_seqN ?_
    refine s_keep [0, 2, 3, 4] rfl ?_
    refine S_seq ?_
    refine s_rg ?_
    refine s_op (o_mv rfl) ?_
    refine s_op (o_faC rfl) ?_
    refine s_op (o_ldC rfl rfl rfl) ?_
    first | refine s_op (o_lenM rfl) ?_ | refine s_op (o_len rfl) ?_ | refine s_op (o_lenL rfl rfl rfl) ?_ | refine s_op (o_lenN rfl) ?_
    refine s_op (o_mx rfl) ?_
    refine s_callG [0] rfl rfl rfl rfl (by simp) (.inl rfl) (cg_228 _ hc _ _ hi _) ?_
    rintro u L1 ⟨⟨p, rfl, hp⟩, i, h, hi, rfl⟩
    refine ⟨_, _, rfl, rfl, ?_⟩
    refine s_op (o_bd rfl rfl) ?_
    refine s_op (o_new rfl rfl) ?_
    refine s_opN (o_stnC rfl rfl rfl rfl rfl rfl rfl) ?_
    refine s_nilO ?_
    refine q_seqN ?_
    refine s_keep [0, 2, 3, 4, 5] rfl ?_
    refine S_seq ?_
    refine s_rg ?_
    refine s_op (o_mv rfl) ?_
    refine s_op (o_ldnC rfl rfl rfl) ?_
    refine s_op (o_faC rfl) ?_
    refine s_op (o_ldC rfl rfl rfl) ?_
    first | refine s_call rfl rfl (c_215 z p (by omega)) ?_ | refine s_callL rfl rfl (by simp) (c_215 z p (by omega)) rfl ?_
    first | refine s_op (o_addn rfl rfl (by omega)) ?_ | refine s_op (o_add rfl rfl) ?_
    refine s_callG [0] rfl rfl rfl rfl (by simp) (.inl rfl) (cg_228 _ hc _ _ hi _) ?_
    rintro u L1 ⟨⟨cr, rfl, hcr⟩, i, h, hi, rfl⟩
    refine ⟨_, _, rfl, rfl, ?_⟩
    refine s_op (o_faC rfl) ?_
    refine s_opN (o_stC rfl rfl rfl rfl rfl rfl) ?_
    refine s_nilO ?_
    refine q_seqN ?_
    refine s_keep [0, 2, 3, 4, 5] rfl ?_
    refine S_seq ?_
    refine S_seq ?_
    refine s_rg ?_
    refine s_op (o_mv rfl) ?_
    refine s_callG [0] rfl rfl rfl rfl (by simp) (.inl rfl) (cg_228 _ hc _ _ hi _) ?_
    rintro u L1 ⟨⟨x, rfl, hx⟩, i, h, hi, rfl⟩
    refine ⟨_, _, rfl, rfl, ?_⟩
    refine s_nilO ?_
    refine q_seqN ?_
    refine s_keep [0, 2, 3, 4, 5, 28] rfl ?_
    refine S_block ?_
    refine S_seq ?_
    refine s_rg ?_
    first | refine s_op (o_eql rfl rfl) ?_ | refine s_op (o_bin rfl rfl rfl rfl) ?_
    refine s_op (o_mv rfl) ?_
    refine s_nilO ?_
    refine q_seqN ?_
    refine s_keep [0, 2, 3, 4, 5, 28, 29] rfl ?_
    first | refine s_condD rfl ?_ ?_ | refine s_condN rfl ?_ ?_ | refine s_condNB rfl ?_ ?_ | refine s_condB rfl ?_ ?_
    · intro h2
      try rw [Decidable.not_not] at h2
      refine s_rg ?_
      refine s_op (o_mv rfl) ?_
      refine s_op (o_bs rfl rfl rfl rfl) ?_
      refine s_callG [0, 5] rfl rfl rfl rfl (by simp) (.inl rfl) (cg_234 _ hc _ _ hi _ _ rfl (by simp) (by simp)) ?_
      rintro u L1 ⟨⟨x, rfl, hx⟩, i, h, hi, rfl⟩
      refine ⟨_, _, rfl, rfl, ?_⟩
      try simp only [List.mem_cons, List.not_mem_nil, or_false] at hx
      refine s_op (o_faC rfl) ?_
      refine s_opN (o_stC rfl rfl rfl rfl rfl rfl) ?_
      refine s_nilO ?_
      refine q_blkN ?_
      refine q_seqN ?_
      refine s_keep [2, 3, 4, 5] rfl ?_
      refine S_seq ?_
      refine s_rgH [1] rfl ?_
      refine h_op (o_ldnC rfl rfl rfl) rfl ?_
      refine h_op (o_ldnC rfl rfl rfl) rfl ?_
      refine h_stn rfl rfl rfl rfl rfl ?_
      refine h_bar rfl ?_
      refine s_opN (o_stnC rfl rfl rfl rfl rfl rfl rfl) ?_
      refine s_nilO ?_
      refine q_seqN ?_
      refine s_keep [2, 3] rfl ?_
      refine s_ret ?_
      refine retF_leaf (.inr rfl) rfl rfl (by simp) rfl ?_
      exact ⟨⟨⟨_, _⟩, z, rfl, by omega⟩, _, _, (by omega), rfl⟩
    · intro h2
      try rw [Decidable.not_not] at h2
      refine S_seq ?_
      refine s_rg ?_
      first | refine s_op (o_eql rfl rfl) ?_ | refine s_op (o_bin rfl rfl rfl rfl) ?_
      refine s_op (o_mv rfl) ?_
      refine s_nilO ?_
      refine q_seqN ?_
      refine s_keep [0, 2, 3, 4, 5, 35] rfl ?_
      first | refine s_condD rfl ?_ ?_ | refine s_condN rfl ?_ ?_ | refine s_condNB rfl ?_ ?_ | refine s_condB rfl ?_ ?_
      · intro h3
        try rw [Decidable.not_not] at h3
        refine s_rg ?_
        refine s_op (o_mv rfl) ?_
        refine s_op (o_bs rfl rfl rfl rfl) ?_
        refine s_callG [0, 5] rfl rfl rfl rfl (by simp) (.inl rfl) (cg_234 _ hc _ _ hi _ _ rfl (by simp) (by simp)) ?_
        rintro u L1 ⟨⟨x, rfl, hx⟩, i, h, hi, rfl⟩
        refine ⟨_, _, rfl, rfl, ?_⟩
        try simp only [List.mem_cons, List.not_mem_nil, or_false] at hx
        refine s_op (o_faC rfl) ?_
        refine s_opN (o_stC rfl rfl rfl rfl rfl rfl) ?_
        refine s_nilO ?_
        refine q_blkN ?_
        refine q_seqN ?_
        refine s_keep [2, 3, 4, 5] rfl ?_
        refine S_seq ?_
        refine s_rgH [1] rfl ?_
        refine h_op (o_ldnC rfl rfl rfl) rfl ?_
        refine h_op (o_ldnC rfl rfl rfl) rfl ?_
        refine h_stn rfl rfl rfl rfl rfl ?_
        refine h_bar rfl ?_
        refine s_opN (o_stnC rfl rfl rfl rfl rfl rfl rfl) ?_
        refine s_nilO ?_
        refine q_seqN ?_
        refine s_keep [2, 3] rfl ?_
        refine s_ret ?_
        refine retF_leaf (.inr rfl) rfl rfl (by simp) rfl ?_
        exact ⟨⟨⟨_, _⟩, z, rfl, by omega⟩, _, _, (by omega), rfl⟩
      · intro h3
        try rw [Decidable.not_not] at h3
        refine s_skip ?_
        refine q_blkN ?_
        refine q_seqN ?_
        refine s_keep [2, 3, 4, 5] rfl ?_
        refine S_seq ?_
        refine s_rgH [1] rfl ?_
        refine h_op (o_ldnC rfl rfl rfl) rfl ?_
        refine h_op (o_ldnC rfl rfl rfl) rfl ?_
        refine h_stn rfl rfl rfl rfl rfl ?_
        refine h_bar rfl ?_
        refine s_opN (o_stnC rfl rfl rfl rfl rfl rfl rfl) ?_
        refine s_nilO ?_
        refine q_seqN ?_
        refine s_keep [2, 3] rfl ?_
        refine s_ret ?_
        refine retF_leaf (.inr rfl) rfl rfl (by simp) rfl ?_
        exact ⟨⟨⟨_, _⟩, z, rfl, by omega⟩, _, _, (by omega), rfl⟩
  · intro h1
    try rw [Decidable.not_not] at h1
    refine s_skip ?_
    refine q_seqN ?_
    refine s_keep [0, 2, 3, 4] rfl ?_
    refine S_seq ?_
    refine s_rg ?_
    refine s_op (o_mv rfl) ?_
    refine s_op (o_faC rfl) ?_
    refine s_op (o_ldC rfl rfl rfl) ?_
    first | refine s_op (o_lenM rfl) ?_ | refine s_op (o_len rfl) ?_ | refine s_op (o_lenL rfl rfl rfl) ?_ | refine s_op (o_lenN rfl) ?_
    refine s_op (o_mx rfl) ?_
    refine s_callG [0] rfl rfl rfl rfl (by simp) (.inl rfl) (cg_228 _ hc _ _ hi _) ?_
    rintro u L1 ⟨⟨p, rfl, hp⟩, i, h, hi, rfl⟩
    refine ⟨_, _, rfl, rfl, ?_⟩
    refine s_op (o_bd rfl rfl) ?_
    refine s_op (o_new rfl rfl) ?_
    refine s_opN (o_stnC rfl rfl rfl rfl rfl rfl rfl) ?_
    refine s_nilO ?_
    refine q_seqN ?_
    refine s_keep [0, 2, 3, 4, 5] rfl ?_
    refine S_seq ?_
    refine s_rg ?_
    refine s_op (o_mv rfl) ?_
    refine s_op (o_ldnC rfl rfl rfl) ?_
    refine s_op (o_faC rfl) ?_
    refine s_op (o_ldC rfl rfl rfl) ?_
    first | refine s_call rfl rfl (c_215 z p (by omega)) ?_ | refine s_callL rfl rfl (by simp) (c_215 z p (by omega)) rfl ?_
    first | refine s_op (o_addn rfl rfl (by omega)) ?_ | refine s_op (o_add rfl rfl) ?_
    refine s_callG [0] rfl rfl rfl rfl (by simp) (.inl rfl) (cg_228 _ hc _ _ hi _) ?_
    rintro u L1 ⟨⟨cr, rfl, hcr⟩, i, h, hi, rfl⟩
    refine ⟨_, _, rfl, rfl, ?_⟩
    refine s_op (o_faC rfl) ?_
    refine s_opN (o_stC rfl rfl rfl rfl rfl rfl) ?_
    refine s_nilO ?_
    refine q_seqN ?_
    refine s_keep [0, 2, 3, 4, 5] rfl ?_
    refine S_seq ?_
    refine S_seq ?_
    refine s_rg ?_
    refine s_op (o_mv rfl) ?_
    refine s_callG [0] rfl rfl rfl rfl (by simp) (.inl rfl) (cg_228 _ hc _ _ hi _) ?_
    rintro u L1 ⟨⟨x, rfl, hx⟩, i, h, hi, rfl⟩
    refine ⟨_, _, rfl, rfl, ?_⟩
    refine s_nilO ?_
    refine q_seqN ?_
    refine s_keep [0, 2, 3, 4, 5, 28] rfl ?_
    refine S_block ?_
    refine S_seq ?_
    refine s_rg ?_
    first | refine s_op (o_eql rfl rfl) ?_ | refine s_op (o_bin rfl rfl rfl rfl) ?_
    refine s_op (o_mv rfl) ?_
    refine s_nilO ?_
    refine q_seqN ?_
    refine s_keep [0, 2, 3, 4, 5, 28, 29] rfl ?_
    first | refine s_condD rfl ?_ ?_ | refine s_condN rfl ?_ ?_ | refine s_condNB rfl ?_ ?_ | refine s_condB rfl ?_ ?_
    · intro h4
      try rw [Decidable.not_not] at h4
      refine s_rg ?_
      refine s_op (o_mv rfl) ?_
      refine s_op (o_bs rfl rfl rfl rfl) ?_
      refine s_callG [0, 5] rfl rfl rfl rfl (by simp) (.inl rfl) (cg_234 _ hc _ _ hi _ _ rfl (by simp) (by simp)) ?_
      rintro u L1 ⟨⟨x, rfl, hx⟩, i, h, hi, rfl⟩
      refine ⟨_, _, rfl, rfl, ?_⟩
      try simp only [List.mem_cons, List.not_mem_nil, or_false] at hx
      refine s_op (o_faC rfl) ?_
      refine s_opN (o_stC rfl rfl rfl rfl rfl rfl) ?_
      refine s_nilO ?_
      refine q_blkN ?_
      refine q_seqN ?_
      refine s_keep [2, 3, 4, 5] rfl ?_
      refine S_seq ?_
      refine s_rgH [1] rfl ?_
      refine h_op (o_ldnC rfl rfl rfl) rfl ?_
      refine h_op (o_ldnC rfl rfl rfl) rfl ?_
      refine h_stn rfl rfl rfl rfl rfl ?_
      refine h_bar rfl ?_
      refine s_opN (o_stnC rfl rfl rfl rfl rfl rfl rfl) ?_
      refine s_nilO ?_
      refine q_seqN ?_
      refine s_keep [2, 3] rfl ?_
      refine s_ret ?_
      refine retF_leaf (.inr rfl) rfl rfl (by simp) rfl ?_
      exact ⟨⟨⟨_, _⟩, z, rfl, by omega⟩, _, _, (by omega), rfl⟩
    · intro h4
      try rw [Decidable.not_not] at h4
      refine S_seq ?_
      refine s_rg ?_
      first | refine s_op (o_eql rfl rfl) ?_ | refine s_op (o_bin rfl rfl rfl rfl) ?_
      refine s_op (o_mv rfl) ?_
      refine s_nilO ?_
      refine q_seqN ?_
      refine s_keep [0, 2, 3, 4, 5, 35] rfl ?_
      first | refine s_condD rfl ?_ ?_ | refine s_condN rfl ?_ ?_ | refine s_condNB rfl ?_ ?_ | refine s_condB rfl ?_ ?_
      · intro h5
        try rw [Decidable.not_not] at h5
        refine s_rg ?_
        refine s_op (o_mv rfl) ?_
        refine s_op (o_bs rfl rfl rfl rfl) ?_
        refine s_callG [0, 5] rfl rfl rfl rfl (by simp) (.inl rfl) (cg_234 _ hc _ _ hi _ _ rfl (by simp) (by simp)) ?_
        rintro u L1 ⟨⟨x, rfl, hx⟩, i, h, hi, rfl⟩
        refine ⟨_, _, rfl, rfl, ?_⟩
        try simp only [List.mem_cons, List.not_mem_nil, or_false] at hx
        refine s_op (o_faC rfl) ?_
        refine s_opN (o_stC rfl rfl rfl rfl rfl rfl) ?_
        refine s_nilO ?_
        refine q_blkN ?_
        refine q_seqN ?_
        refine s_keep [2, 3, 4, 5] rfl ?_
        refine S_seq ?_
        refine s_rgH [1] rfl ?_
        refine h_op (o_ldnC rfl rfl rfl) rfl ?_
        refine h_op (o_ldnC rfl rfl rfl) rfl ?_
        refine h_stn rfl rfl rfl rfl rfl ?_
        refine h_bar rfl ?_
        refine s_opN (o_stnC rfl rfl rfl rfl rfl rfl rfl) ?_
        refine s_nilO ?_
        refine q_seqN ?_
        refine s_keep [2, 3] rfl ?_
        refine s_ret ?_
        refine retF_leaf (.inr rfl) rfl rfl (by simp) rfl ?_
        exact ⟨⟨⟨_, _⟩, z, rfl, by omega⟩, _, _, (by omega), rfl⟩
      · intro h5
        try rw [Decidable.not_not] at h5
        refine s_skip ?_
        refine q_blkN ?_
        refine q_seqN ?_
        refine s_keep [2, 3, 4, 5] rfl ?_
        refine S_seq ?_
        refine s_rgH [1] rfl ?_
        refine h_op (o_ldnC rfl rfl rfl) rfl ?_
        refine h_op (o_ldnC rfl rfl rfl) rfl ?_
        refine h_stn rfl rfl rfl rfl rfl ?_
        refine h_bar rfl ?_
        refine s_opN (o_stnC rfl rfl rfl rfl rfl rfl rfl) ?_
        refine s_nilO ?_
        refine q_seqN ?_
        refine s_keep [2, 3] rfl ?_
        refine s_ret ?_
        refine retF_leaf (.inr rfl) rfl rfl (by simp) rfl ?_
        exact ⟨⟨⟨_, _⟩, z, rfl, by omega⟩, _, _, (by omega), rfl⟩

theorem c_123 (code : List Int) (hw : code.length ≤ 140737488355328) : CV prg 123 [.sl 1 (code.map uR)] (fun res => res = .w (.bool (decide (1048576 < (code.length : Int))))) := by
  refine cv_in g123 ?_
  refine s_keep [0] rfl ?_
  refine S_seq ?_
  refine s_rg ?_
  refine s_op (o_mv rfl) ?_
  refine s_nilO ?_
  refine q_seqN ?_
  refine s_keep [0] rfl ?_
  refine S_seq ?_
  refine s_rg ?_
  refine s_op (o_mv rfl) ?_
  first | refine s_op (o_lenM rfl) ?_ | refine s_op (o_len rfl) ?_
  first | refine s_op (o_gtr rfl rfl) ?_ | refine s_op (o_bin rfl rfl rfl rfl) ?_
  refine s_op (o_mv rfl) ?_
  refine s_nilO ?_
  refine q_seqN ?_
  refine s_keep [2] rfl ?_
  refine s_ret ?_
  refine ret_leaf (.inr rfl) rfl rfl ?_
  refine congrArg (fun b => V.w (.bool b)) ?_
  rfl

theorem c_311 (code : List Int) (hc : code.length ≤ 1048576) : CV prg 311 [.sl 1 (code.map uR)] (fun u => ∃ (w : Wrr) (x : Conf) (req : List Bool), u = .tup [.agg w.r, .agg x.r, .sl 1 (req.map bR)] ∧ x.masters.length ≤ 4 ∧ req.length ≤ 16) := by
  refine cv_in g311 ?_
  refine s_keep [0] rfl ?_
  refine S_seq ?_
  refine s_rg ?_
  refine s_op (o_new rfl rfl) ?_
  refine s_op (o_new rfl rfl) ?_
  refine s_op (o_mv rfl) ?_
  refine s_nilO ?_
  refine q_seqN ?_
  refine s_keep [0, 2, 3] rfl ?_
  refine S_seq ?_
  refine s_rg ?_
  refine s_op (o_mv rfl) ?_
  refine s_callG [] rfl rfl rfl rfl (by simp) (.inl rfl) (cg_231 _ hc) ?_
  rintro u L1 ⟨rfl, h, rfl⟩
  refine ⟨_, _, rfl, rfl, ?_⟩
  have hi : (0 : Int) ≤ 0 ∧ (0 : Int) ≤ (code.length : Int) := by omega
  refine s_op (o_mv rfl) ?_
  refine s_nilO ?_
  refine q_seqN ?_
  refine s_keep [2, 3, 5] rfl ?_
  refine S_seq ?_
  refine s_rg ?_
  refine s_op (o_mv rfl) ?_
  refine s_callG [2] rfl rfl rfl rfl (by simp) (.inl rfl) (cg_330 _ hc _ _ hi) ?_
  rintro u L1 ⟨⟨w, x, rfl, hx⟩, i, h, hi, rfl⟩
  refine ⟨_, _, rfl, rfl, ?_⟩
  refine s_op (o_mv rfl) ?_
  refine s_op (o_ext rfl rfl) ?_
  refine s_op (o_ext rfl rfl) ?_
  refine s_op (o_new rfl rfl) ?_
  refine s_op (o_new rfl rfl) ?_
  refine s_opN (o_stnC rfl rfl rfl rfl rfl rfl rfl) ?_
  refine s_opN (o_stnC rfl rfl rfl rfl rfl rfl rfl) ?_
  refine s_nilO ?_
  refine q_seqN ?_
  refine s_keep [2, 3, 5, 6, 7] rfl ?_
  refine S_seq ?_
  refine s_rg ?_
  refine s_op (o_faC rfl) ?_
  refine s_op (o_ldC rfl rfl rfl) ?_
  first | refine s_op (o_lenM rfl) ?_ | refine s_op (o_len rfl) ?_ | refine s_op (o_lenL rfl rfl rfl) ?_ | refine s_op (o_lenN rfl) ?_
  refine s_op (o_mv rfl) ?_
  refine s_nilO ?_
  refine q_seqN ?_
  refine s_keep [2, 3, 5, 6, 7, 8] rfl ?_
  refine S_seq ?_
  refine S_seq ?_
  refine s_rg ?_
  refine s_op (o_mv rfl) ?_
  refine s_callG [2] rfl rfl rfl rfl (by simp) (.inl rfl) (cg_233 _ hc _ _ hi _) ?_
  rintro u L1 ⟨⟨b, rfl⟩, i, h, hi, rfl⟩
  refine ⟨_, _, rfl, rfl, ?_⟩
  refine s_nilO ?_
  refine q_seqN ?_
  refine s_keep [2, 3, 5, 6, 7, 8, 20] rfl ?_
  first | refine s_condD rfl ?_ ?_ | refine s_condN rfl ?_ ?_ | refine s_condNB rfl ?_ ?_ | refine s_condB rfl ?_ ?_
  · intro h1
    try rw [Decidable.not_not] at h1
    refine s_rg ?_
    refine s_op (o_mv rfl) ?_
    first | refine s_op (o_addn rfl rfl (by omega)) ?_ | refine s_op (o_add rfl rfl) ?_
    refine s_op (o_mv rfl) ?_
    refine s_nilO ?_
    refine q_seqN ?_
    refine s_keep [2, 3, 5, 6, 7, 8] rfl ?_
    refine S_seq ?_
    refine s_rgH [0, 2] rfl ?_
    refine h_op (o_ldnC rfl rfl rfl) rfl ?_
    refine h_op (o_ldnC rfl rfl rfl) rfl ?_
    refine h_op (o_mv rfl) rfl ?_
    refine h_op (o_mv rfl) rfl ?_
    refine h_callG [2] [] rfl rfl rfl rfl rfl rfl (by simp) rfl (cg_331 _ hc _ _ hi _ (by omega)) (by simp) ?_
    rintro u L1 ⟨⟨req, rfl, hreq⟩, i, h, hi, rfl⟩
    refine ⟨rfl, _, _, _, _, rfl, rfl, rfl, rfl, ?_⟩
    refine h_stn rfl rfl rfl rfl rfl ?_
    refine h_bar rfl ?_
    refine s_opN (o_stnC rfl rfl rfl rfl rfl rfl rfl) ?_
    refine s_op (o_mv rfl) ?_
    refine s_nilO ?_
    refine q_seqN ?_
    refine s_keep [2, 3, 4] rfl ?_
    refine s_ret ?_
    refine ret_leaf (.inr rfl) rfl rfl ?_
    exact ⟨_, x, _, rfl, by omega, by omega⟩
  · intro h1
    try rw [Decidable.not_not] at h1
    refine s_skip ?_
    refine q_seqN ?_
    refine s_keep [2, 3, 5, 6, 7, 8] rfl ?_
    refine S_seq ?_
    refine s_rgH [0, 2] rfl ?_
    refine h_op (o_ldnC rfl rfl rfl) rfl ?_
    refine h_op (o_ldnC rfl rfl rfl) rfl ?_
    refine h_op (o_mv rfl) rfl ?_
    refine h_op (o_mv rfl) rfl ?_
    refine h_callG [2] [] rfl rfl rfl rfl rfl rfl (by simp) rfl (cg_331 _ hc _ _ hi _ (by omega)) (by simp) ?_
    rintro u L1 ⟨⟨req, rfl, hreq⟩, i, h, hi, rfl⟩
    refine ⟨rfl, _, _, _, _, rfl, rfl, rfl, rfl, ?_⟩
    refine h_stn rfl rfl rfl rfl rfl ?_
    refine h_bar rfl ?_
    refine s_opN (o_stnC rfl rfl rfl rfl rfl rfl rfl) ?_
    refine s_op (o_mv rfl) ?_
    refine s_nilO ?_
    refine q_seqN ?_
    refine s_keep [2, 3, 4] rfl ?_
    refine s_ret ?_
    refine ret_leaf (.inr rfl) rfl rfl ?_
    exact ⟨_, x, _, rfl, by omega, by omega⟩

theorem add_tmod_r {k n : Int} (h0 : 0 ≤ k) (h1 : k < n) (hn : 0 < n) : (k + n).tmod n = k := by
  rw [Int.tmod_eq_emod_of_nonneg (by omega), Int.add_emod_right, Int.emod_eq_of_lt h0 h1]
theorem ok_turn {c : Conf} {k : Int} (h : c.ok = true) (hk : inB k 0 (c.masters.length - 1) = true) : 1 ≤ c.turn k ∧ c.turn k ≤ 16 := by
  unfold Conf.turn
  rw [h, hk]
  simp only [Bool.and_self, if_true]
  unfold Conf.ok at h
  simp only [Bool.and_eq_true, decide_eq_true_eq] at h
  obtain ⟨⟨⟨⟨h1, h2⟩, h3⟩, h4⟩, h5⟩ := h
  have hk := inB_t hk
  have hq := inB_t h2
  obtain ⟨m, hm⟩ : ∃ m, c.masters[k.toNat]? = some m := ⟨_, List.getElem?_eq_getElem (by omega)⟩
  rw [hm]
  have hmo := List.all_eq_true.1 h5 m (List.mem_of_getElem? hm)
  unfold MConf.ok at hmo
  simp only [Bool.and_eq_true] at hmo
  have hw := inB_t hmo.1
  simp only
  have hw' : m.weight = 1 ∨ m.weight = 2 ∨ m.weight = 3 ∨ m.weight = 4 := by omega
  rcases hw' with e | e | e | e <;> rw [e] <;> rw [wrap_in _ (by omega)] <;> omega
theorem wrr_ok3 {w : Wrr} {c : Conf} (h : w.ok c = true) : c.ok = true ∧ inB w.pos 0 (c.masters.length - 1) = true ∧ 0 ≤ w.credit ∧ w.credit ≤ c.turn w.pos := by
  unfold Wrr.ok at h
  simp only [Bool.and_eq_true] at h
  exact ⟨h.1.1, h.1.2, inB_t h.2⟩
theorem wrr_ok_of {w : Wrr} {c : Conf} (h1 : c.ok = true) (h2 : inB w.pos 0 (c.masters.length - 1) = true) (h3 : 0 ≤ w.credit ∧ w.credit ≤ c.turn w.pos) : w.ok c = true := by
  unfold Wrr.ok
  rw [h1, h2]
  simp only [inB, Bool.true_and, Bool.and_eq_true, decide_eq_true_eq]; exact h3
theorem back_credit {w : Wrr} {c : Conf} (h : w.ok c = true) (hlt : w.credit < c.turn w.pos) : (w.back c w.pos).credit = w.credit + 1 := by
  have h3 := wrr_ok3 h
  have ht := ok_turn h3.1 h3.2.1
  unfold Wrr.back
  rw [if_pos (by rw [h]; simp), wrap_in _ (by omega)]
  simp only
  omega
structure PickF (w : Wrr) (x : Conf) (req : List Bool) (p : Wrr × Int) : Prop where
  ok : p.1.ok x = true
  who : (p.2 = -1 ∧ req.any id = false) ∨ (0 ≤ p.2 ∧ p.2 < req.length ∧ req[p.2.toNat]? = some true ∧ p.1.pos = p.2 ∧ (p.1.back x p.2).credit = p.1.credit + 1 ∧ req.any id = true)
  keep : w.credit = 0 ∨ req[w.pos.toNat]? = some false ∨ p.2 = w.pos
theorem any_at {req : List Bool} {i : Nat} (h : req[i]? = some true) : req.any id = true := List.any_eq_true.2 ⟨true, List.mem_of_getElem? h, rfl⟩
theorem pickF {w : Wrr} {x : Conf} {req : List Bool} (h1 : w.ok x = true) (h2 : (req.length : Int) = x.masters.length) : PickF w x req (w.pick x req) := by
  obtain ⟨hc, hp, hcr0, hcr1⟩ := wrr_ok3 h1
  have hp' := inB_t hp
  have hin : ∀ k : Int, 0 ≤ k → k < req.length → inB k 0 (x.masters.length - 1) = true := fun k h3 h4 => by simp only [inB, Bool.and_eq_true, decide_eq_true_eq]; omega
  obtain ⟨b, hb⟩ : ∃ b, req[w.pos.toNat]? = some b := ⟨_, List.getElem?_eq_getElem (by omega)⟩
  have ht := ok_turn hc hp
  by_cases hs : 0 < w.credit ∧ b = true
  · obtain ⟨h3, rfl⟩ := hs
    rw [pick_stay h1 h2 h3 hb, wrap_in (w.credit - 1) (by omega)]
    have ho : Wrr.ok ⟨w.pos, w.credit - 1⟩ x = true := wrr_ok_of hc hp ⟨by simp only; omega, by simp only; omega⟩
    exact ⟨ho, .inr ⟨by simp only; omega, by simp only; omega, hb, rfl, back_credit (w := ⟨w.pos, w.credit - 1⟩) ho (by simp only; omega), any_at hb⟩, .inr (.inr rfl)⟩
  · have h3 : ¬ 0 < w.credit ∨ req[w.pos.toNat]? = some false := by
      by_cases h4 : 0 < w.credit
      · right
        rw [hb]
        cases b with
        | false => rfl
        | true => exact absurd ⟨h4, rfl⟩ hs
      · exact .inl h4
    have hk : w.credit = 0 ∨ req[w.pos.toNat]? = some false := by
      rcases h3 with h3 | h3
      · left; omega
      · exact .inr h3
    cases hf : (List.range req.length).find? (w.hit req) with
    | none =>
      rw [pick_none h1 h2 h3 hf rfl]
      refine ⟨wrr_ok_of hc hp ⟨by simp only; omega, by simp only; omega⟩, .inl ⟨rfl, ?_⟩, ?_⟩
      · rw [List.any_eq_false]
        intro y hy
        obtain ⟨k, hk2⟩ := List.mem_iff_getElem?.1 hy
        have hkl := (List.getElem?_eq_some_iff.1 hk2).1
        -- every place is met
        have hno := List.find?_eq_none.1 hf
        have : ∃ i, i < req.length ∧ (w.pos + ((i : Int) + 1)).tmod req.length = k := by
          by_cases hle : w.pos < k
          · refine ⟨(k - w.pos - 1).toNat, by omega, ?_⟩
            rw [Int.tmod_eq_of_lt (by omega) (by omega)]; omega
          · refine ⟨(k + req.length - w.pos - 1).toNat, by omega, ?_⟩
            rw [show w.pos + (((k + req.length - w.pos - 1).toNat : Int) + 1) = k + req.length by omega, add_tmod_r]
            · omega
            · omega
            · omega
        obtain ⟨i, hi, he⟩ := this
        have h5 := hno i (List.mem_range.2 hi)
        unfold Wrr.hit at h5
        rw [he] at h5
        simp only [Int.toNat_natCast, hk2, Option.getD_some] at h5
        cases y with
        | false => simp
        | true => simp at h5
      · rcases hk with h | h
        · exact .inl h
        · exact .inr (.inl h)
    | some i =>
      have hi : i < req.length := List.mem_range.1 (List.mem_of_find?_eq_some hf)
      have hhit := List.find?_some hf
      unfold Wrr.hit at hhit
      have hr0 := Int.tmod_nonneg (req.length : Int) (show 0 ≤ w.pos + ((i : Int) + 1) by omega)
      have hr1 := Int.tmod_lt_of_pos (w.pos + ((i : Int) + 1)) (show (0 : Int) < req.length by omega)
      obtain ⟨k, hk'⟩ : ∃ k, k = (w.pos + ((i : Int) + 1)).tmod req.length := ⟨_, rfl⟩
      have hpk : w.pick x req = (⟨k, IntKind.wrap .i64 (x.turn k - 1)⟩, k) := by
        unfold Wrr.pick
        rw [if_pos (by simp [h1]; omega), if_neg (by rcases h3 with h | h <;> simp [h]), hf, hk']
      rw [hpk]
      rw [← hk'] at hr0 hr1 hhit
      have hat : req[k.toNat]? = some true := by
        cases e : req[k.toNat]? with
        | none => rw [e] at hhit; cases hhit
        | some y => rw [e] at hhit; simp at hhit; rw [hhit]
      have htk := ok_turn hc (hin k hr0 hr1)
      rw [wrap_in (x.turn k - 1) (by omega)]
      have ho : Wrr.ok ⟨k, x.turn k - 1⟩ x = true := wrr_ok_of hc (hin k hr0 hr1) ⟨by simp only; omega, by simp only; omega⟩
      refine ⟨ho, .inr ⟨hr0, hr1, hat, rfl, back_credit (w := ⟨k, x.turn k - 1⟩) ho (by simp only; omega), any_at hat⟩, ?_⟩
      rcases hk with h | h
      · exact .inl h
      · exact .inr (.inl h)

theorem any_next {xs : List Bool} {i : Nat} {y : Bool} (h : xs[i]? = some y) : (xs.take (i + 1)).any id = ((xs.take i).any id || y) := by
  rw [take_get h, List.any_append]; simp
theorem any_mono {xs : List Bool} {i : Nat} (h : (xs.take i).any id = true) : (xs.take (i + 1)).any id = true := by
  rw [List.any_eq_true] at h ⊢
  obtain ⟨y, h1, h2⟩ := h
  exact ⟨y, (List.take_subset_take_left xs (Nat.le_succ i)) h1, h2⟩
theorem pick_ix {w : Wrr} {x : Conf} {req : List Bool} {p : Wrr × Int} (h : PickF w x req p) (hn : ¬ p.2 < 0) : 0 ≤ p.2 ∧ p.2 < req.length := by
  rcases h.who with ⟨h1, _⟩ | ⟨h1, h2, _⟩
  · omega
  · exact ⟨h1, h2⟩
theorem pick_wr {w : Wrr} {x : Conf} {req : List Bool} {p : Wrr × Int} (h : PickF w x req p) : IntKind.wrap .i64 (p.1.credit + 1) = p.1.credit + 1 := by
  have h3 := wrr_ok3 h.ok
  have ht := ok_turn h3.1 h3.2.1
  exact wrap_in _ (by omega)
theorem pick_ixw {w : Wrr} {x : Conf} {req : List Bool} (h : w.ok x = true) (h2 : (req.length : Int) = x.masters.length) : 0 ≤ w.pos ∧ w.pos < req.length := by
  have := inB_t (wrr_ok3 h).2.1
  omega

theorem c_297 (code : List Int) (hw : code.length ≤ 140737488355328) : CV prg 297 [.sl 1 (code.map uR)] (fun res => res = .w (.bool true)) := by
  refine cv_in g297 ?_
  refine s_keep [0] rfl ?_
  refine S_seq ?_
  refine s_rg ?_
  refine s_op (o_mv rfl) ?_
  refine s_nilO ?_
  refine q_seqN ?_
  refine s_keep [0] rfl ?_
  refine S_seq ?_
  refine S_seq ?_
  refine s_rg ?_
  refine s_op (o_mv rfl) ?_
  refine s_call rfl rfl (c_123 _ (by assumption)) ?_
  refine s_nilO ?_
  refine q_seqN ?_
  refine s_keep [0, 14] rfl ?_
  first | refine s_condD rfl ?_ ?_ | refine s_condN rfl ?_ ?_ | refine s_condNB rfl ?_ ?_ | refine s_condB rfl ?_ ?_
  · intro h1
    try rw [Decidable.not_not] at h1
    try have hc : code.length ≤ 1048576 := by simp at h1; omega
    try have hlen : (req.length : Int) = x.masters.length := (by assumption)
    try have hpf := pickF (w := w) (x := x) (req := req) (by assumption) (by assumption)
    try have hpn := pick_no (w := w) (c := x) (req := req) (.inr (by assumption))
    try have hpn := pick_no (w := w) (c := x) (req := req) (.inl (by assumption))
    refine S_seq ?_
    refine s_rg ?_
    refine s_op (o_mv rfl) ?_
    refine s_nilO ?_
    refine q_seqN ?_
    refine s_keep [2] rfl ?_
    refine s_ret ?_
    refine q_seqR ?_
    refine ret_leaf (.inr rfl) rfl rfl ?_
    refine congrArg (fun b => V.w (.bool b)) ?_
    first | (simp_all; done) | (rcases hpf.who with ⟨q1, q2⟩ | ⟨q1, q2, q3, q4, q5, q6⟩ <;> rcases hpf.keep with k1 | k1 | k1 <;> have k0 := hpf.ok <;> have kw := pick_wr hpf <;> have hz := take_end (xs := req) (i := i) (by omega) <;> simp_all <;> omega)
  · intro h1
    try rw [Decidable.not_not] at h1
    try have hc : code.length ≤ 1048576 := by simp at h1; omega
    try have hlen : (req.length : Int) = x.masters.length := (by assumption)
    try have hpf := pickF (w := w) (x := x) (req := req) (by assumption) (by assumption)
    try have hpn := pick_no (w := w) (c := x) (req := req) (.inr (by assumption))
    try have hpn := pick_no (w := w) (c := x) (req := req) (.inl (by assumption))
    refine s_skip ?_
    refine q_seqN ?_
    refine s_keep [0] rfl ?_
    refine S_seq ?_
    refine s_rg ?_
    refine s_op (o_mv rfl) ?_
    refine s_callP rfl rfl (c_311 _ hc) ?_
    rintro u ⟨w, x, req, rfl, hx, hreq⟩
    refine s_op (o_mv rfl) ?_
    refine s_op (o_ext rfl rfl) ?_
    refine s_op (o_ext rfl rfl) ?_
    refine s_op (o_ext rfl rfl) ?_
    refine s_op (o_new rfl rfl) ?_
    refine s_op (o_new rfl rfl) ?_
    refine s_opN (o_stnC rfl rfl rfl rfl rfl rfl rfl) ?_
    refine s_opN (o_stnC rfl rfl rfl rfl rfl rfl rfl) ?_
    refine s_op (o_mv rfl) ?_
    refine s_nilO ?_
    refine q_seqN ?_
    refine s_keep [3, 4, 5] rfl ?_
    refine S_seq ?_
    refine s_rg ?_
    refine s_op (o_ldnC rfl rfl rfl) ?_
    refine s_op (o_ldnC rfl rfl rfl) ?_
    refine s_op (o_mv rfl) ?_
    first | refine s_call rfl rfl (c_83 w x req (by omega)) ?_ | refine s_callL rfl rfl (by simp) (c_83 w x req (by omega)) rfl ?_
    refine s_op (o_mv rfl) ?_
    refine s_op (o_ext rfl rfl) ?_
    refine s_op (o_ext rfl rfl) ?_
    refine s_op (o_new rfl rfl) ?_
    refine s_opN (o_stnC rfl rfl rfl rfl rfl rfl rfl) ?_
    refine s_op (o_mv rfl) ?_
    refine s_nilO ?_
    refine q_seqN ?_
    refine s_keep [3, 4, 5, 6, 7] rfl ?_
    refine S_seq ?_
    refine s_rg ?_
    refine s_op (o_ldnC rfl rfl rfl) ?_
    refine s_op (o_ldnC rfl rfl rfl) ?_
    refine s_op (o_mv rfl) ?_
    first | refine s_call rfl rfl (c_312 w x req (by omega)) ?_ | refine s_callL rfl rfl (by simp) (c_312 w x req (by omega)) rfl ?_
    refine s_op (o_mv rfl) ?_
    refine s_op (o_ext rfl rfl) ?_
    refine s_op (o_ext rfl rfl) ?_
    refine s_op (o_new rfl rfl) ?_
    refine s_opN (o_stnC rfl rfl rfl rfl rfl rfl rfl) ?_
    refine s_op (o_mv rfl) ?_
    refine s_nilO ?_
    refine q_seqN ?_
    refine s_keep [3, 4, 5, 6, 7, 8, 9] rfl ?_
    refine S_seq ?_
    refine S_seq ?_
    refine s_rg ?_
    refine s_op (o_ldnC rfl rfl rfl) ?_
    refine s_op (o_ldnC rfl rfl rfl) ?_
    refine s_op (o_eqs rfl rfl rfl rfl rfl) ?_
    refine s_op (o_mv rfl) ?_
    first | refine s_gDF rfl ?_ ?_ | refine s_gNDF rfl ?_ ?_ | refine s_gNF rfl ?_ ?_ | refine s_gB rfl ?_ ?_
    · intro h2
      try rw [Decidable.not_not] at h2
      try have hc : code.length ≤ 1048576 := by simp at h2; omega
      try have hlen : (req.length : Int) = x.masters.length := (by assumption)
      try have hpf := pickF (w := w) (x := x) (req := req) (by assumption) (by assumption)
      try have hpn := pick_no (w := w) (c := x) (req := req) (.inr (by assumption))
      try have hpn := pick_no (w := w) (c := x) (req := req) (.inl (by assumption))
      refine s_op (o_mv rfl) ?_
      refine s_gT rfl ?_
      refine s_op (o_mv rfl) ?_
      refine s_gT rfl ?_
      first | refine s_op (o_neq rfl rfl) ?_ | refine s_op (o_bin rfl rfl rfl rfl) ?_
      refine s_op (o_pickF rfl rfl) ?_
      refine s_nilO ?_
      refine q_seqN ?_
      refine s_keep [3, 4, 5, 6, 7, 42] rfl ?_
      first | refine s_condD rfl ?_ ?_ | refine s_condN rfl ?_ ?_ | refine s_condNB rfl ?_ ?_ | refine s_condB rfl ?_ ?_
      · intro h3
        try rw [Decidable.not_not] at h3
        try have hc : code.length ≤ 1048576 := by simp at h3; omega
        try have hlen : (req.length : Int) = x.masters.length := (by assumption)
        try have hpf := pickF (w := w) (x := x) (req := req) (by assumption) (by assumption)
        try have hpn := pick_no (w := w) (c := x) (req := req) (.inr (by assumption))
        try have hpn := pick_no (w := w) (c := x) (req := req) (.inl (by assumption))
        refine S_seq ?_
        refine s_rg ?_
        refine s_op (o_mv rfl) ?_
        refine s_nilO ?_
        refine q_seqN ?_
        refine s_keep [2] rfl ?_
        refine s_ret ?_
        refine q_seqR ?_
        refine ret_leaf (.inr rfl) rfl rfl ?_
        refine congrArg (fun b => V.w (.bool b)) ?_
        first | (simp_all; done) | (rcases hpf.who with ⟨q1, q2⟩ | ⟨q1, q2, q3, q4, q5, q6⟩ <;> rcases hpf.keep with k1 | k1 | k1 <;> have k0 := hpf.ok <;> have kw := pick_wr hpf <;> have hz := take_end (xs := req) (i := i) (by omega) <;> simp_all <;> omega)
      · intro h3
        try rw [Decidable.not_not] at h3
        try have hc : code.length ≤ 1048576 := by simp at h3; omega
        try have hlen : (req.length : Int) = x.masters.length := (by assumption)
        try have hpf := pickF (w := w) (x := x) (req := req) (by assumption) (by assumption)
        try have hpn := pick_no (w := w) (c := x) (req := req) (.inr (by assumption))
        try have hpn := pick_no (w := w) (c := x) (req := req) (.inl (by assumption))
        refine s_skip ?_
        refine q_seqN ?_
        refine s_keep [3, 4, 5, 6, 7] rfl ?_
        refine S_seq ?_
        refine S_seq ?_
        refine s_rg ?_
        refine s_op (o_ldnC rfl rfl rfl) ?_
        refine s_op (o_ldnC rfl rfl rfl) ?_
        first | refine s_call rfl rfl (c_217 _ x (by omega)) ?_ | refine s_callL rfl rfl (by simp) (c_217 _ x (by omega)) rfl ?_
        refine s_op (o_not rfl) ?_
        refine s_op (o_mv rfl) ?_
        first | refine s_gDF rfl ?_ ?_ | refine s_gNDF rfl ?_ ?_ | refine s_gNF rfl ?_ ?_ | refine s_gB rfl ?_ ?_
        · intro h4
          try rw [Decidable.not_not] at h4
          try have hc : code.length ≤ 1048576 := by simp at h4; omega
          try have hlen : (req.length : Int) = x.masters.length := (by assumption)
          try have hpf := pickF (w := w) (x := x) (req := req) (by assumption) (by assumption)
          try have hpn := pick_no (w := w) (c := x) (req := req) (.inr (by assumption))
          try have hpn := pick_no (w := w) (c := x) (req := req) (.inl (by assumption))
          refine s_op (o_mv rfl) ?_
          refine s_gT rfl ?_
          first | refine s_op (o_lenM rfl) ?_ | refine s_op (o_len rfl) ?_ | refine s_op (o_lenL rfl rfl rfl) ?_ | refine s_op (o_lenN rfl) ?_
          refine s_gT rfl ?_
          refine s_op (o_faC rfl) ?_
          refine s_gT rfl ?_
          refine s_op (o_ldC rfl rfl rfl) ?_
          refine s_gT rfl ?_
          first | refine s_op (o_lenM rfl) ?_ | refine s_op (o_len rfl) ?_ | refine s_op (o_lenL rfl rfl rfl) ?_ | refine s_op (o_lenN rfl) ?_
          refine s_gT rfl ?_
          first | refine s_op (o_neq rfl rfl) ?_ | refine s_op (o_bin rfl rfl rfl rfl) ?_
          refine s_op (o_pickF rfl rfl) ?_
          refine s_nilO ?_
          refine q_seqN ?_
          refine s_keep [3, 4, 5, 6, 7, 54] rfl ?_
          first | refine s_condD rfl ?_ ?_ | refine s_condN rfl ?_ ?_ | refine s_condNB rfl ?_ ?_ | refine s_condB rfl ?_ ?_
          · intro h5
            try rw [Decidable.not_not] at h5
            try have hc : code.length ≤ 1048576 := by simp at h5; omega
            try have hlen : (req.length : Int) = x.masters.length := (by assumption)
            try have hpf := pickF (w := w) (x := x) (req := req) (by assumption) (by assumption)
            try have hpn := pick_no (w := w) (c := x) (req := req) (.inr (by assumption))
            try have hpn := pick_no (w := w) (c := x) (req := req) (.inl (by assumption))
            refine S_seq ?_
            refine s_rg ?_
            refine s_op (o_mv rfl) ?_
            first | refine s_op (o_eql rfl rfl) ?_ | refine s_op (o_bin rfl rfl rfl rfl) ?_
            refine s_op (o_mv rfl) ?_
            first | refine s_gDT rfl ?_ ?_ | refine s_gNDT rfl ?_ ?_ | refine s_gNT rfl ?_ ?_ | refine s_gB rfl ?_ ?_
            · intro h6
              try rw [Decidable.not_not] at h6
              try have hc : code.length ≤ 1048576 := by simp at h6; omega
              try have hlen : (req.length : Int) = x.masters.length := (by assumption)
              try have hpf := pickF (w := w) (x := x) (req := req) (by assumption) (by assumption)
              try have hpn := pick_no (w := w) (c := x) (req := req) (.inr (by assumption))
              try have hpn := pick_no (w := w) (c := x) (req := req) (.inl (by assumption))
              refine s_op (o_ldnC rfl rfl rfl) ?_
              refine s_gT rfl ?_
              refine s_op (o_ldnC rfl rfl rfl) ?_
              refine s_gT rfl ?_
              refine s_op (o_eqs rfl rfl rfl rfl rfl) ?_
              refine s_op (o_pickT rfl rfl) ?_
              refine s_op (o_mv rfl) ?_
              refine s_nilO ?_
              refine q_seqN ?_
              refine s_keep [2] rfl ?_
              refine s_ret ?_
              refine q_seqR ?_
              refine ret_leaf (.inr rfl) rfl rfl ?_
              refine congrArg (fun b => V.w (.bool b)) ?_
              first | (simp_all; done) | (rcases hpf.who with ⟨q1, q2⟩ | ⟨q1, q2, q3, q4, q5, q6⟩ <;> rcases hpf.keep with k1 | k1 | k1 <;> have k0 := hpf.ok <;> have kw := pick_wr hpf <;> have hz := take_end (xs := req) (i := i) (by omega) <;> simp_all <;> omega)
            · intro h6
              try rw [Decidable.not_not] at h6
              try have hc : code.length ≤ 1048576 := by simp at h6; omega
              try have hlen : (req.length : Int) = x.masters.length := (by assumption)
              try have hpf := pickF (w := w) (x := x) (req := req) (by assumption) (by assumption)
              try have hpn := pick_no (w := w) (c := x) (req := req) (.inr (by assumption))
              try have hpn := pick_no (w := w) (c := x) (req := req) (.inl (by assumption))
              refine s_gF rfl ?_
              refine s_gF rfl ?_
              refine s_gF rfl ?_
              refine s_op (o_pickF rfl rfl) ?_
              refine s_op (o_mv rfl) ?_
              refine s_nilO ?_
              refine q_seqN ?_
              refine s_keep [2] rfl ?_
              refine s_ret ?_
              refine q_seqR ?_
              refine ret_leaf (.inr rfl) rfl rfl ?_
              refine congrArg (fun b => V.w (.bool b)) ?_
              first | (simp_all; done) | (rcases hpf.who with ⟨q1, q2⟩ | ⟨q1, q2, q3, q4, q5, q6⟩ <;> rcases hpf.keep with k1 | k1 | k1 <;> have k0 := hpf.ok <;> have kw := pick_wr hpf <;> have hz := take_end (xs := req) (i := i) (by omega) <;> simp_all <;> omega)
          · intro h5
            try rw [Decidable.not_not] at h5
            try have hc : code.length ≤ 1048576 := by simp at h5; omega
            try have hlen : (req.length : Int) = x.masters.length := (by assumption)
            try have hpf := pickF (w := w) (x := x) (req := req) (by assumption) (by assumption)
            try have hpn := pick_no (w := w) (c := x) (req := req) (.inr (by assumption))
            try have hpn := pick_no (w := w) (c := x) (req := req) (.inl (by assumption))
            refine s_skip ?_
            refine q_seqN ?_
            refine s_keep [3, 4, 5, 6, 7] rfl ?_
            refine S_seq ?_
            refine s_rg ?_
            refine s_op (o_ldnC rfl rfl rfl) ?_
            refine s_op (o_ldnC rfl rfl rfl) ?_
            refine s_op (o_mv rfl) ?_
            first | refine s_call rfl rfl (c_81 _ x _ (by omega)) ?_ | refine s_callL rfl rfl (by simp) (c_81 _ x _ (by omega)) rfl ?_
            refine s_op (o_new rfl rfl) ?_
            refine s_opN (o_stnC rfl rfl rfl rfl rfl rfl rfl) ?_
            refine s_nilO ?_
            refine q_seqN ?_
            refine s_keep [3, 4, 5, 6, 7, 10] rfl ?_
            refine S_seq ?_
            refine s_rg ?_
            refine s_op (o_mv rfl) ?_
            refine s_nilO ?_
            refine q_seqN ?_
            refine s_keep [3, 4, 5, 6, 7, 10, 11] rfl ?_
            refine S_seq ?_
            refine S_seq ?_
            refine s_rg ?_
            refine s_op (o_mv rfl) ?_
            refine s_nilO ?_
            refine q_seqN ?_
            refine s_keep [3, 4, 5, 6, 7, 10, 11, 12] rfl ?_
            refine S_block ?_
            refine S_loop0 (ι := Nat) (fun i => i ≤ req.length) (fun i => [(12, .w (.int .i64 (i : Int))), (11, .w (.bool ((req.take i).any id)))]) (fun i => req.length - i) 0 (by simp) rfl ⟨rfl, rfl, trivial⟩ (fun _ _ => rfl) rfl ?_
            intro i hi
            refine s_keep [3, 4, 5, 6, 7, 10, 11, 12] rfl ?_
            refine S_seq ?_
            refine S_seq ?_
            refine s_rg ?_
            refine s_op (o_mv rfl) ?_
            refine s_op (o_mv rfl) ?_
            first | refine s_op (o_lenM rfl) ?_ | refine s_op (o_len rfl) ?_ | refine s_op (o_lenL rfl rfl rfl) ?_ | refine s_op (o_lenN rfl) ?_
            first | refine s_op (o_lss rfl rfl) ?_ | refine s_op (o_bin rfl rfl rfl rfl) ?_
            refine s_nilO ?_
            refine q_seqN ?_
            refine s_keep [3, 4, 5, 6, 7, 10, 11, 12, 69] rfl ?_
            first | refine s_condD rfl ?_ ?_ | refine s_condN rfl ?_ ?_ | refine s_condNB rfl ?_ ?_ | refine s_condB rfl ?_ ?_
            · intro h7
              try rw [Decidable.not_not] at h7
              try have hc : code.length ≤ 1048576 := by simp at h7; omega
              try have hlen : (req.length : Int) = x.masters.length := (by assumption)
              try have hpf := pickF (w := w) (x := x) (req := req) (by assumption) (by assumption)
              try have hpn := pick_no (w := w) (c := x) (req := req) (.inr (by assumption))
              try have hpn := pick_no (w := w) (c := x) (req := req) (.inl (by assumption))
              refine s_skip ?_
              refine q_seqN ?_
              refine s_keep [3, 4, 5, 6, 7, 10, 11, 12] rfl ?_
              refine S_seq ?_
              refine S_block ?_
              refine s_rg ?_
              refine s_op (o_mv rfl) ?_
              refine s_op (o_mv rfl) ?_
              first | refine s_gDF rfl ?_ ?_ | refine s_gNDF rfl ?_ ?_ | refine s_gNF rfl ?_ ?_ | refine s_gB rfl ?_ ?_
              · intro h8
                try rw [Decidable.not_not] at h8
                try have hc : code.length ≤ 1048576 := by simp at h8; omega
                try have hlen : (req.length : Int) = x.masters.length := (by assumption)
                try have hpf := pickF (w := w) (x := x) (req := req) (by assumption) (by assumption)
                try have hpn := pick_no (w := w) (c := x) (req := req) (.inr (by assumption))
                try have hpn := pick_no (w := w) (c := x) (req := req) (.inl (by assumption))
                refine s_op (o_mv rfl) ?_
                refine s_gT rfl ?_
                refine s_op (o_mv rfl) ?_
                refine s_gT rfl ?_
                refine s_iaM rfl rfl (by first | omega | exact pick_ix hpf (by assumption) | exact pick_ixw (by assumption) (by assumption)) ?_
                intro y9 e9
                try simp only [Int.toNat_natCast, Int.toNat_zero] at e9
                refine s_gT rfl ?_
                refine s_op (o_ld rfl rfl) ?_
                refine s_op (o_pickF rfl rfl) ?_
                refine s_op (o_mv rfl) ?_
                refine s_nilO ?_
                refine q_blkN ?_
                refine q_seqN ?_
                refine s_keep [3, 4, 5, 6, 7, 10, 11, 12, 74, 75, 76, 77] rfl ?_
                refine s_rg ?_
                refine s_op (o_mv rfl) ?_
                first | refine s_op (o_addn rfl rfl (by omega)) ?_ | refine s_op (o_add rfl rfl) ?_
                refine s_op (o_mv rfl) ?_
                refine s_nilO ?_
                refine q_loopN ?_
                refine ⟨i + 1, by omega, by omega, hasOf ⟨rfl, ?_, trivial⟩ rfl⟩
                refine congrArg (fun b => some (V.w (.bool b))) ?_
                first | (rw [any_mono (by assumption)]; done) | (rw [any_next (by assumption)]; clear hi; simp_all; done)
              · intro h8
                try rw [Decidable.not_not] at h8
                try have hc : code.length ≤ 1048576 := by simp at h8; omega
                try have hlen : (req.length : Int) = x.masters.length := (by assumption)
                try have hpf := pickF (w := w) (x := x) (req := req) (by assumption) (by assumption)
                try have hpn := pick_no (w := w) (c := x) (req := req) (.inr (by assumption))
                try have hpn := pick_no (w := w) (c := x) (req := req) (.inl (by assumption))
                refine s_gF rfl ?_
                refine s_gF rfl ?_
                refine s_gF rfl ?_
                refine s_gF rfl ?_
                refine s_op (o_pickT rfl rfl) ?_
                refine s_op (o_mv rfl) ?_
                refine s_nilO ?_
                refine q_blkN ?_
                refine q_seqN ?_
                refine s_keep [3, 4, 5, 6, 7, 10, 11, 12, 74, 75, 76, 77] rfl ?_
                refine s_rg ?_
                refine s_op (o_mv rfl) ?_
                first | refine s_op (o_addn rfl rfl (by omega)) ?_ | refine s_op (o_add rfl rfl) ?_
                refine s_op (o_mv rfl) ?_
                refine s_nilO ?_
                refine q_loopN ?_
                refine ⟨i + 1, by omega, by omega, hasOf ⟨rfl, ?_, trivial⟩ rfl⟩
                refine congrArg (fun b => some (V.w (.bool b))) ?_
                first | (rw [any_mono (by assumption)]; done) | (rw [any_next (by assumption)]; clear hi; simp_all; done)
            · intro h7
              try rw [Decidable.not_not] at h7
              try have hc : code.length ≤ 1048576 := by simp at h7; omega
              try have hlen : (req.length : Int) = x.masters.length := (by assumption)
              try have hpf := pickF (w := w) (x := x) (req := req) (by assumption) (by assumption)
              try have hpn := pick_no (w := w) (c := x) (req := req) (.inr (by assumption))
              try have hpn := pick_no (w := w) (c := x) (req := req) (.inl (by assumption))
              refine s_exit ?_
              refine q_seqX ?_
              refine q_loopX ?_
              refine q_blkH ?_
              refine q_seqN ?_
              refine s_keep [3, 4, 5, 6, 7, 10, 11] rfl ?_
              refine S_seq ?_
              refine s_rg ?_
              refine s_op (o_mv rfl) ?_
              first | refine s_op (o_geq rfl rfl) ?_ | refine s_op (o_bin rfl rfl rfl rfl) ?_
              refine s_op (o_mv rfl) ?_
              refine s_op (o_eqb rfl rfl) ?_
              refine s_op (o_mv rfl) ?_
              first | refine s_gDT rfl ?_ ?_ | refine s_gNDT rfl ?_ ?_ | refine s_gNT rfl ?_ ?_ | refine s_gB rfl ?_ ?_
              · intro h10
                try rw [Decidable.not_not] at h10
                try have hc : code.length ≤ 1048576 := by simp at h10; omega
                try have hlen : (req.length : Int) = x.masters.length := (by assumption)
                try have hpf := pickF (w := w) (x := x) (req := req) (by assumption) (by assumption)
                try have hpn := pick_no (w := w) (c := x) (req := req) (.inr (by assumption))
                try have hpn := pick_no (w := w) (c := x) (req := req) (.inl (by assumption))
                refine s_op (o_mv rfl) ?_
                refine s_gT rfl ?_
                first | refine s_op (o_lss rfl rfl) ?_ | refine s_op (o_bin rfl rfl rfl rfl) ?_
                refine s_gT rfl ?_
                refine s_op (o_mv rfl) ?_
                first | refine s_gDF rfl ?_ ?_ | refine s_gNDF rfl ?_ ?_ | refine s_gNF rfl ?_ ?_ | refine s_gB rfl ?_ ?_
                · intro h11
                  try rw [Decidable.not_not] at h11
                  try have hc : code.length ≤ 1048576 := by simp at h11; omega
                  try have hlen : (req.length : Int) = x.masters.length := (by assumption)
                  try have hpf := pickF (w := w) (x := x) (req := req) (by assumption) (by assumption)
                  try have hpn := pick_no (w := w) (c := x) (req := req) (.inr (by assumption))
                  try have hpn := pick_no (w := w) (c := x) (req := req) (.inl (by assumption))
                  refine s_op (o_mv rfl) ?_
                  refine s_gT rfl ?_
                  refine s_op (o_mv rfl) ?_
                  refine s_gT rfl ?_
                  refine s_iaM rfl rfl (by first | omega | exact pick_ix hpf (by assumption) | exact pick_ixw (by assumption) (by assumption)) ?_
                  intro y12 e12
                  try simp only [Int.toNat_natCast, Int.toNat_zero] at e12
                  refine s_gT rfl ?_
                  refine s_op (o_ld rfl rfl) ?_
                  refine s_gT rfl ?_
                  refine s_op (o_mv rfl) ?_
                  first | refine s_gDT rfl ?_ ?_ | refine s_gNDT rfl ?_ ?_ | refine s_gNT rfl ?_ ?_ | refine s_gB rfl ?_ ?_
                  · intro h13
                    try rw [Decidable.not_not] at h13
                    try have hc : code.length ≤ 1048576 := by simp at h13; omega
                    try have hlen : (req.length : Int) = x.masters.length := (by assumption)
                    try have hpf := pickF (w := w) (x := x) (req := req) (by assumption) (by assumption)
                    try have hpn := pick_no (w := w) (c := x) (req := req) (.inr (by assumption))
                    try have hpn := pick_no (w := w) (c := x) (req := req) (.inl (by assumption))
                    refine s_op (o_faC rfl) ?_
                    refine s_keepO (is := [3, 4, 5, 6, 7, 10, 83, 86, 91, 92]) rfl ?_
                    refine s_gT rfl ?_
                    refine s_op (o_ldC rfl rfl rfl) ?_
                    refine s_gT rfl ?_
                    refine s_op (o_mv rfl) ?_
                    refine s_gT rfl ?_
                    first | refine s_op (o_eql rfl rfl) ?_ | refine s_op (o_bin rfl rfl rfl rfl) ?_
                    refine s_gT rfl ?_
                    refine s_op (o_pickT rfl rfl) ?_
                    refine s_gT rfl ?_
                    refine s_op (o_mv rfl) ?_
                    first | refine s_gDT rfl ?_ ?_ | refine s_gNDT rfl ?_ ?_ | refine s_gNT rfl ?_ ?_ | refine s_gB rfl ?_ ?_
                    · intro h14
                      try rw [Decidable.not_not] at h14
                      try have hc : code.length ≤ 1048576 := by simp at h14; omega
                      try have hlen : (req.length : Int) = x.masters.length := (by assumption)
                      try have hpf := pickF (w := w) (x := x) (req := req) (by assumption) (by assumption)
                      try have hpn := pick_no (w := w) (c := x) (req := req) (.inr (by assumption))
                      try have hpn := pick_no (w := w) (c := x) (req := req) (.inl (by assumption))
                      refine s_op (o_faC rfl) ?_
                      refine s_gT rfl ?_
                      refine s_op (o_ldC rfl rfl rfl) ?_
                      refine s_gT rfl ?_
                      refine s_op (o_faC rfl) ?_
                      refine s_gT rfl ?_
                      refine s_op (o_ldC rfl rfl rfl) ?_
                      refine s_gT rfl ?_
                      first | refine s_op (o_addn rfl rfl (by omega)) ?_ | refine s_op (o_add rfl rfl) ?_
                      refine s_gT rfl ?_
                      first | refine s_op (o_eql rfl rfl) ?_ | refine s_op (o_bin rfl rfl rfl rfl) ?_
                      refine s_gT rfl ?_
                      refine s_op (o_pickT rfl rfl) ?_
                      refine s_gT rfl ?_
                      refine s_op (o_pickF rfl rfl) ?_
                      refine s_op (o_pickT rfl rfl) ?_
                      refine s_keepO (is := [3, 4, 5, 6, 7, 106]) rfl ?_
                      refine s_op (o_mv rfl) ?_
                      first | refine s_gDT rfl ?_ ?_ | refine s_gNDT rfl ?_ ?_ | refine s_gNT rfl ?_ ?_ | refine s_gB rfl ?_ ?_
                      · intro h15
                        try rw [Decidable.not_not] at h15
                        try have hc : code.length ≤ 1048576 := by simp at h15; omega
                        try have hlen : (req.length : Int) = x.masters.length := (by assumption)
                        try have hpf := pickF (w := w) (x := x) (req := req) (by assumption) (by assumption)
                        try have hpn := pick_no (w := w) (c := x) (req := req) (.inr (by assumption))
                        try have hpn := pick_no (w := w) (c := x) (req := req) (.inl (by assumption))
                        refine s_op (o_ldnC rfl rfl rfl) ?_
                        refine s_gT rfl ?_
                        refine s_op (o_ldnC rfl rfl rfl) ?_
                        refine s_gT rfl ?_
                        first | refine s_call rfl rfl (c_217 _ x (by omega)) ?_ | refine s_callL rfl rfl (by simp) (c_217 _ x (by omega)) rfl ?_
                        refine s_op (o_pickT rfl rfl) ?_
                        refine s_op (o_mv rfl) ?_
                        first | refine s_gDT rfl ?_ ?_ | refine s_gNDT rfl ?_ ?_ | refine s_gNT rfl ?_ ?_ | refine s_gB rfl ?_ ?_
                        · intro h16
                          try rw [Decidable.not_not] at h16
                          try have hc : code.length ≤ 1048576 := by simp at h16; omega
                          try have hlen : (req.length : Int) = x.masters.length := (by assumption)
                          try have hpf := pickF (w := w) (x := x) (req := req) (by assumption) (by assumption)
                          try have hpn := pick_no (w := w) (c := x) (req := req) (.inr (by assumption))
                          try have hpn := pick_no (w := w) (c := x) (req := req) (.inl (by assumption))
                          refine s_op (o_faC rfl) ?_
                          refine s_gT rfl ?_
                          refine s_op (o_ldC rfl rfl rfl) ?_
                          refine s_gT rfl ?_
                          first | refine s_op (o_eql rfl rfl) ?_ | refine s_op (o_bin rfl rfl rfl rfl) ?_
                          refine s_gT rfl ?_
                          refine s_op (o_mv rfl) ?_
                          first | refine s_gDF rfl ?_ ?_ | refine s_gNDF rfl ?_ ?_ | refine s_gNF rfl ?_ ?_ | refine s_gB rfl ?_ ?_
                          · intro h17
                            try rw [Decidable.not_not] at h17
                            try have hc : code.length ≤ 1048576 := by simp at h17; omega
                            try have hlen : (req.length : Int) = x.masters.length := (by assumption)
                            try have hpf := pickF (w := w) (x := x) (req := req) (by assumption) (by assumption)
                            try have hpn := pick_no (w := w) (c := x) (req := req) (.inr (by assumption))
                            try have hpn := pick_no (w := w) (c := x) (req := req) (.inl (by assumption))
                            refine s_op (o_mv rfl) ?_
                            refine s_gT rfl ?_
                            refine s_op (o_faC rfl) ?_
                            refine s_gT rfl ?_
                            refine s_op (o_ldC rfl rfl rfl) ?_
                            refine s_gT rfl ?_
                            refine s_iaM rfl rfl (by first | omega | exact pick_ix hpf (by assumption) | exact pick_ixw (by assumption) (by assumption)) ?_
                            intro y18 e18
                            try simp only [Int.toNat_natCast, Int.toNat_zero] at e18
                            refine s_keepO (is := [3, 7, 112, 116, 120]) rfl ?_
                            refine s_gT rfl ?_
                            refine s_op (o_ld rfl rfl) ?_
                            refine s_gT rfl ?_
                            refine s_op (o_not rfl) ?_
                            refine s_gT rfl ?_
                            refine s_op (o_pickF rfl rfl) ?_
                            refine s_gT rfl ?_
                            refine s_op (o_mv rfl) ?_
                            first | refine s_gDF rfl ?_ ?_ | refine s_gNDF rfl ?_ ?_ | refine s_gNF rfl ?_ ?_ | refine s_gB rfl ?_ ?_
                            · intro h19
                              try rw [Decidable.not_not] at h19
                              try have hc : code.length ≤ 1048576 := by simp at h19; omega
                              try have hlen : (req.length : Int) = x.masters.length := (by assumption)
                              try have hpf := pickF (w := w) (x := x) (req := req) (by assumption) (by assumption)
                              try have hpn := pick_no (w := w) (c := x) (req := req) (.inr (by assumption))
                              try have hpn := pick_no (w := w) (c := x) (req := req) (.inl (by assumption))
                              refine s_op (o_mv rfl) ?_
                              refine s_gT rfl ?_
                              refine s_op (o_faC rfl) ?_
                              refine s_gT rfl ?_
                              refine s_op (o_ldC rfl rfl rfl) ?_
                              refine s_gT rfl ?_
                              first | refine s_op (o_eql rfl rfl) ?_ | refine s_op (o_bin rfl rfl rfl rfl) ?_
                              refine s_gT rfl ?_
                              refine s_op (o_pickF rfl rfl) ?_
                              refine s_op (o_pickT rfl rfl) ?_
                              refine s_op (o_mv rfl) ?_
                              refine s_nilO ?_
                              refine q_seqN ?_
                              refine s_keep [2] rfl ?_
                              refine s_ret ?_
                              refine ret_leaf (.inr rfl) rfl rfl ?_
                              refine congrArg (fun b => V.w (.bool b)) ?_
                              first | (simp_all; done) | (rcases hpf.who with ⟨q1, q2⟩ | ⟨q1, q2, q3, q4, q5, q6⟩ <;> rcases hpf.keep with k1 | k1 | k1 <;> have k0 := hpf.ok <;> have kw := pick_wr hpf <;> have hz := take_end (xs := req) (i := i) (by omega) <;> simp_all <;> omega)
                            · intro h19
                              try rw [Decidable.not_not] at h19
                              try have hc : code.length ≤ 1048576 := by simp at h19; omega
                              try have hlen : (req.length : Int) = x.masters.length := (by assumption)
                              try have hpf := pickF (w := w) (x := x) (req := req) (by assumption) (by assumption)
                              try have hpn := pick_no (w := w) (c := x) (req := req) (.inr (by assumption))
                              try have hpn := pick_no (w := w) (c := x) (req := req) (.inl (by assumption))
                              refine s_gF rfl ?_
                              refine s_gF rfl ?_
                              refine s_gF rfl ?_
                              refine s_gF rfl ?_
                              refine s_gT rfl ?_
                              refine s_op (o_pickT rfl rfl) ?_
                              refine s_op (o_pickT rfl rfl) ?_
                              refine s_op (o_mv rfl) ?_
                              refine s_nilO ?_
                              refine q_seqN ?_
                              refine s_keep [2] rfl ?_
                              refine s_ret ?_
                              refine ret_leaf (.inr rfl) rfl rfl ?_
                              refine congrArg (fun b => V.w (.bool b)) ?_
                              first | (simp_all; done) | (rcases hpf.who with ⟨q1, q2⟩ | ⟨q1, q2, q3, q4, q5, q6⟩ <;> rcases hpf.keep with k1 | k1 | k1 <;> have k0 := hpf.ok <;> have kw := pick_wr hpf <;> have hz := take_end (xs := req) (i := i) (by omega) <;> simp_all <;> omega)
                          · intro h17
                            try rw [Decidable.not_not] at h17
                            try have hc : code.length ≤ 1048576 := by simp at h17; omega
                            try have hlen : (req.length : Int) = x.masters.length := (by assumption)
                            try have hpf := pickF (w := w) (x := x) (req := req) (by assumption) (by assumption)
                            try have hpn := pick_no (w := w) (c := x) (req := req) (.inr (by assumption))
                            try have hpn := pick_no (w := w) (c := x) (req := req) (.inl (by assumption))
                            refine s_gF rfl ?_
                            refine s_gF rfl ?_
                            refine s_gF rfl ?_
                            refine s_gF rfl ?_
                            refine s_keepO (is := [3, 7, 112, 116, 120]) rfl ?_
                            refine s_gF rfl ?_
                            refine s_gF rfl ?_
                            refine s_gT rfl ?_
                            refine s_op (o_pickT rfl rfl) ?_
                            refine s_gT rfl ?_
                            refine s_op (o_mv rfl) ?_
                            refine s_gF rfl ?_
                            refine s_gF rfl ?_
                            refine s_gF rfl ?_
                            refine s_gF rfl ?_
                            refine s_gT rfl ?_
                            refine s_op (o_pickT rfl rfl) ?_
                            refine s_op (o_pickT rfl rfl) ?_
                            refine s_op (o_mv rfl) ?_
                            refine s_nilO ?_
                            refine q_seqN ?_
                            refine s_keep [2] rfl ?_
                            refine s_ret ?_
                            refine ret_leaf (.inr rfl) rfl rfl ?_
                            refine congrArg (fun b => V.w (.bool b)) ?_
                            first | (simp_all; done) | (rcases hpf.who with ⟨q1, q2⟩ | ⟨q1, q2, q3, q4, q5, q6⟩ <;> rcases hpf.keep with k1 | k1 | k1 <;> have k0 := hpf.ok <;> have kw := pick_wr hpf <;> have hz := take_end (xs := req) (i := i) (by omega) <;> simp_all <;> omega)
                        · intro h16
                          try rw [Decidable.not_not] at h16
                          try have hc : code.length ≤ 1048576 := by simp at h16; omega
                          try have hlen : (req.length : Int) = x.masters.length := (by assumption)
                          try have hpf := pickF (w := w) (x := x) (req := req) (by assumption) (by assumption)
                          try have hpn := pick_no (w := w) (c := x) (req := req) (.inr (by assumption))
                          try have hpn := pick_no (w := w) (c := x) (req := req) (.inl (by assumption))
                          refine s_gF rfl ?_
                          refine s_gF rfl ?_
                          refine s_gF rfl ?_
                          refine s_gF rfl ?_
                          refine s_gN rfl ?_
                          refine s_gN rfl ?_
                          refine s_gN rfl ?_
                          refine s_gN rfl ?_
                          refine s_keepO (is := [3, 7, 112, 116, 120]) rfl ?_
                          refine s_gN rfl ?_
                          refine s_gN rfl ?_
                          refine s_gF rfl ?_
                          refine s_gF rfl ?_
                          refine s_gN rfl ?_
                          refine s_gN rfl ?_
                          refine s_gN rfl ?_
                          refine s_gN rfl ?_
                          refine s_gF rfl ?_
                          refine s_op (o_pickF rfl rfl) ?_
                          refine s_op (o_mv rfl) ?_
                          refine s_nilO ?_
                          refine q_seqN ?_
                          refine s_keep [2] rfl ?_
                          refine s_ret ?_
                          refine ret_leaf (.inr rfl) rfl rfl ?_
                          refine congrArg (fun b => V.w (.bool b)) ?_
                          first | (simp_all; done) | (rcases hpf.who with ⟨q1, q2⟩ | ⟨q1, q2, q3, q4, q5, q6⟩ <;> rcases hpf.keep with k1 | k1 | k1 <;> have k0 := hpf.ok <;> have kw := pick_wr hpf <;> have hz := take_end (xs := req) (i := i) (by omega) <;> simp_all <;> omega)
                      · intro h15
                        try rw [Decidable.not_not] at h15
                        try have hc : code.length ≤ 1048576 := by simp at h15; omega
                        try have hlen : (req.length : Int) = x.masters.length := (by assumption)
                        try have hpf := pickF (w := w) (x := x) (req := req) (by assumption) (by assumption)
                        try have hpn := pick_no (w := w) (c := x) (req := req) (.inr (by assumption))
                        try have hpn := pick_no (w := w) (c := x) (req := req) (.inl (by assumption))
                        refine s_gF rfl ?_
                        refine s_gF rfl ?_
                        refine s_gF rfl ?_
                        refine s_op (o_pickF rfl rfl) ?_
                        refine s_op (o_mv rfl) ?_
                        refine s_gF rfl ?_
                        refine s_gF rfl ?_
                        refine s_gF rfl ?_
                        refine s_gF rfl ?_
                        refine s_gN rfl ?_
                        refine s_gN rfl ?_
                        refine s_gN rfl ?_
                        refine s_gN rfl ?_
                        refine s_keepO (is := [3, 7, 112, 116, 120]) rfl ?_
                        refine s_gN rfl ?_
                        refine s_gN rfl ?_
                        refine s_gF rfl ?_
                        refine s_gF rfl ?_
                        refine s_gN rfl ?_
                        refine s_gN rfl ?_
                        refine s_gN rfl ?_
                        refine s_gN rfl ?_
                        refine s_gF rfl ?_
                        refine s_op (o_pickF rfl rfl) ?_
                        refine s_op (o_mv rfl) ?_
                        refine s_nilO ?_
                        refine q_seqN ?_
                        refine s_keep [2] rfl ?_
                        refine s_ret ?_
                        refine ret_leaf (.inr rfl) rfl rfl ?_
                        refine congrArg (fun b => V.w (.bool b)) ?_
                        first | (simp_all; done) | (rcases hpf.who with ⟨q1, q2⟩ | ⟨q1, q2, q3, q4, q5, q6⟩ <;> rcases hpf.keep with k1 | k1 | k1 <;> have k0 := hpf.ok <;> have kw := pick_wr hpf <;> have hz := take_end (xs := req) (i := i) (by omega) <;> simp_all <;> omega)
                    · intro h14
                      try rw [Decidable.not_not] at h14
                      try have hc : code.length ≤ 1048576 := by simp at h14; omega
                      try have hlen : (req.length : Int) = x.masters.length := (by assumption)
                      try have hpf := pickF (w := w) (x := x) (req := req) (by assumption) (by assumption)
                      try have hpn := pick_no (w := w) (c := x) (req := req) (.inr (by assumption))
                      try have hpn := pick_no (w := w) (c := x) (req := req) (.inl (by assumption))
                      refine s_gF rfl ?_
                      refine s_gF rfl ?_
                      refine s_gF rfl ?_
                      refine s_gF rfl ?_
                      refine s_gF rfl ?_
                      refine s_gF rfl ?_
                      refine s_gT rfl ?_
                      refine s_op (o_pickF rfl rfl) ?_
                      refine s_gT rfl ?_
                      refine s_op (o_pickF rfl rfl) ?_
                      refine s_op (o_pickT rfl rfl) ?_
                      refine s_keepO (is := [3, 4, 5, 6, 7, 106]) rfl ?_
                      refine s_op (o_mv rfl) ?_
                      refine s_gF rfl ?_
                      refine s_gF rfl ?_
                      refine s_gF rfl ?_
                      refine s_op (o_pickF rfl rfl) ?_
                      refine s_op (o_mv rfl) ?_
                      refine s_gF rfl ?_
                      refine s_gF rfl ?_
                      refine s_gF rfl ?_
                      refine s_gF rfl ?_
                      refine s_gN rfl ?_
                      refine s_gN rfl ?_
                      refine s_gN rfl ?_
                      refine s_gN rfl ?_
                      refine s_keepO (is := [3, 7, 112, 116, 120]) rfl ?_
                      refine s_gN rfl ?_
                      refine s_gN rfl ?_
                      refine s_gF rfl ?_
                      refine s_gF rfl ?_
                      refine s_gN rfl ?_
                      refine s_gN rfl ?_
                      refine s_gN rfl ?_
                      refine s_gN rfl ?_
                      refine s_gF rfl ?_
                      refine s_op (o_pickF rfl rfl) ?_
                      refine s_op (o_mv rfl) ?_
                      refine s_nilO ?_
                      refine q_seqN ?_
                      refine s_keep [2] rfl ?_
                      refine s_ret ?_
                      refine ret_leaf (.inr rfl) rfl rfl ?_
                      refine congrArg (fun b => V.w (.bool b)) ?_
                      first | (simp_all; done) | (rcases hpf.who with ⟨q1, q2⟩ | ⟨q1, q2, q3, q4, q5, q6⟩ <;> rcases hpf.keep with k1 | k1 | k1 <;> have k0 := hpf.ok <;> have kw := pick_wr hpf <;> have hz := take_end (xs := req) (i := i) (by omega) <;> simp_all <;> omega)
                  · intro h13
                    try rw [Decidable.not_not] at h13
                    try have hc : code.length ≤ 1048576 := by simp at h13; omega
                    try have hlen : (req.length : Int) = x.masters.length := (by assumption)
                    try have hpf := pickF (w := w) (x := x) (req := req) (by assumption) (by assumption)
                    try have hpn := pick_no (w := w) (c := x) (req := req) (.inr (by assumption))
                    try have hpn := pick_no (w := w) (c := x) (req := req) (.inl (by assumption))
                    refine s_gF rfl ?_
                    refine s_keepO (is := [3, 4, 5, 6, 7, 10, 83, 86, 91, 92]) rfl ?_
                    refine s_gF rfl ?_
                    refine s_gF rfl ?_
                    refine s_gF rfl ?_
                    refine s_gT rfl ?_
                    refine s_op (o_pickF rfl rfl) ?_
                    refine s_gT rfl ?_
                    refine s_op (o_mv rfl) ?_
                    refine s_gF rfl ?_
                    refine s_gF rfl ?_
                    refine s_gF rfl ?_
                    refine s_gF rfl ?_
                    refine s_gF rfl ?_
                    refine s_gF rfl ?_
                    refine s_gT rfl ?_
                    refine s_op (o_pickF rfl rfl) ?_
                    refine s_gT rfl ?_
                    refine s_op (o_pickF rfl rfl) ?_
                    refine s_op (o_pickT rfl rfl) ?_
                    refine s_keepO (is := [3, 4, 5, 6, 7, 106]) rfl ?_
                    refine s_op (o_mv rfl) ?_
                    refine s_gF rfl ?_
                    refine s_gF rfl ?_
                    refine s_gF rfl ?_
                    refine s_op (o_pickF rfl rfl) ?_
                    refine s_op (o_mv rfl) ?_
                    refine s_gF rfl ?_
                    refine s_gF rfl ?_
                    refine s_gF rfl ?_
                    refine s_gF rfl ?_
                    refine s_gN rfl ?_
                    refine s_gN rfl ?_
                    refine s_gN rfl ?_
                    refine s_gN rfl ?_
                    refine s_keepO (is := [3, 7, 112, 116, 120]) rfl ?_
                    refine s_gN rfl ?_
                    refine s_gN rfl ?_
                    refine s_gF rfl ?_
                    refine s_gF rfl ?_
                    refine s_gN rfl ?_
                    refine s_gN rfl ?_
                    refine s_gN rfl ?_
                    refine s_gN rfl ?_
                    refine s_gF rfl ?_
                    refine s_op (o_pickF rfl rfl) ?_
                    refine s_op (o_mv rfl) ?_
                    refine s_nilO ?_
                    refine q_seqN ?_
                    refine s_keep [2] rfl ?_
                    refine s_ret ?_
                    refine ret_leaf (.inr rfl) rfl rfl ?_
                    refine congrArg (fun b => V.w (.bool b)) ?_
                    first | (simp_all; done) | (rcases hpf.who with ⟨q1, q2⟩ | ⟨q1, q2, q3, q4, q5, q6⟩ <;> rcases hpf.keep with k1 | k1 | k1 <;> have k0 := hpf.ok <;> have kw := pick_wr hpf <;> have hz := take_end (xs := req) (i := i) (by omega) <;> simp_all <;> omega)
                · intro h11
                  try rw [Decidable.not_not] at h11
                  try have hc : code.length ≤ 1048576 := by simp at h11; omega
                  try have hlen : (req.length : Int) = x.masters.length := (by assumption)
                  try have hpf := pickF (w := w) (x := x) (req := req) (by assumption) (by assumption)
                  try have hpn := pick_no (w := w) (c := x) (req := req) (.inr (by assumption))
                  try have hpn := pick_no (w := w) (c := x) (req := req) (.inl (by assumption))
                  refine s_gF rfl ?_
                  refine s_gF rfl ?_
                  refine s_gF rfl ?_
                  refine s_gF rfl ?_
                  refine s_gF rfl ?_
                  refine s_gN rfl ?_
                  refine s_keepO (is := [3, 4, 5, 6, 7, 10, 83, 86, 91, 92]) rfl ?_
                  refine s_gN rfl ?_
                  refine s_gN rfl ?_
                  refine s_gN rfl ?_
                  refine s_gF rfl ?_
                  refine s_gF rfl ?_
                  refine s_gN rfl ?_
                  refine s_gN rfl ?_
                  refine s_gN rfl ?_
                  refine s_gN rfl ?_
                  refine s_gN rfl ?_
                  refine s_gN rfl ?_
                  refine s_gF rfl ?_
                  refine s_gT rfl ?_
                  refine s_op (o_pickT rfl rfl) ?_
                  refine s_op (o_pickT rfl rfl) ?_
                  refine s_keepO (is := [3, 4, 5, 6, 7, 106]) rfl ?_
                  refine s_op (o_mv rfl) ?_
                  refine s_gT rfl ?_
                  refine s_op (o_ldnC rfl rfl rfl) ?_
                  refine s_gT rfl ?_
                  refine s_op (o_ldnC rfl rfl rfl) ?_
                  refine s_gT rfl ?_
                  first | refine s_call rfl rfl (c_217 _ x (by omega)) ?_ | refine s_callL rfl rfl (by simp) (c_217 _ x (by omega)) rfl ?_
                  refine s_op (o_pickT rfl rfl) ?_
                  refine s_op (o_mv rfl) ?_
                  first | refine s_gDT rfl ?_ ?_ | refine s_gNDT rfl ?_ ?_ | refine s_gNT rfl ?_ ?_ | refine s_gB rfl ?_ ?_
                  · intro h20
                    try rw [Decidable.not_not] at h20
                    try have hc : code.length ≤ 1048576 := by simp at h20; omega
                    try have hlen : (req.length : Int) = x.masters.length := (by assumption)
                    try have hpf := pickF (w := w) (x := x) (req := req) (by assumption) (by assumption)
                    try have hpn := pick_no (w := w) (c := x) (req := req) (.inr (by assumption))
                    try have hpn := pick_no (w := w) (c := x) (req := req) (.inl (by assumption))
                    refine s_op (o_faC rfl) ?_
                    refine s_gT rfl ?_
                    refine s_op (o_ldC rfl rfl rfl) ?_
                    refine s_gT rfl ?_
                    first | refine s_op (o_eql rfl rfl) ?_ | refine s_op (o_bin rfl rfl rfl rfl) ?_
                    refine s_gT rfl ?_
                    refine s_op (o_mv rfl) ?_
                    first | refine s_gDF rfl ?_ ?_ | refine s_gNDF rfl ?_ ?_ | refine s_gNF rfl ?_ ?_ | refine s_gB rfl ?_ ?_
                    · intro h21
                      try rw [Decidable.not_not] at h21
                      try have hc : code.length ≤ 1048576 := by simp at h21; omega
                      try have hlen : (req.length : Int) = x.masters.length := (by assumption)
                      try have hpf := pickF (w := w) (x := x) (req := req) (by assumption) (by assumption)
                      try have hpn := pick_no (w := w) (c := x) (req := req) (.inr (by assumption))
                      try have hpn := pick_no (w := w) (c := x) (req := req) (.inl (by assumption))
                      refine s_op (o_mv rfl) ?_
                      refine s_gT rfl ?_
                      refine s_op (o_faC rfl) ?_
                      refine s_gT rfl ?_
                      refine s_op (o_ldC rfl rfl rfl) ?_
                      refine s_gT rfl ?_
                      refine s_iaM rfl rfl (by first | omega | exact pick_ix hpf (by assumption) | exact pick_ixw (by assumption) (by assumption)) ?_
                      intro y22 e22
                      try simp only [Int.toNat_natCast, Int.toNat_zero] at e22
                      refine s_keepO (is := [3, 7, 112, 116, 120]) rfl ?_
                      refine s_gT rfl ?_
                      refine s_op (o_ld rfl rfl) ?_
                      refine s_gT rfl ?_
                      refine s_op (o_not rfl) ?_
                      refine s_gT rfl ?_
                      refine s_op (o_pickF rfl rfl) ?_
                      refine s_gT rfl ?_
                      refine s_op (o_mv rfl) ?_
                      first | refine s_gDF rfl ?_ ?_ | refine s_gNDF rfl ?_ ?_ | refine s_gNF rfl ?_ ?_ | refine s_gB rfl ?_ ?_
                      · intro h23
                        try rw [Decidable.not_not] at h23
                        try have hc : code.length ≤ 1048576 := by simp at h23; omega
                        try have hlen : (req.length : Int) = x.masters.length := (by assumption)
                        try have hpf := pickF (w := w) (x := x) (req := req) (by assumption) (by assumption)
                        try have hpn := pick_no (w := w) (c := x) (req := req) (.inr (by assumption))
                        try have hpn := pick_no (w := w) (c := x) (req := req) (.inl (by assumption))
                        refine s_op (o_mv rfl) ?_
                        refine s_gT rfl ?_
                        refine s_op (o_faC rfl) ?_
                        refine s_gT rfl ?_
                        refine s_op (o_ldC rfl rfl rfl) ?_
                        refine s_gT rfl ?_
                        first | refine s_op (o_eql rfl rfl) ?_ | refine s_op (o_bin rfl rfl rfl rfl) ?_
                        refine s_gT rfl ?_
                        refine s_op (o_pickF rfl rfl) ?_
                        refine s_op (o_pickT rfl rfl) ?_
                        refine s_op (o_mv rfl) ?_
                        refine s_nilO ?_
                        refine q_seqN ?_
                        refine s_keep [2] rfl ?_
                        refine s_ret ?_
                        refine ret_leaf (.inr rfl) rfl rfl ?_
                        refine congrArg (fun b => V.w (.bool b)) ?_
                        first | (simp_all; done) | (rcases hpf.who with ⟨q1, q2⟩ | ⟨q1, q2, q3, q4, q5, q6⟩ <;> rcases hpf.keep with k1 | k1 | k1 <;> have k0 := hpf.ok <;> have kw := pick_wr hpf <;> have hz := take_end (xs := req) (i := i) (by omega) <;> simp_all <;> omega)
                      · intro h23
                        try rw [Decidable.not_not] at h23
                        try have hc : code.length ≤ 1048576 := by simp at h23; omega
                        try have hlen : (req.length : Int) = x.masters.length := (by assumption)
                        try have hpf := pickF (w := w) (x := x) (req := req) (by assumption) (by assumption)
                        try have hpn := pick_no (w := w) (c := x) (req := req) (.inr (by assumption))
                        try have hpn := pick_no (w := w) (c := x) (req := req) (.inl (by assumption))
                        refine s_gF rfl ?_
                        refine s_gF rfl ?_
                        refine s_gF rfl ?_
                        refine s_gF rfl ?_
                        refine s_gT rfl ?_
                        refine s_op (o_pickT rfl rfl) ?_
                        refine s_op (o_pickT rfl rfl) ?_
                        refine s_op (o_mv rfl) ?_
                        refine s_nilO ?_
                        refine q_seqN ?_
                        refine s_keep [2] rfl ?_
                        refine s_ret ?_
                        refine ret_leaf (.inr rfl) rfl rfl ?_
                        refine congrArg (fun b => V.w (.bool b)) ?_
                        first | (simp_all; done) | (rcases hpf.who with ⟨q1, q2⟩ | ⟨q1, q2, q3, q4, q5, q6⟩ <;> rcases hpf.keep with k1 | k1 | k1 <;> have k0 := hpf.ok <;> have kw := pick_wr hpf <;> have hz := take_end (xs := req) (i := i) (by omega) <;> simp_all <;> omega)
                    · intro h21
                      try rw [Decidable.not_not] at h21
                      try have hc : code.length ≤ 1048576 := by simp at h21; omega
                      try have hlen : (req.length : Int) = x.masters.length := (by assumption)
                      try have hpf := pickF (w := w) (x := x) (req := req) (by assumption) (by assumption)
                      try have hpn := pick_no (w := w) (c := x) (req := req) (.inr (by assumption))
                      try have hpn := pick_no (w := w) (c := x) (req := req) (.inl (by assumption))
                      refine s_gF rfl ?_
                      refine s_gF rfl ?_
                      refine s_gF rfl ?_
                      refine s_gF rfl ?_
                      refine s_keepO (is := [3, 7, 112, 116, 120]) rfl ?_
                      refine s_gF rfl ?_
                      refine s_gF rfl ?_
                      refine s_gT rfl ?_
                      refine s_op (o_pickT rfl rfl) ?_
                      refine s_gT rfl ?_
                      refine s_op (o_mv rfl) ?_
                      refine s_gF rfl ?_
                      refine s_gF rfl ?_
                      refine s_gF rfl ?_
                      refine s_gF rfl ?_
                      refine s_gT rfl ?_
                      refine s_op (o_pickT rfl rfl) ?_
                      refine s_op (o_pickT rfl rfl) ?_
                      refine s_op (o_mv rfl) ?_
                      refine s_nilO ?_
                      refine q_seqN ?_
                      refine s_keep [2] rfl ?_
                      refine s_ret ?_
                      refine ret_leaf (.inr rfl) rfl rfl ?_
                      refine congrArg (fun b => V.w (.bool b)) ?_
                      first | (simp_all; done) | (rcases hpf.who with ⟨q1, q2⟩ | ⟨q1, q2, q3, q4, q5, q6⟩ <;> rcases hpf.keep with k1 | k1 | k1 <;> have k0 := hpf.ok <;> have kw := pick_wr hpf <;> have hz := take_end (xs := req) (i := i) (by omega) <;> simp_all <;> omega)
                  · intro h20
                    try rw [Decidable.not_not] at h20
                    try have hc : code.length ≤ 1048576 := by simp at h20; omega
                    try have hlen : (req.length : Int) = x.masters.length := (by assumption)
                    try have hpf := pickF (w := w) (x := x) (req := req) (by assumption) (by assumption)
                    try have hpn := pick_no (w := w) (c := x) (req := req) (.inr (by assumption))
                    try have hpn := pick_no (w := w) (c := x) (req := req) (.inl (by assumption))
                    refine s_gF rfl ?_
                    refine s_gF rfl ?_
                    refine s_gF rfl ?_
                    refine s_gF rfl ?_
                    refine s_gN rfl ?_
                    refine s_gN rfl ?_
                    refine s_gN rfl ?_
                    refine s_gN rfl ?_
                    refine s_keepO (is := [3, 7, 112, 116, 120]) rfl ?_
                    refine s_gN rfl ?_
                    refine s_gN rfl ?_
                    refine s_gF rfl ?_
                    refine s_gF rfl ?_
                    refine s_gN rfl ?_
                    refine s_gN rfl ?_
                    refine s_gN rfl ?_
                    refine s_gN rfl ?_
                    refine s_gF rfl ?_
                    refine s_op (o_pickF rfl rfl) ?_
                    refine s_op (o_mv rfl) ?_
                    refine s_nilO ?_
                    refine q_seqN ?_
                    refine s_keep [2] rfl ?_
                    refine s_ret ?_
                    refine ret_leaf (.inr rfl) rfl rfl ?_
                    refine congrArg (fun b => V.w (.bool b)) ?_
                    first | (simp_all; done) | (rcases hpf.who with ⟨q1, q2⟩ | ⟨q1, q2, q3, q4, q5, q6⟩ <;> rcases hpf.keep with k1 | k1 | k1 <;> have k0 := hpf.ok <;> have kw := pick_wr hpf <;> have hz := take_end (xs := req) (i := i) (by omega) <;> simp_all <;> omega)
              · intro h10
                try rw [Decidable.not_not] at h10
                try have hc : code.length ≤ 1048576 := by simp at h10; omega
                try have hlen : (req.length : Int) = x.masters.length := (by assumption)
                try have hpf := pickF (w := w) (x := x) (req := req) (by assumption) (by assumption)
                try have hpn := pick_no (w := w) (c := x) (req := req) (.inr (by assumption))
                try have hpn := pick_no (w := w) (c := x) (req := req) (.inl (by assumption))
                refine s_gF rfl ?_
                refine s_gF rfl ?_
                refine s_gF rfl ?_
                refine s_gN rfl ?_
                refine s_gN rfl ?_
                refine s_gN rfl ?_
                refine s_gN rfl ?_
                refine s_gN rfl ?_
                refine s_gN rfl ?_
                refine s_keepO (is := [3, 4, 5, 6, 7, 10, 83, 86, 91, 92]) rfl ?_
                refine s_gN rfl ?_
                refine s_gN rfl ?_
                refine s_gN rfl ?_
                refine s_gN rfl ?_
                refine s_gN rfl ?_
                refine s_gN rfl ?_
                refine s_gN rfl ?_
                refine s_gN rfl ?_
                refine s_gN rfl ?_
                refine s_gN rfl ?_
                refine s_gN rfl ?_
                refine s_gN rfl ?_
                refine s_gF rfl ?_
                refine s_op (o_pickF rfl rfl) ?_
                refine s_keepO (is := [3, 4, 5, 6, 7, 106]) rfl ?_
                refine s_op (o_mv rfl) ?_
                refine s_gF rfl ?_
                refine s_gF rfl ?_
                refine s_gF rfl ?_
                refine s_op (o_pickF rfl rfl) ?_
                refine s_op (o_mv rfl) ?_
                refine s_gF rfl ?_
                refine s_gF rfl ?_
                refine s_gF rfl ?_
                refine s_gF rfl ?_
                refine s_gN rfl ?_
                refine s_gN rfl ?_
                refine s_gN rfl ?_
                refine s_gN rfl ?_
                refine s_keepO (is := [3, 7, 112, 116, 120]) rfl ?_
                refine s_gN rfl ?_
                refine s_gN rfl ?_
                refine s_gF rfl ?_
                refine s_gF rfl ?_
                refine s_gN rfl ?_
                refine s_gN rfl ?_
                refine s_gN rfl ?_
                refine s_gN rfl ?_
                refine s_gF rfl ?_
                refine s_op (o_pickF rfl rfl) ?_
                refine s_op (o_mv rfl) ?_
                refine s_nilO ?_
                refine q_seqN ?_
                refine s_keep [2] rfl ?_
                refine s_ret ?_
                refine ret_leaf (.inr rfl) rfl rfl ?_
                refine congrArg (fun b => V.w (.bool b)) ?_
                first | (simp_all; done) | (rcases hpf.who with ⟨q1, q2⟩ | ⟨q1, q2, q3, q4, q5, q6⟩ <;> rcases hpf.keep with k1 | k1 | k1 <;> have k0 := hpf.ok <;> have kw := pick_wr hpf <;> have hz := take_end (xs := req) (i := i) (by omega) <;> simp_all <;> omega)
        · intro h4
          try rw [Decidable.not_not] at h4
          try have hc : code.length ≤ 1048576 := by simp at h4; omega
          try have hlen : (req.length : Int) = x.masters.length := (by assumption)
          try have hpf := pickF (w := w) (x := x) (req := req) (by assumption) (by assumption)
          try have hpn := pick_no (w := w) (c := x) (req := req) (.inr (by assumption))
          try have hpn := pick_no (w := w) (c := x) (req := req) (.inl (by assumption))
          refine s_gF rfl ?_
          refine s_gF rfl ?_
          refine s_gF rfl ?_
          refine s_gF rfl ?_
          refine s_gF rfl ?_
          refine s_gF rfl ?_
          refine s_op (o_pickT rfl rfl) ?_
          refine s_nilO ?_
          refine q_seqN ?_
          refine s_keep [3, 4, 5, 6, 7, 54] rfl ?_
          refine s_condT rfl ?_
          refine S_seq ?_
          refine s_rg ?_
          refine s_op (o_mv rfl) ?_
          first | refine s_op (o_eql rfl rfl) ?_ | refine s_op (o_bin rfl rfl rfl rfl) ?_
          refine s_op (o_mv rfl) ?_
          first | refine s_gDT rfl ?_ ?_ | refine s_gNDT rfl ?_ ?_ | refine s_gNT rfl ?_ ?_ | refine s_gB rfl ?_ ?_
          · intro h24
            try rw [Decidable.not_not] at h24
            try have hc : code.length ≤ 1048576 := by simp at h24; omega
            try have hlen : (req.length : Int) = x.masters.length := (by assumption)
            try have hpf := pickF (w := w) (x := x) (req := req) (by assumption) (by assumption)
            try have hpn := pick_no (w := w) (c := x) (req := req) (.inr (by assumption))
            try have hpn := pick_no (w := w) (c := x) (req := req) (.inl (by assumption))
            refine s_op (o_ldnC rfl rfl rfl) ?_
            refine s_gT rfl ?_
            refine s_op (o_ldnC rfl rfl rfl) ?_
            refine s_gT rfl ?_
            refine s_op (o_eqs rfl rfl rfl rfl rfl) ?_
            refine s_op (o_pickT rfl rfl) ?_
            refine s_op (o_mv rfl) ?_
            refine s_nilO ?_
            refine q_seqN ?_
            refine s_keep [2] rfl ?_
            refine s_ret ?_
            refine q_seqR ?_
            refine ret_leaf (.inr rfl) rfl rfl ?_
            refine congrArg (fun b => V.w (.bool b)) ?_
            first | (simp_all; done) | (rcases hpf.who with ⟨q1, q2⟩ | ⟨q1, q2, q3, q4, q5, q6⟩ <;> rcases hpf.keep with k1 | k1 | k1 <;> have k0 := hpf.ok <;> have kw := pick_wr hpf <;> have hz := take_end (xs := req) (i := i) (by omega) <;> simp_all <;> omega)
          · intro h24
            try rw [Decidable.not_not] at h24
            try have hc : code.length ≤ 1048576 := by simp at h24; omega
            try have hlen : (req.length : Int) = x.masters.length := (by assumption)
            try have hpf := pickF (w := w) (x := x) (req := req) (by assumption) (by assumption)
            try have hpn := pick_no (w := w) (c := x) (req := req) (.inr (by assumption))
            try have hpn := pick_no (w := w) (c := x) (req := req) (.inl (by assumption))
            refine s_gF rfl ?_
            refine s_gF rfl ?_
            refine s_gF rfl ?_
            refine s_op (o_pickF rfl rfl) ?_
            refine s_op (o_mv rfl) ?_
            refine s_nilO ?_
            refine q_seqN ?_
            refine s_keep [2] rfl ?_
            refine s_ret ?_
            refine q_seqR ?_
            refine ret_leaf (.inr rfl) rfl rfl ?_
            refine congrArg (fun b => V.w (.bool b)) ?_
            first | (simp_all; done) | (rcases hpf.who with ⟨q1, q2⟩ | ⟨q1, q2, q3, q4, q5, q6⟩ <;> rcases hpf.keep with k1 | k1 | k1 <;> have k0 := hpf.ok <;> have kw := pick_wr hpf <;> have hz := take_end (xs := req) (i := i) (by omega) <;> simp_all <;> omega)
    · intro h2
      try rw [Decidable.not_not] at h2
      try have hc : code.length ≤ 1048576 := by simp at h2; omega
      try have hlen : (req.length : Int) = x.masters.length := (by assumption)
      try have hpf := pickF (w := w) (x := x) (req := req) (by assumption) (by assumption)
      try have hpn := pick_no (w := w) (c := x) (req := req) (.inr (by assumption))
      try have hpn := pick_no (w := w) (c := x) (req := req) (.inl (by assumption))
      refine s_gF rfl ?_
      refine s_gF rfl ?_
      refine s_gF rfl ?_
      refine s_op (o_pickT rfl rfl) ?_
      refine s_nilO ?_
      refine q_seqN ?_
      refine s_keep [3, 4, 5, 6, 7, 42] rfl ?_
      refine s_condT rfl ?_
      refine S_seq ?_
      refine s_rg ?_
      refine s_op (o_mv rfl) ?_
      refine s_nilO ?_
      refine q_seqN ?_
      refine s_keep [2] rfl ?_
      refine s_ret ?_
      refine q_seqR ?_
      refine ret_leaf (.inr rfl) rfl rfl ?_
      refine congrArg (fun b => V.w (.bool b)) ?_
      first | (simp_all; done) | (rcases hpf.who with ⟨q1, q2⟩ | ⟨q1, q2, q3, q4, q5, q6⟩ <;> rcases hpf.keep with k1 | k1 | k1 <;> have k0 := hpf.ok <;> have kw := pick_wr hpf <;> have hz := take_end (xs := req) (i := i) (by omega) <;> simp_all <;> omega)

end Go.Proofs.Ytdlkgdlefbabcaa.AL
