/- What functions do with plain data, each by the form of its code. Printed by program. -/
import Derived.Test.YtojdedadgddhgaaSpec0
import Derived.Test.YtojdedadgddhgaaIrFollows
namespace Go.Proofs.Ytojdedadgddhgaa.AL
open Go
set_option linter.unusedVariables false
set_option linter.unusedSimpArgs false
set_option maxRecDepth 4096

theorem c_130 (x y : Done) : CV prg 130 [.agg x.r, .agg y.r] (fun v => v = .w (.bool (decide (x = y)))) := by
  refine cv_in g130 ?_
  refine s_keep [0, 1] rfl ?_
  refine S_seq ?_
  refine s_rg ?_
  refine s_op (o_box rfl rfl rfl) ?_
  refine s_op (o_box rfl rfl rfl) ?_
  refine s_op (o_mv rfl) ?_
  refine s_nilO ?_
  refine q_seqN ?_
  refine s_keep [2, 3] rfl ?_
  refine S_seq ?_
  refine S_seq ?_
  refine s_rg ?_
  refine s_op (o_faC rfl) ?_
  refine s_op (o_ldC rfl rfl rfl) ?_
  refine s_op (o_faC rfl) ?_
  refine s_op (o_ldC rfl rfl rfl) ?_
  first | refine s_op (o_neq rfl rfl) ?_ | refine s_op (o_bin rfl rfl rfl rfl) ?_
  refine s_nilO ?_
  refine q_seqN ?_
  refine s_keep [2, 3, 9] rfl ?_
  first | refine s_condD rfl ?_ ?_ | refine s_condN rfl ?_ ?_ | refine s_condNB rfl ?_ ?_ | refine s_condB rfl ?_ ?_
  · intro h1
    try rw [Decidable.not_not] at h1
    refine S_seq ?_
    refine s_rg ?_
    refine s_op (o_mv rfl) ?_
    refine s_nilO ?_
    refine q_seqN ?_
    refine s_keep [4] rfl ?_
    refine s_ret ?_
    refine q_seqR ?_
    refine ret_leaf (.inr rfl) rfl rfl ?_
    refine congrArg (fun b => V.w (.bool b)) ?_
    cases x; cases y; simp_all
  · intro h1
    try rw [Decidable.not_not] at h1
    refine s_skip ?_
    refine q_seqN ?_
    refine s_keep [2, 3] rfl ?_
    refine S_seq ?_
    refine S_seq ?_
    refine s_rg ?_
    refine s_op (o_faC rfl) ?_
    refine s_op (o_ldC rfl rfl rfl) ?_
    refine s_op (o_faC rfl) ?_
    refine s_op (o_ldC rfl rfl rfl) ?_
    first | refine s_op (o_neq rfl rfl) ?_ | refine s_op (o_bin rfl rfl rfl rfl) ?_
    refine s_nilO ?_
    refine q_seqN ?_
    refine s_keep [2, 3, 14] rfl ?_
    first | refine s_condD rfl ?_ ?_ | refine s_condN rfl ?_ ?_ | refine s_condNB rfl ?_ ?_ | refine s_condB rfl ?_ ?_
    · intro h2
      try rw [Decidable.not_not] at h2
      refine S_seq ?_
      refine s_rg ?_
      refine s_op (o_mv rfl) ?_
      refine s_nilO ?_
      refine q_seqN ?_
      refine s_keep [4] rfl ?_
      refine s_ret ?_
      refine q_seqR ?_
      refine ret_leaf (.inr rfl) rfl rfl ?_
      refine congrArg (fun b => V.w (.bool b)) ?_
      cases x; cases y; simp_all
    · intro h2
      try rw [Decidable.not_not] at h2
      refine s_skip ?_
      refine q_seqN ?_
      refine s_keep [2, 3] rfl ?_
      refine S_seq ?_
      refine S_seq ?_
      refine s_rg ?_
      refine s_op (o_faC rfl) ?_
      refine s_op (o_ldC rfl rfl rfl) ?_
      refine s_op (o_faC rfl) ?_
      refine s_op (o_ldC rfl rfl rfl) ?_
      refine s_op (o_eqb rfl rfl) ?_
      refine s_nilO ?_
      refine q_seqN ?_
      refine s_keep [2, 3, 19] rfl ?_
      first | refine s_condD rfl ?_ ?_ | refine s_condN rfl ?_ ?_ | refine s_condNB rfl ?_ ?_ | refine s_condB rfl ?_ ?_
      · intro h3
        try rw [Decidable.not_not] at h3
        refine S_seq ?_
        refine s_rg ?_
        refine s_op (o_mv rfl) ?_
        refine s_nilO ?_
        refine q_seqN ?_
        refine s_keep [4] rfl ?_
        refine s_ret ?_
        refine q_seqR ?_
        refine ret_leaf (.inr rfl) rfl rfl ?_
        refine congrArg (fun b => V.w (.bool b)) ?_
        cases x; cases y; simp_all
      · intro h3
        try rw [Decidable.not_not] at h3
        refine s_skip ?_
        refine q_seqN ?_
        refine s_keep [2, 3] rfl ?_
        refine S_seq ?_
        refine S_seq ?_
        refine s_rg ?_
        refine s_op (o_faC rfl) ?_
        refine s_op (o_ldC rfl rfl rfl) ?_
        refine s_op (o_faC rfl) ?_
        refine s_op (o_ldC rfl rfl rfl) ?_
        first | refine s_op (o_neq rfl rfl) ?_ | refine s_op (o_bin rfl rfl rfl rfl) ?_
        refine s_nilO ?_
        refine q_seqN ?_
        refine s_keep [2, 3, 24] rfl ?_
        first | refine s_condD rfl ?_ ?_ | refine s_condN rfl ?_ ?_ | refine s_condNB rfl ?_ ?_ | refine s_condB rfl ?_ ?_
        · intro h4
          try rw [Decidable.not_not] at h4
          refine S_seq ?_
          refine s_rg ?_
          refine s_op (o_mv rfl) ?_
          refine s_nilO ?_
          refine q_seqN ?_
          refine s_keep [4] rfl ?_
          refine s_ret ?_
          refine q_seqR ?_
          refine ret_leaf (.inr rfl) rfl rfl ?_
          refine congrArg (fun b => V.w (.bool b)) ?_
          cases x; cases y; simp_all
        · intro h4
          try rw [Decidable.not_not] at h4
          refine s_skip ?_
          refine q_seqN ?_
          refine s_keep [2, 3] rfl ?_
          refine S_seq ?_
          refine S_seq ?_
          refine s_rg ?_
          refine s_op (o_faC rfl) ?_
          refine s_op (o_ldC rfl rfl rfl) ?_
          refine s_op (o_faC rfl) ?_
          refine s_op (o_ldC rfl rfl rfl) ?_
          first | refine s_op (o_neq rfl rfl) ?_ | refine s_op (o_bin rfl rfl rfl rfl) ?_
          refine s_nilO ?_
          refine q_seqN ?_
          refine s_keep [2, 3, 29] rfl ?_
          first | refine s_condD rfl ?_ ?_ | refine s_condN rfl ?_ ?_ | refine s_condNB rfl ?_ ?_ | refine s_condB rfl ?_ ?_
          · intro h5
            try rw [Decidable.not_not] at h5
            refine S_seq ?_
            refine s_rg ?_
            refine s_op (o_mv rfl) ?_
            refine s_nilO ?_
            refine q_seqN ?_
            refine s_keep [4] rfl ?_
            refine s_ret ?_
            refine q_seqR ?_
            refine ret_leaf (.inr rfl) rfl rfl ?_
            refine congrArg (fun b => V.w (.bool b)) ?_
            cases x; cases y; simp_all
          · intro h5
            try rw [Decidable.not_not] at h5
            refine s_skip ?_
            refine q_seqN ?_
            refine s_keep [2, 3] rfl ?_
            refine S_seq ?_
            refine S_seq ?_
            refine s_rg ?_
            refine s_op (o_faC rfl) ?_
            refine s_op (o_ldC rfl rfl rfl) ?_
            refine s_op (o_faC rfl) ?_
            refine s_op (o_ldC rfl rfl rfl) ?_
            first | refine s_op (o_neq rfl rfl) ?_ | refine s_op (o_bin rfl rfl rfl rfl) ?_
            refine s_nilO ?_
            refine q_seqN ?_
            refine s_keep [2, 3, 34] rfl ?_
            first | refine s_condD rfl ?_ ?_ | refine s_condN rfl ?_ ?_ | refine s_condNB rfl ?_ ?_ | refine s_condB rfl ?_ ?_
            · intro h6
              try rw [Decidable.not_not] at h6
              refine S_seq ?_
              refine s_rg ?_
              refine s_op (o_mv rfl) ?_
              refine s_nilO ?_
              refine q_seqN ?_
              refine s_keep [4] rfl ?_
              refine s_ret ?_
              refine q_seqR ?_
              refine ret_leaf (.inr rfl) rfl rfl ?_
              refine congrArg (fun b => V.w (.bool b)) ?_
              cases x; cases y; simp_all
            · intro h6
              try rw [Decidable.not_not] at h6
              refine s_skip ?_
              refine q_seqN ?_
              refine s_keep [2, 3] rfl ?_
              refine S_seq ?_
              refine S_seq ?_
              refine s_rg ?_
              refine s_op (o_faC rfl) ?_
              refine s_op (o_ldC rfl rfl rfl) ?_
              refine s_op (o_faC rfl) ?_
              refine s_op (o_ldC rfl rfl rfl) ?_
              first | refine s_op (o_neq rfl rfl) ?_ | refine s_op (o_bin rfl rfl rfl rfl) ?_
              refine s_nilO ?_
              refine q_seqN ?_
              refine s_keep [39] rfl ?_
              first | refine s_condD rfl ?_ ?_ | refine s_condN rfl ?_ ?_ | refine s_condNB rfl ?_ ?_ | refine s_condB rfl ?_ ?_
              · intro h7
                try rw [Decidable.not_not] at h7
                refine S_seq ?_
                refine s_rg ?_
                refine s_op (o_mv rfl) ?_
                refine s_nilO ?_
                refine q_seqN ?_
                refine s_keep [4] rfl ?_
                refine s_ret ?_
                refine q_seqR ?_
                refine ret_leaf (.inr rfl) rfl rfl ?_
                refine congrArg (fun b => V.w (.bool b)) ?_
                cases x; cases y; simp_all
              · intro h7
                try rw [Decidable.not_not] at h7
                refine s_skip ?_
                refine q_seqN ?_
                refine s_keep [] rfl ?_
                refine S_seq ?_
                refine s_rg ?_
                refine s_op (o_mv rfl) ?_
                refine s_nilO ?_
                refine q_seqN ?_
                refine s_keep [4] rfl ?_
                refine s_ret ?_
                refine ret_leaf (.inr rfl) rfl rfl ?_
                refine congrArg (fun b => V.w (.bool b)) ?_
                cases x; cases y; simp_all

theorem c_131 (xs ys : List Done) (hl : xs.length ≤ 1048576) : CV prg 131 [.sl 7 (xs.map Done.r), .sl 7 (ys.map Done.r)] (fun v => v = .w (.bool (decide (xs = ys)))) := by
  refine cv_in g131 ?_
  refine s_keep [0, 1] rfl ?_
  refine S_seq ?_
  refine s_rg ?_
  refine s_op (o_mv rfl) ?_
  refine s_nilO ?_
  refine q_seqN ?_
  refine s_keep [0, 1] rfl ?_
  refine S_seq ?_
  refine S_seq ?_
  refine s_rg ?_
  refine s_op (o_mv rfl) ?_
  first | refine s_op (o_lenM rfl) ?_ | refine s_op (o_len rfl) ?_
  refine s_op (o_mv rfl) ?_
  first | refine s_op (o_lenM rfl) ?_ | refine s_op (o_len rfl) ?_
  first | refine s_op (o_neq rfl rfl) ?_ | refine s_op (o_bin rfl rfl rfl rfl) ?_
  refine s_nilO ?_
  refine q_seqN ?_
  refine s_keep [0, 1, 10] rfl ?_
  first | refine s_condD rfl ?_ ?_ | refine s_condN rfl ?_ ?_ | refine s_condNB rfl ?_ ?_ | refine s_condB rfl ?_ ?_
  · intro h1
    try rw [Decidable.not_not] at h1
    refine S_seq ?_
    refine s_rg ?_
    refine s_op (o_mv rfl) ?_
    refine s_nilO ?_
    refine q_seqN ?_
    refine s_keep [4] rfl ?_
    refine s_ret ?_
    refine q_seqR ?_
    refine ret_leaf (.inr rfl) rfl rfl ?_
    refine congrArg (fun b => V.w (.bool b)) ?_
    first | exact (decide_eq_false (ne_at (by assumption) (by assumption) (by assumption))).symm | exact (decide_eq_true (eq_end hi.2.1 (by omega) hi.2.2)).symm | exact (decide_eq_false (fun e => by subst e; simp_all)).symm
  · intro h1
    try rw [Decidable.not_not] at h1
    refine s_skip ?_
    refine q_seqN ?_
    refine s_keep [0, 1] rfl ?_
    refine S_seq ?_
    refine S_seq ?_
    refine s_rg ?_
    refine s_op (o_mv rfl) ?_
    refine s_nilO ?_
    refine q_seqN ?_
    refine s_keep [0, 1, 5] rfl ?_
    refine S_block ?_
    refine S_loop0 (ι := Nat) (fun i => i ≤ xs.length ∧ xs.take i = ys.take i ∧ xs.length = ys.length) (fun i => [(5, .w (.int .i64 (i : Int)))]) (fun i => xs.length - i) 0 ⟨by simp, by simp, by omega⟩ rfl ⟨rfl, trivial⟩ (fun _ _ => rfl) rfl ?_
    intro i hi
    refine s_keep [0, 1, 5] rfl ?_
    refine S_seq ?_
    refine S_seq ?_
    refine s_rg ?_
    refine s_op (o_mv rfl) ?_
    refine s_op (o_mv rfl) ?_
    first | refine s_op (o_lenM rfl) ?_ | refine s_op (o_len rfl) ?_
    first | refine s_op (o_lss rfl rfl) ?_ | refine s_op (o_bin rfl rfl rfl rfl) ?_
    refine s_nilO ?_
    refine q_seqN ?_
    refine s_keep [0, 1, 5, 14] rfl ?_
    first | refine s_condD rfl ?_ ?_ | refine s_condN rfl ?_ ?_ | refine s_condNB rfl ?_ ?_ | refine s_condB rfl ?_ ?_
    · intro h2
      try rw [Decidable.not_not] at h2
      refine s_skip ?_
      refine q_seqN ?_
      refine s_keep [0, 1, 5] rfl ?_
      refine S_seq ?_
      refine S_block ?_
      refine S_seq ?_
      refine s_rg ?_
      refine s_op (o_mv rfl) ?_
      refine s_op (o_mv rfl) ?_
      refine s_iaM rfl rfl (by omega) ?_
      intro y3 e3
      try simp only [Int.toNat_natCast] at e3
      refine s_op (o_ldn rfl rfl) ?_
      refine s_op (o_mv rfl) ?_
      refine s_op (o_mv rfl) ?_
      refine s_iaM rfl rfl (by omega) ?_
      intro y4 e4
      try simp only [Int.toNat_natCast] at e4
      refine s_op (o_ldn rfl rfl) ?_
      first | refine s_call rfl rfl (c_130 _ _) ?_ | refine s_callL rfl rfl (by simp) (c_130 _ _) rfl ?_
      refine s_op (o_not rfl) ?_
      refine s_nilO ?_
      refine q_seqN ?_
      refine s_keep [0, 1, 5, 26] rfl ?_
      first | refine s_condD rfl ?_ ?_ | refine s_condN rfl ?_ ?_ | refine s_condNB rfl ?_ ?_ | refine s_condB rfl ?_ ?_
      · intro h5
        try rw [Decidable.not_not] at h5
        refine S_seq ?_
        refine s_rg ?_
        refine s_op (o_mv rfl) ?_
        refine s_nilO ?_
        refine q_seqN ?_
        refine s_keep [4] rfl ?_
        refine s_ret ?_
        refine q_blkR ?_
        refine q_seqR ?_
        refine q_loopR ?_
        refine q_blkR ?_
        refine q_seqR ?_
        refine ret_leaf (.inr rfl) rfl rfl ?_
        refine congrArg (fun b => V.w (.bool b)) ?_
        first | exact (decide_eq_false (ne_at (by assumption) (by assumption) (by assumption))).symm | exact (decide_eq_true (eq_end hi.2.1 (by omega) hi.2.2)).symm | exact (decide_eq_false (fun e => by subst e; simp_all)).symm
      · intro h5
        try rw [Decidable.not_not] at h5
        refine s_skip ?_
        refine q_blkN ?_
        refine q_seqN ?_
        refine s_keep [0, 1, 5] rfl ?_
        refine s_rg ?_
        refine s_op (o_mv rfl) ?_
        first | refine s_op (o_addn rfl rfl (by omega)) ?_ | refine s_op (o_add rfl rfl) ?_
        refine s_op (o_mv rfl) ?_
        refine s_nilO ?_
        refine q_loopN ?_
        refine ⟨i + 1, ⟨by omega, eq_take (by assumption) (by assumption) hi.2.1 ?_, hi.2.2⟩, by omega, hasOf ⟨rfl, trivial⟩ rfl⟩
        assumption
    · intro h2
      try rw [Decidable.not_not] at h2
      refine s_exit ?_
      refine q_seqX ?_
      refine q_loopX ?_
      refine q_blkH ?_
      refine q_seqN ?_
      refine s_keep [] rfl ?_
      refine S_seq ?_
      refine s_rg ?_
      refine s_op (o_mv rfl) ?_
      refine s_nilO ?_
      refine q_seqN ?_
      refine s_keep [4] rfl ?_
      refine s_ret ?_
      refine ret_leaf (.inr rfl) rfl rfl ?_
      refine congrArg (fun b => V.w (.bool b)) ?_
      first | exact (decide_eq_false (ne_at (by assumption) (by assumption) (by assumption))).symm | exact (decide_eq_true (eq_end hi.2.1 (by omega) hi.2.2)).symm | exact (decide_eq_false (fun e => by subst e; simp_all)).symm

theorem c_161 (x : Done) : CV prg 161 [.agg x.r] (fun v => v = .agg x.r) := by
  refine cv_in g161 ?_
  refine s_keep [0] rfl ?_
  refine S_seq ?_
  refine s_rg ?_
  refine s_op (o_box rfl rfl rfl) ?_
  refine s_op (o_new rfl rfl) ?_
  refine s_nilO ?_
  refine q_seqN ?_
  refine s_keep [1, 2] rfl ?_
  refine S_seq ?_
  refine s_rg ?_
  refine s_op (o_new rfl rfl) ?_
  refine s_nilO ?_
  refine q_seqN ?_
  refine s_keep [1, 2, 3] rfl ?_
  refine S_seq ?_
  refine s_rg ?_
  refine s_op (o_faC rfl) ?_
  refine s_op (o_ldC rfl rfl rfl) ?_
  refine s_op (o_faC rfl) ?_
  refine s_opN (o_stC rfl rfl rfl rfl rfl rfl) ?_
  refine s_nilO ?_
  refine q_seqN ?_
  refine s_keep [1, 2, 3] rfl ?_
  refine S_seq ?_
  refine s_rg ?_
  refine s_op (o_faC rfl) ?_
  refine s_op (o_ldC rfl rfl rfl) ?_
  refine s_op (o_faC rfl) ?_
  refine s_opN (o_stC rfl rfl rfl rfl rfl rfl) ?_
  refine s_nilO ?_
  refine q_seqN ?_
  refine s_keep [1, 2, 3] rfl ?_
  refine S_seq ?_
  refine s_rg ?_
  refine s_op (o_faC rfl) ?_
  refine s_op (o_ldC rfl rfl rfl) ?_
  refine s_op (o_faC rfl) ?_
  refine s_opN (o_stC rfl rfl rfl rfl rfl rfl) ?_
  refine s_nilO ?_
  refine q_seqN ?_
  refine s_keep [1, 2, 3] rfl ?_
  refine S_seq ?_
  refine s_rg ?_
  refine s_op (o_faC rfl) ?_
  refine s_op (o_ldC rfl rfl rfl) ?_
  refine s_op (o_faC rfl) ?_
  refine s_opN (o_stC rfl rfl rfl rfl rfl rfl) ?_
  refine s_nilO ?_
  refine q_seqN ?_
  refine s_keep [1, 2, 3] rfl ?_
  refine S_seq ?_
  refine s_rg ?_
  refine s_op (o_faC rfl) ?_
  refine s_op (o_ldC rfl rfl rfl) ?_
  refine s_op (o_faC rfl) ?_
  refine s_opN (o_stC rfl rfl rfl rfl rfl rfl) ?_
  refine s_nilO ?_
  refine q_seqN ?_
  refine s_keep [1, 2, 3] rfl ?_
  refine S_seq ?_
  refine s_rg ?_
  refine s_op (o_faC rfl) ?_
  refine s_op (o_ldC rfl rfl rfl) ?_
  refine s_op (o_faC rfl) ?_
  refine s_opN (o_stC rfl rfl rfl rfl rfl rfl) ?_
  refine s_nilO ?_
  refine q_seqN ?_
  refine s_keep [1, 2, 3] rfl ?_
  refine S_seq ?_
  refine s_rg ?_
  refine s_op (o_faC rfl) ?_
  refine s_op (o_ldC rfl rfl rfl) ?_
  refine s_op (o_faC rfl) ?_
  refine s_opN (o_stC rfl rfl rfl rfl rfl rfl) ?_
  refine s_nilO ?_
  refine q_seqN ?_
  refine s_keep [2, 3] rfl ?_
  refine S_seq ?_
  refine s_rg ?_
  refine s_op (o_ldnC rfl rfl rfl) ?_
  refine s_opN (o_stnC rfl rfl rfl rfl rfl rfl rfl) ?_
  refine s_nilO ?_
  refine q_seqN ?_
  refine s_keep [2] rfl ?_
  refine s_ret ?_
  refine ret_leaf (.inr rfl) rfl rfl ?_
  rfl

theorem c_162 (xs : List Done) (hl : xs.length ≤ 1048576) : CV prg 162 [.sl 7 (xs.map Done.r)] (fun v => v = .sl 7 (xs.map Done.r)) := by
  refine cv_in g162 ?_
  refine s_keep [0] rfl ?_
  refine S_seq ?_
  refine s_rg ?_
  refine s_op (o_mv rfl) ?_
  refine s_nilO ?_
  refine q_seqN ?_
  refine s_keep [0] rfl ?_
  refine S_seq ?_
  refine s_rg ?_
  refine s_op (o_mv rfl) ?_
  first | refine s_op (o_lenM rfl) ?_ | refine s_op (o_len rfl) ?_
  refine s_op (o_mk rfl rfl rfl rfl ⟨by omega, by unfold roomy; omega, by unfold roomy; omega⟩ rfl) ?_
  refine s_op (o_mv rfl) ?_
  refine s_nilO ?_
  refine q_seqN ?_
  refine s_keep [0, 3] rfl ?_
  refine S_seq ?_
  refine S_seq ?_
  refine s_rg ?_
  refine s_op (o_mv rfl) ?_
  refine s_nilO ?_
  refine q_seqN ?_
  refine s_keep [0, 3, 4] rfl ?_
  refine S_block ?_
  refine S_loop (ι := Nat) (fun i => i ≤ xs.length) (fun i => [(4, .w (.int .i64 (i : Int)))]) (fun i => [.arr 7 (tabV Done.r [.w (.int .i64 0), .w (.int .i64 0), .w (.bool false), .w (.int .i64 0), .w (.int .i64 0), .w (.int .i64 0), .w (.int .i64 0)] xs i)]) (fun i => xs.length - i) 1 0 (by simp) rfl (hasOf ⟨rfl, trivial⟩ (by rw [tabV_zero]; rfl)) rfl (fun _ _ => rfl) (fun _ _ => ⟨rfl, rfl⟩) ?_
  intro i hi
  refine s_keep [0, 3, 4] rfl ?_
  refine S_seq ?_
  refine S_seq ?_
  refine s_rg ?_
  refine s_op (o_mv rfl) ?_
  refine s_op (o_mv rfl) ?_
  first | refine s_op (o_lenM rfl) ?_ | refine s_op (o_len rfl) ?_
  first | refine s_op (o_lss rfl rfl) ?_ | refine s_op (o_bin rfl rfl rfl rfl) ?_
  refine s_nilO ?_
  refine q_seqN ?_
  refine s_keep [0, 3, 4, 11] rfl ?_
  first | refine s_condD rfl ?_ ?_ | refine s_condN rfl ?_ ?_ | refine s_condNB rfl ?_ ?_ | refine s_condB rfl ?_ ?_
  · intro h1
    try rw [Decidable.not_not] at h1
    refine s_skip ?_
    refine q_seqN ?_
    refine s_keep [0, 3, 4] rfl ?_
    refine S_seq ?_
    refine S_block ?_
    refine s_rg ?_
    refine s_op (o_mv rfl) ?_
    refine s_op (o_mv rfl) ?_
    refine s_op (o_mv rfl) ?_
    refine s_op (o_mv rfl) ?_
    refine s_iaM rfl rfl (by first | omega | (rw [List.length_replicate]; omega)) ?_
    intro y2 e2
    try simp only [Int.toNat_natCast] at e2
    refine s_op (o_ldn rfl rfl) ?_
    first | refine s_call rfl rfl (c_161 _) ?_ | refine s_callL rfl rfl (by simp) (c_161 _) rfl ?_
    refine s_op (o_iaL rfl rfl (by rw [tabV_len _ _ _ _ (by omega), List.length_replicate]; rfl) rfl (by first | omega | (rw [List.length_replicate]; omega))) ?_
    refine s_opN (o_stnA rfl rfl rfl rfl rfl (by rw [tabV_len _ _ _ _ (by omega), List.length_replicate]; rfl) (by rw [Int.toNat_natCast]; exact tabV_at _ _ (by omega)) rfl rfl) ?_
    refine s_nilO ?_
    refine q_blkN ?_
    refine q_seqN ?_
    refine s_keep [0, 3, 4] rfl ?_
    refine s_rg ?_
    refine s_op (o_mv rfl) ?_
    first | refine s_op (o_addn rfl rfl (by omega)) ?_ | refine s_op (o_add rfl rfl) ?_
    refine s_op (o_mv rfl) ?_
    refine s_nilO ?_
    refine q_loopN ?_
    refine ⟨i + 1, by omega, by omega, hasOf ⟨rfl, trivial⟩ ?_⟩
    rw [← tabV_set Done.r [.w (.int .i64 0), .w (.int .i64 0), .w (.bool false), .w (.int .i64 0), .w (.int .i64 0), .w (.int .i64 0), .w (.int .i64 0)] (by assumption)]; rfl
  · intro h1
    try rw [Decidable.not_not] at h1
    refine s_exit ?_
    refine q_seqX ?_
    refine q_loopX ?_
    refine q_blkH ?_
    refine q_seqN ?_
    refine s_keep [3] rfl ?_
    refine S_seq ?_
    refine s_rg ?_
    refine s_op (o_mv rfl) ?_
    refine s_op (o_mv rfl) ?_
    refine s_nilO ?_
    refine q_seqN ?_
    refine s_keep [2] rfl ?_
    refine s_ret ?_
    refine ret_leafA (.inr rfl) rfl rfl (by rw [tabV_len _ _ _ _ (by omega), List.length_replicate]; rfl) ?_
    rw [tabV_end _ _ _ (by omega)]

theorem c_147 (xs : List Done) (left : Int) (h : -1 ≤ left ∧ left ≤ 1048576) (hl : xs.length ≤ 140737488355328) : CV prg 147 [.sl 7 (xs.map Done.r), .w (.int .i64 left)] (fun v => v = .w (.int .i64 (room left xs.length))) := by
  refine cv_in g147 ?_
  refine s_keep [0, 1] rfl ?_
  refine S_seq ?_
  refine s_rg ?_
  refine s_op (o_mv rfl) ?_
  refine s_nilO ?_
  refine q_seqN ?_
  refine s_keep [0, 1] rfl ?_
  refine S_seq ?_
  refine s_rg ?_
  refine s_op (o_mv rfl) ?_
  refine s_op (o_mv rfl) ?_
  first | refine s_op (o_lenM rfl) ?_ | refine s_op (o_len rfl) ?_
  first | refine s_op (o_subn rfl rfl (by omega)) ?_ | refine s_op (o_sub rfl rfl) ?_
  refine s_op (o_mv rfl) ?_
  refine s_nilO ?_
  refine q_seqN ?_
  refine s_keep [1] rfl ?_
  refine S_seq ?_
  refine S_seq ?_
  refine s_rg ?_
  refine s_op (o_mv rfl) ?_
  first | refine s_op (o_lss rfl rfl) ?_ | refine s_op (o_bin rfl rfl rfl rfl) ?_
  refine s_nilO ?_
  refine q_seqN ?_
  refine s_keep [1, 10] rfl ?_
  first | refine s_condD rfl ?_ ?_ | refine s_condN rfl ?_ ?_ | refine s_condNB rfl ?_ ?_ | refine s_condB rfl ?_ ?_
  · intro h1
    try rw [Decidable.not_not] at h1
    refine S_seq ?_
    refine s_rg ?_
    refine s_op (o_mv rfl) ?_
    refine s_nilO ?_
    refine q_seqN ?_
    refine s_keep [4] rfl ?_
    refine s_ret ?_
    refine q_seqR ?_
    refine ret_leaf (.inr rfl) rfl rfl ?_
    refine congrArg (fun b => V.w (.int .i64 b)) ?_
    (try unfold room); omega
  · intro h1
    try rw [Decidable.not_not] at h1
    refine s_skip ?_
    refine q_seqN ?_
    refine s_keep [1] rfl ?_
    refine S_seq ?_
    refine s_rg ?_
    refine s_op (o_mv rfl) ?_
    refine s_op (o_mv rfl) ?_
    refine s_nilO ?_
    refine q_seqN ?_
    refine s_keep [4] rfl ?_
    refine s_ret ?_
    refine ret_leaf (.inr rfl) rfl rfl ?_
    refine congrArg (fun b => V.w (.int .i64 b)) ?_
    (try unfold room); omega

def Done.beq (x y : Done) : Bool := ((x.cycle == y.cycle) && ((x.who == y.who) && ((x.write == y.write) && ((x.addr == y.addr) && ((x.size == y.size) && ((x.value == y.value) && ((x.resp == y.resp) && true)))))))

theorem Done.of_beq {x y : Done} (h : Done.beq x y = true) : x = y := by
  cases x; cases y; simp_all [Done.beq]

theorem Done.no_beq {x y : Done} (h : Done.beq x y = false) : x ≠ y := by
  rintro rfl; simp [Done.beq] at h

theorem Done.beq_dec (x y : Done) : Done.beq x y = decide (x = y) := by
  cases h : Done.beq x y
  · exact (decide_eq_false (Done.no_beq h)).symm
  · exact (decide_eq_true (Done.of_beq h)).symm

def folOk (p : Done × Done) : Bool := (p.1.write == p.2.write) && decide (p.1.addr = p.2.addr) && decide (p.1.size = p.2.size) && !(p.1.write && decide (p.1.resp = 0) && decide (p.1.value ≠ p.2.value))
def follows (l w : List Done) : Bool := decide (l.length ≤ w.length) && (l.zip w).all folOk

theorem c_46 (l w : List Done) (hl : l.length ≤ 1048576) : CV prg 46 [.sl 7 (l.map Done.r), .sl 7 (w.map Done.r)] (fun v => v = .w (.bool (follows l w))) := by
  refine cv_in g46 ?_
  refine s_keep [0, 1] rfl ?_
  refine S_seq ?_
  refine s_rg ?_
  refine s_op (o_mv rfl) ?_
  refine s_nilO ?_
  refine q_seqN ?_
  refine s_keep [0, 1] rfl ?_
  refine S_seq ?_
  refine S_seq ?_
  refine s_rg ?_
  refine s_op (o_mv rfl) ?_
  first | refine s_op (o_lenM rfl) ?_ | refine s_op (o_len rfl) ?_
  refine s_op (o_mv rfl) ?_
  first | refine s_op (o_lenM rfl) ?_ | refine s_op (o_len rfl) ?_
  first | refine s_op (o_gtr rfl rfl) ?_ | refine s_op (o_bin rfl rfl rfl rfl) ?_
  refine s_nilO ?_
  refine q_seqN ?_
  refine s_keep [0, 1, 12] rfl ?_
  first | refine s_condD rfl ?_ ?_ | refine s_condN rfl ?_ ?_ | refine s_condNB rfl ?_ ?_ | refine s_condB rfl ?_ ?_
  · intro h1
    try rw [Decidable.not_not] at h1
    refine S_seq ?_
    refine s_rg ?_
    refine s_op (o_mv rfl) ?_
    refine s_nilO ?_
    refine q_seqN ?_
    refine s_keep [4] rfl ?_
    refine s_ret ?_
    refine q_seqR ?_
    refine ret_leaf (.inr rfl) rfl rfl ?_
    refine congrArg (fun b => V.w (.bool b)) ?_
    first | (unfold follows; rw [all_no (zip_get (by assumption) (by assumption)) (by clear hi; simp_all [folOk])]; simp; done) | (unfold follows; rw [all_end hi.2.1 (by rw [zip_len hi.2.2]; omega)]; simp; omega) | (unfold follows; simp; omega)
  · intro h1
    try rw [Decidable.not_not] at h1
    refine s_skip ?_
    refine q_seqN ?_
    refine s_keep [0, 1] rfl ?_
    refine S_seq ?_
    refine S_seq ?_
    refine s_rg ?_
    refine s_op (o_mv rfl) ?_
    first | refine s_op (o_lenM rfl) ?_ | refine s_op (o_len rfl) ?_
    refine s_op (o_mv rfl) ?_
    refine s_nilO ?_
    refine q_seqN ?_
    refine s_keep [1, 13, 14, 15] rfl ?_
    refine S_block ?_
    refine S_loop0 (ι := Nat) (fun i => i ≤ l.length ∧ ((l.zip w).take i).all folOk = true ∧ l.length ≤ w.length) (fun i => [(15, .w (.int .i64 (i : Int)))]) (fun i => l.length - i) 0 ⟨by simp, by simp, by omega⟩ rfl ⟨rfl, trivial⟩ (fun _ _ => rfl) rfl ?_
    intro i hi
    refine s_keep [1, 13, 14, 15] rfl ?_
    refine S_seq ?_
    refine s_rg ?_
    first | refine s_op (o_lss rfl rfl) ?_ | refine s_op (o_bin rfl rfl rfl rfl) ?_
    refine s_nilO ?_
    refine q_seqN ?_
    refine s_keep [1, 13, 14, 15, 16] rfl ?_
    refine S_seq ?_
    first | refine s_condD rfl ?_ ?_ | refine s_condN rfl ?_ ?_ | refine s_condNB rfl ?_ ?_ | refine s_condB rfl ?_ ?_
    · intro h2
      try rw [Decidable.not_not] at h2
      refine s_skip ?_
      refine q_seqN ?_
      refine s_keep [1, 13, 14, 15] rfl ?_
      refine S_seq ?_
      refine S_block ?_
      refine S_seq ?_
      refine s_rg ?_
      refine s_op (o_mv rfl) ?_
      refine s_iaM rfl rfl (by omega) ?_
      intro y3 e3
      try simp only [Int.toNat_natCast] at e3
      refine s_op (o_ldn rfl rfl) ?_
      refine s_op (o_new rfl rfl) ?_
      refine s_op (o_mv rfl) ?_
      refine s_opN (o_stnC rfl rfl rfl rfl rfl rfl rfl) ?_
      refine s_nilO ?_
      refine q_seqN ?_
      refine s_keep [1, 5, 6, 13, 14, 15] rfl ?_
      refine S_seq ?_
      refine s_rg ?_
      refine s_op (o_mv rfl) ?_
      refine s_op (o_mv rfl) ?_
      refine s_iaM rfl rfl (by omega) ?_
      intro y4 e4
      try simp only [Int.toNat_natCast] at e4
      refine s_op (o_ldn rfl rfl) ?_
      refine s_op (o_new rfl rfl) ?_
      refine s_opN (o_stnC rfl rfl rfl rfl rfl rfl rfl) ?_
      refine s_nilO ?_
      refine q_seqN ?_
      refine s_keep [1, 6, 7, 13, 14, 15] rfl ?_
      refine S_seq ?_
      refine s_rg ?_
      refine s_op (o_faC rfl) ?_
      refine s_op (o_ldC rfl rfl rfl) ?_
      refine s_op (o_faC rfl) ?_
      refine s_op (o_ldC rfl rfl rfl) ?_
      refine s_op (o_eqb rfl rfl) ?_
      refine s_op (o_mv rfl) ?_
      first | refine s_gDF rfl ?_ ?_ | refine s_gNDF rfl ?_ ?_ | refine s_gNF rfl ?_ ?_ | refine s_gB rfl ?_ ?_
      · intro h5
        try rw [Decidable.not_not] at h5
        refine s_op (o_faC rfl) ?_
        refine s_gT rfl ?_
        refine s_op (o_ldC rfl rfl rfl) ?_
        refine s_gT rfl ?_
        refine s_op (o_faC rfl) ?_
        refine s_gT rfl ?_
        refine s_op (o_ldC rfl rfl rfl) ?_
        refine s_gT rfl ?_
        first | refine s_op (o_neq rfl rfl) ?_ | refine s_op (o_bin rfl rfl rfl rfl) ?_
        refine s_op (o_pickF rfl rfl) ?_
        refine s_op (o_mv rfl) ?_
        first | refine s_gDF rfl ?_ ?_ | refine s_gNDF rfl ?_ ?_ | refine s_gNF rfl ?_ ?_ | refine s_gB rfl ?_ ?_
        · intro h6
          try rw [Decidable.not_not] at h6
          refine s_op (o_faC rfl) ?_
          refine s_keepO (is := [1, 6, 7, 13, 14, 15, 30, 31, 32, 33, 34, 36, 37]) rfl ?_
          refine s_gT rfl ?_
          refine s_op (o_ldC rfl rfl rfl) ?_
          refine s_gT rfl ?_
          refine s_op (o_faC rfl) ?_
          refine s_gT rfl ?_
          refine s_op (o_ldC rfl rfl rfl) ?_
          refine s_gT rfl ?_
          first | refine s_op (o_neq rfl rfl) ?_ | refine s_op (o_bin rfl rfl rfl rfl) ?_
          refine s_op (o_pickF rfl rfl) ?_
          refine s_op (o_mv rfl) ?_
          first | refine s_gDF rfl ?_ ?_ | refine s_gNDF rfl ?_ ?_ | refine s_gNF rfl ?_ ?_ | refine s_gB rfl ?_ ?_
          · intro h7
            try rw [Decidable.not_not] at h7
            refine s_op (o_faC rfl) ?_
            refine s_gT rfl ?_
            refine s_op (o_ldC rfl rfl rfl) ?_
            refine s_gT rfl ?_
            refine s_op (o_mv rfl) ?_
            first | refine s_gDT rfl ?_ ?_ | refine s_gNDT rfl ?_ ?_ | refine s_gNT rfl ?_ ?_ | refine s_gB rfl ?_ ?_
            · intro h8
              try rw [Decidable.not_not] at h8
              refine s_op (o_faC rfl) ?_
              refine s_gT rfl ?_
              refine s_op (o_ldC rfl rfl rfl) ?_
              refine s_gT rfl ?_
              first | refine s_op (o_eql rfl rfl) ?_ | refine s_op (o_bin rfl rfl rfl rfl) ?_
              refine s_gT rfl ?_
              refine s_op (o_pickT rfl rfl) ?_
              refine s_gT rfl ?_
              refine s_op (o_mv rfl) ?_
              refine s_keepO (is := [1, 6, 7, 13, 14, 15, 30, 31, 32, 33, 34, 37, 38, 39, 40, 41, 43, 44, 45, 46, 47, 48, 49, 50, 51]) rfl ?_
              first | refine s_gDT rfl ?_ ?_ | refine s_gNDT rfl ?_ ?_ | refine s_gNT rfl ?_ ?_ | refine s_gB rfl ?_ ?_
              · intro h9
                try rw [Decidable.not_not] at h9
                refine s_op (o_faC rfl) ?_
                refine s_gT rfl ?_
                refine s_op (o_ldC rfl rfl rfl) ?_
                refine s_gT rfl ?_
                refine s_op (o_faC rfl) ?_
                refine s_gT rfl ?_
                refine s_op (o_ldC rfl rfl rfl) ?_
                refine s_gT rfl ?_
                first | refine s_op (o_neq rfl rfl) ?_ | refine s_op (o_bin rfl rfl rfl rfl) ?_
                refine s_gT rfl ?_
                refine s_op (o_pickT rfl rfl) ?_
                refine s_op (o_pickF rfl rfl) ?_
                refine s_nilO ?_
                refine q_seqN ?_
                refine s_keep [1, 13, 14, 15, 30, 31, 32, 33, 34, 37, 38, 39, 40, 41, 44, 45, 46, 47, 48, 49, 50, 51, 52, 53, 54, 55, 56, 57, 58] rfl ?_
                first | refine s_condD rfl ?_ ?_ | refine s_condN rfl ?_ ?_ | refine s_condNB rfl ?_ ?_ | refine s_condB rfl ?_ ?_
                · intro h10
                  try rw [Decidable.not_not] at h10
                  refine S_seq ?_
                  refine s_rg ?_
                  refine s_op (o_mv rfl) ?_
                  refine s_nilO ?_
                  refine q_seqN ?_
                  refine s_keep [4] rfl ?_
                  refine s_ret ?_
                  refine q_blkR ?_
                  refine q_seqR ?_
                  refine q_loopR ?_
                  refine q_blkR ?_
                  refine q_seqR ?_
                  refine ret_leaf (.inr rfl) rfl rfl ?_
                  refine congrArg (fun b => V.w (.bool b)) ?_
                  first | (unfold follows; rw [all_no (zip_get (by assumption) (by assumption)) (by clear hi; simp_all [folOk])]; simp; done) | (unfold follows; rw [all_end hi.2.1 (by rw [zip_len hi.2.2]; omega)]; simp; omega) | (unfold follows; simp; omega)
                · intro h10
                  try rw [Decidable.not_not] at h10
                  refine s_skip ?_
                  refine q_blkN ?_
                  refine q_seqN ?_
                  refine s_keep [1, 13, 14, 15, 30, 31, 32, 33, 34, 37, 38, 39, 40, 41, 44, 45, 46, 47, 48, 49, 50, 51, 52, 53, 54, 55, 56, 57] rfl ?_
                  refine s_rg ?_
                  first | refine s_op (o_addn rfl rfl (by omega)) ?_ | refine s_op (o_add rfl rfl) ?_
                  refine s_op (o_mv rfl) ?_
                  refine s_nilO ?_
                  refine q_loopN ?_
                  exact ⟨i + 1, ⟨by omega, all_take (zip_get (by assumption) (by assumption)) hi.2.1 (by clear hi; simp_all [folOk]), hi.2.2⟩, by omega, hasOf ⟨rfl, trivial⟩ rfl⟩
              · intro h9
                try rw [Decidable.not_not] at h9
                refine s_gF rfl ?_
                refine s_gF rfl ?_
                refine s_gF rfl ?_
                refine s_gF rfl ?_
                refine s_gF rfl ?_
                refine s_gT rfl ?_
                refine s_op (o_pickF rfl rfl) ?_
                refine s_op (o_pickF rfl rfl) ?_
                refine s_nilO ?_
                refine q_seqN ?_
                refine s_keep [1, 13, 14, 15, 30, 31, 32, 33, 34, 37, 38, 39, 40, 41, 44, 45, 46, 47, 48, 49, 50, 51, 52, 53, 54, 55, 56, 57, 58] rfl ?_
                refine s_condF rfl ?_
                refine s_skip ?_
                refine q_blkN ?_
                refine q_seqN ?_
                refine s_keep [1, 13, 14, 15, 30, 31, 32, 33, 34, 37, 38, 39, 40, 41, 44, 45, 46, 47, 48, 49, 50, 51, 52, 53, 54, 55, 56, 57] rfl ?_
                refine s_rg ?_
                first | refine s_op (o_addn rfl rfl (by omega)) ?_ | refine s_op (o_add rfl rfl) ?_
                refine s_op (o_mv rfl) ?_
                refine s_nilO ?_
                refine q_loopN ?_
                exact ⟨i + 1, ⟨by omega, all_take (zip_get (by assumption) (by assumption)) hi.2.1 (by clear hi; simp_all [folOk]), hi.2.2⟩, by omega, hasOf ⟨rfl, trivial⟩ rfl⟩
            · intro h8
              try rw [Decidable.not_not] at h8
              refine s_gF rfl ?_
              refine s_gF rfl ?_
              refine s_gF rfl ?_
              refine s_gT rfl ?_
              refine s_op (o_pickF rfl rfl) ?_
              refine s_gT rfl ?_
              refine s_op (o_mv rfl) ?_
              refine s_keepO (is := [1, 6, 7, 13, 14, 15, 30, 31, 32, 33, 34, 37, 38, 39, 40, 41, 43, 44, 45, 46, 47, 48, 49, 50, 51]) rfl ?_
              refine s_gF rfl ?_
              refine s_gF rfl ?_
              refine s_gF rfl ?_
              refine s_gF rfl ?_
              refine s_gF rfl ?_
              refine s_gT rfl ?_
              refine s_op (o_pickF rfl rfl) ?_
              refine s_op (o_pickF rfl rfl) ?_
              refine s_nilO ?_
              refine q_seqN ?_
              refine s_keep [1, 13, 14, 15, 30, 31, 32, 33, 34, 37, 38, 39, 40, 41, 44, 45, 46, 47, 48, 49, 50, 51, 52, 53, 54, 55, 56, 57, 58] rfl ?_
              refine s_condF rfl ?_
              refine s_skip ?_
              refine q_blkN ?_
              refine q_seqN ?_
              refine s_keep [1, 13, 14, 15, 30, 31, 32, 33, 34, 37, 38, 39, 40, 41, 44, 45, 46, 47, 48, 49, 50, 51, 52, 53, 54, 55, 56, 57] rfl ?_
              refine s_rg ?_
              first | refine s_op (o_addn rfl rfl (by omega)) ?_ | refine s_op (o_add rfl rfl) ?_
              refine s_op (o_mv rfl) ?_
              refine s_nilO ?_
              refine q_loopN ?_
              exact ⟨i + 1, ⟨by omega, all_take (zip_get (by assumption) (by assumption)) hi.2.1 (by clear hi; simp_all [folOk]), hi.2.2⟩, by omega, hasOf ⟨rfl, trivial⟩ rfl⟩
          · intro h7
            try rw [Decidable.not_not] at h7
            refine s_gF rfl ?_
            refine s_gF rfl ?_
            refine s_gF rfl ?_
            refine s_gN rfl ?_
            refine s_gN rfl ?_
            refine s_gN rfl ?_
            refine s_gF rfl ?_
            refine s_gF rfl ?_
            refine s_keepO (is := [1, 6, 7, 13, 14, 15, 30, 31, 32, 33, 34, 37, 38, 39, 40, 41, 43, 44, 45, 46, 47, 48, 49, 50, 51]) rfl ?_
            refine s_gN rfl ?_
            refine s_gN rfl ?_
            refine s_gN rfl ?_
            refine s_gN rfl ?_
            refine s_gN rfl ?_
            refine s_gF rfl ?_
            refine s_op (o_pickT rfl rfl) ?_
            refine s_nilO ?_
            refine q_seqN ?_
            refine s_keep [1, 13, 14, 15, 30, 31, 32, 33, 34, 37, 38, 39, 40, 41, 44, 45, 46, 47, 48, 49, 50, 51, 52, 53, 54, 55, 56, 57, 58] rfl ?_
            refine s_condT rfl ?_
            refine S_seq ?_
            refine s_rg ?_
            refine s_op (o_mv rfl) ?_
            refine s_nilO ?_
            refine q_seqN ?_
            refine s_keep [4] rfl ?_
            refine s_ret ?_
            refine q_blkR ?_
            refine q_seqR ?_
            refine q_loopR ?_
            refine q_blkR ?_
            refine q_seqR ?_
            refine ret_leaf (.inr rfl) rfl rfl ?_
            refine congrArg (fun b => V.w (.bool b)) ?_
            first | (unfold follows; rw [all_no (zip_get (by assumption) (by assumption)) (by clear hi; simp_all [folOk])]; simp; done) | (unfold follows; rw [all_end hi.2.1 (by rw [zip_len hi.2.2]; omega)]; simp; omega) | (unfold follows; simp; omega)
        · intro h6
          try rw [Decidable.not_not] at h6
          refine s_gF rfl ?_
          refine s_keepO (is := [1, 6, 7, 13, 14, 15, 30, 31, 32, 33, 34, 36, 37]) rfl ?_
          refine s_gF rfl ?_
          refine s_gF rfl ?_
          refine s_gF rfl ?_
          refine s_gF rfl ?_
          refine s_op (o_pickT rfl rfl) ?_
          refine s_op (o_mv rfl) ?_
          refine s_gF rfl ?_
          refine s_gF rfl ?_
          refine s_gF rfl ?_
          refine s_gN rfl ?_
          refine s_gN rfl ?_
          refine s_gN rfl ?_
          refine s_gF rfl ?_
          refine s_gF rfl ?_
          refine s_keepO (is := [1, 6, 7, 13, 14, 15, 30, 31, 32, 33, 34, 37, 38, 39, 40, 41, 43, 44, 45, 46, 47, 48, 49, 50, 51]) rfl ?_
          refine s_gN rfl ?_
          refine s_gN rfl ?_
          refine s_gN rfl ?_
          refine s_gN rfl ?_
          refine s_gN rfl ?_
          refine s_gF rfl ?_
          refine s_op (o_pickT rfl rfl) ?_
          refine s_nilO ?_
          refine q_seqN ?_
          refine s_keep [1, 13, 14, 15, 30, 31, 32, 33, 34, 37, 38, 39, 40, 41, 44, 45, 46, 47, 48, 49, 50, 51, 52, 53, 54, 55, 56, 57, 58] rfl ?_
          refine s_condT rfl ?_
          refine S_seq ?_
          refine s_rg ?_
          refine s_op (o_mv rfl) ?_
          refine s_nilO ?_
          refine q_seqN ?_
          refine s_keep [4] rfl ?_
          refine s_ret ?_
          refine q_blkR ?_
          refine q_seqR ?_
          refine q_loopR ?_
          refine q_blkR ?_
          refine q_seqR ?_
          refine ret_leaf (.inr rfl) rfl rfl ?_
          refine congrArg (fun b => V.w (.bool b)) ?_
          first | (unfold follows; rw [all_no (zip_get (by assumption) (by assumption)) (by clear hi; simp_all [folOk])]; simp; done) | (unfold follows; rw [all_end hi.2.1 (by rw [zip_len hi.2.2]; omega)]; simp; omega) | (unfold follows; simp; omega)
      · intro h5
        try rw [Decidable.not_not] at h5
        refine s_gF rfl ?_
        refine s_gF rfl ?_
        refine s_gF rfl ?_
        refine s_gF rfl ?_
        refine s_gF rfl ?_
        refine s_op (o_pickT rfl rfl) ?_
        refine s_op (o_mv rfl) ?_
        refine s_gF rfl ?_
        refine s_keepO (is := [1, 6, 7, 13, 14, 15, 30, 31, 32, 33, 34, 36, 37]) rfl ?_
        refine s_gF rfl ?_
        refine s_gF rfl ?_
        refine s_gF rfl ?_
        refine s_gF rfl ?_
        refine s_op (o_pickT rfl rfl) ?_
        refine s_op (o_mv rfl) ?_
        refine s_gF rfl ?_
        refine s_gF rfl ?_
        refine s_gF rfl ?_
        refine s_gN rfl ?_
        refine s_gN rfl ?_
        refine s_gN rfl ?_
        refine s_gF rfl ?_
        refine s_gF rfl ?_
        refine s_keepO (is := [1, 6, 7, 13, 14, 15, 30, 31, 32, 33, 34, 37, 38, 39, 40, 41, 43, 44, 45, 46, 47, 48, 49, 50, 51]) rfl ?_
        refine s_gN rfl ?_
        refine s_gN rfl ?_
        refine s_gN rfl ?_
        refine s_gN rfl ?_
        refine s_gN rfl ?_
        refine s_gF rfl ?_
        refine s_op (o_pickT rfl rfl) ?_
        refine s_nilO ?_
        refine q_seqN ?_
        refine s_keep [1, 13, 14, 15, 30, 31, 32, 33, 34, 37, 38, 39, 40, 41, 44, 45, 46, 47, 48, 49, 50, 51, 52, 53, 54, 55, 56, 57, 58] rfl ?_
        refine s_condT rfl ?_
        refine S_seq ?_
        refine s_rg ?_
        refine s_op (o_mv rfl) ?_
        refine s_nilO ?_
        refine q_seqN ?_
        refine s_keep [4] rfl ?_
        refine s_ret ?_
        refine q_blkR ?_
        refine q_seqR ?_
        refine q_loopR ?_
        refine q_blkR ?_
        refine q_seqR ?_
        refine ret_leaf (.inr rfl) rfl rfl ?_
        refine congrArg (fun b => V.w (.bool b)) ?_
        first | (unfold follows; rw [all_no (zip_get (by assumption) (by assumption)) (by clear hi; simp_all [folOk])]; simp; done) | (unfold follows; rw [all_end hi.2.1 (by rw [zip_len hi.2.2]; omega)]; simp; omega) | (unfold follows; simp; omega)
    · intro h2
      try rw [Decidable.not_not] at h2
      refine s_exit ?_
      refine q_seqX ?_
      refine q_loopX ?_
      refine q_blkH ?_
      refine q_seqN ?_
      refine s_keep [] rfl ?_
      refine S_seq ?_
      refine s_rg ?_
      refine s_op (o_mv rfl) ?_
      refine s_nilO ?_
      refine q_seqN ?_
      refine s_keep [4] rfl ?_
      refine s_ret ?_
      refine ret_leaf (.inr rfl) rfl rfl ?_
      refine congrArg (fun b => V.w (.bool b)) ?_
      first | (unfold follows; rw [all_no (zip_get (by assumption) (by assumption)) (by clear hi; simp_all [folOk])]; simp; done) | (unfold follows; rw [all_end hi.2.1 (by rw [zip_len hi.2.2]; omega)]; simp; omega) | (unfold follows; simp; omega)

theorem c_198 (l w : List Done) (hl : l.length ≤ 1048576) : CV prg 198 [.sl 7 (l.map Done.r), .sl 7 (w.map Done.r)] (fun v => v = .w (.bool (follows l w))) := by
  refine cv_in g198 ?_
  refine s_keep [0, 1] rfl ?_
  refine S_seq ?_
  refine s_rg ?_
  refine s_op (o_mv rfl) ?_
  refine s_nilO ?_
  refine q_seqN ?_
  refine s_keep [0, 1] rfl ?_
  refine S_seq ?_
  refine S_seq ?_
  refine s_rg ?_
  refine s_op (o_mv rfl) ?_
  first | refine s_op (o_lenM rfl) ?_ | refine s_op (o_len rfl) ?_
  refine s_op (o_mv rfl) ?_
  first | refine s_op (o_lenM rfl) ?_ | refine s_op (o_len rfl) ?_
  first | refine s_op (o_gtr rfl rfl) ?_ | refine s_op (o_bin rfl rfl rfl rfl) ?_
  refine s_nilO ?_
  refine q_seqN ?_
  refine s_keep [0, 1, 12] rfl ?_
  first | refine s_condD rfl ?_ ?_ | refine s_condN rfl ?_ ?_ | refine s_condNB rfl ?_ ?_ | refine s_condB rfl ?_ ?_
  · intro h1
    try rw [Decidable.not_not] at h1
    refine S_seq ?_
    refine s_rg ?_
    refine s_op (o_mv rfl) ?_
    refine s_nilO ?_
    refine q_seqN ?_
    refine s_keep [4] rfl ?_
    refine s_ret ?_
    refine q_seqR ?_
    refine ret_leaf (.inr rfl) rfl rfl ?_
    refine congrArg (fun b => V.w (.bool b)) ?_
    first | (unfold follows; rw [all_no (zip_get (by assumption) (by assumption)) (by clear hi; simp_all [folOk])]; simp; done) | (unfold follows; rw [all_end hi.2.1 (by rw [zip_len hi.2.2]; omega)]; simp; omega) | (unfold follows; simp; omega)
  · intro h1
    try rw [Decidable.not_not] at h1
    refine s_skip ?_
    refine q_seqN ?_
    refine s_keep [0, 1] rfl ?_
    refine S_seq ?_
    refine S_seq ?_
    refine s_rg ?_
    refine s_op (o_mv rfl) ?_
    refine s_nilO ?_
    refine q_seqN ?_
    refine s_keep [0, 1, 5] rfl ?_
    refine S_block ?_
    refine S_loop0 (ι := Nat) (fun i => i ≤ l.length ∧ ((l.zip w).take i).all folOk = true ∧ l.length ≤ w.length) (fun i => [(5, .w (.int .i64 (i : Int)))]) (fun i => l.length - i) 0 ⟨by simp, by simp, by omega⟩ rfl ⟨rfl, trivial⟩ (fun _ _ => rfl) rfl ?_
    intro i hi
    refine s_keep [0, 1, 5] rfl ?_
    refine S_seq ?_
    refine S_seq ?_
    refine s_rg ?_
    refine s_op (o_mv rfl) ?_
    refine s_op (o_mv rfl) ?_
    first | refine s_op (o_lenM rfl) ?_ | refine s_op (o_len rfl) ?_
    first | refine s_op (o_lss rfl rfl) ?_ | refine s_op (o_bin rfl rfl rfl rfl) ?_
    refine s_nilO ?_
    refine q_seqN ?_
    refine s_keep [0, 1, 5, 16] rfl ?_
    first | refine s_condD rfl ?_ ?_ | refine s_condN rfl ?_ ?_ | refine s_condNB rfl ?_ ?_ | refine s_condB rfl ?_ ?_
    · intro h2
      try rw [Decidable.not_not] at h2
      refine s_skip ?_
      refine q_seqN ?_
      refine s_keep [0, 1, 5] rfl ?_
      refine S_seq ?_
      refine S_block ?_
      refine S_seq ?_
      refine s_rg ?_
      refine s_op (o_mv rfl) ?_
      refine s_op (o_mv rfl) ?_
      refine s_iaM rfl rfl (by omega) ?_
      intro y3 e3
      try simp only [Int.toNat_natCast] at e3
      refine s_op (o_ldn rfl rfl) ?_
      refine s_op (o_new rfl rfl) ?_
      refine s_opN (o_stnC rfl rfl rfl rfl rfl rfl rfl) ?_
      refine s_nilO ?_
      refine q_seqN ?_
      refine s_keep [0, 1, 5, 6] rfl ?_
      refine S_seq ?_
      refine s_rg ?_
      refine s_op (o_mv rfl) ?_
      refine s_op (o_mv rfl) ?_
      refine s_iaM rfl rfl (by omega) ?_
      intro y4 e4
      try simp only [Int.toNat_natCast] at e4
      refine s_op (o_ldn rfl rfl) ?_
      refine s_op (o_new rfl rfl) ?_
      refine s_opN (o_stnC rfl rfl rfl rfl rfl rfl rfl) ?_
      refine s_nilO ?_
      refine q_seqN ?_
      refine s_keep [0, 1, 5, 6, 7] rfl ?_
      refine S_seq ?_
      refine s_rg ?_
      refine s_op (o_faC rfl) ?_
      refine s_op (o_ldC rfl rfl rfl) ?_
      refine s_op (o_faC rfl) ?_
      refine s_op (o_ldC rfl rfl rfl) ?_
      refine s_op (o_eqb rfl rfl) ?_
      refine s_op (o_mv rfl) ?_
      first | refine s_gDF rfl ?_ ?_ | refine s_gNDF rfl ?_ ?_ | refine s_gNF rfl ?_ ?_ | refine s_gB rfl ?_ ?_
      · intro h5
        try rw [Decidable.not_not] at h5
        refine s_op (o_faC rfl) ?_
        refine s_gT rfl ?_
        refine s_op (o_ldC rfl rfl rfl) ?_
        refine s_gT rfl ?_
        refine s_op (o_faC rfl) ?_
        refine s_gT rfl ?_
        refine s_op (o_ldC rfl rfl rfl) ?_
        refine s_gT rfl ?_
        first | refine s_op (o_neq rfl rfl) ?_ | refine s_op (o_bin rfl rfl rfl rfl) ?_
        refine s_op (o_pickF rfl rfl) ?_
        refine s_op (o_mv rfl) ?_
        first | refine s_gDF rfl ?_ ?_ | refine s_gNDF rfl ?_ ?_ | refine s_gNF rfl ?_ ?_ | refine s_gB rfl ?_ ?_
        · intro h6
          try rw [Decidable.not_not] at h6
          refine s_op (o_faC rfl) ?_
          refine s_keepO (is := [0, 1, 5, 6, 7, 33, 34, 35, 36, 37, 39, 40]) rfl ?_
          refine s_gT rfl ?_
          refine s_op (o_ldC rfl rfl rfl) ?_
          refine s_gT rfl ?_
          refine s_op (o_faC rfl) ?_
          refine s_gT rfl ?_
          refine s_op (o_ldC rfl rfl rfl) ?_
          refine s_gT rfl ?_
          first | refine s_op (o_neq rfl rfl) ?_ | refine s_op (o_bin rfl rfl rfl rfl) ?_
          refine s_op (o_pickF rfl rfl) ?_
          refine s_op (o_mv rfl) ?_
          first | refine s_gDF rfl ?_ ?_ | refine s_gNDF rfl ?_ ?_ | refine s_gNF rfl ?_ ?_ | refine s_gB rfl ?_ ?_
          · intro h7
            try rw [Decidable.not_not] at h7
            refine s_op (o_faC rfl) ?_
            refine s_gT rfl ?_
            refine s_op (o_ldC rfl rfl rfl) ?_
            refine s_gT rfl ?_
            refine s_op (o_mv rfl) ?_
            first | refine s_gDT rfl ?_ ?_ | refine s_gNDT rfl ?_ ?_ | refine s_gNT rfl ?_ ?_ | refine s_gB rfl ?_ ?_
            · intro h8
              try rw [Decidable.not_not] at h8
              refine s_op (o_faC rfl) ?_
              refine s_gT rfl ?_
              refine s_op (o_ldC rfl rfl rfl) ?_
              refine s_gT rfl ?_
              first | refine s_op (o_eql rfl rfl) ?_ | refine s_op (o_bin rfl rfl rfl rfl) ?_
              refine s_gT rfl ?_
              refine s_op (o_pickT rfl rfl) ?_
              refine s_gT rfl ?_
              refine s_op (o_mv rfl) ?_
              refine s_keepO (is := [0, 1, 5, 6, 7, 33, 34, 35, 36, 37, 40, 41, 42, 43, 44, 46, 47, 48, 49, 50, 51, 52, 53, 54]) rfl ?_
              first | refine s_gDT rfl ?_ ?_ | refine s_gNDT rfl ?_ ?_ | refine s_gNT rfl ?_ ?_ | refine s_gB rfl ?_ ?_
              · intro h9
                try rw [Decidable.not_not] at h9
                refine s_op (o_faC rfl) ?_
                refine s_gT rfl ?_
                refine s_op (o_ldC rfl rfl rfl) ?_
                refine s_gT rfl ?_
                refine s_op (o_faC rfl) ?_
                refine s_gT rfl ?_
                refine s_op (o_ldC rfl rfl rfl) ?_
                refine s_gT rfl ?_
                first | refine s_op (o_neq rfl rfl) ?_ | refine s_op (o_bin rfl rfl rfl rfl) ?_
                refine s_gT rfl ?_
                refine s_op (o_pickT rfl rfl) ?_
                refine s_op (o_pickF rfl rfl) ?_
                refine s_nilO ?_
                refine q_seqN ?_
                refine s_keep [0, 1, 5, 33, 34, 35, 36, 37, 40, 41, 42, 43, 44, 47, 48, 49, 50, 51, 52, 53, 54, 55, 56, 57, 58, 59, 60, 61] rfl ?_
                first | refine s_condD rfl ?_ ?_ | refine s_condN rfl ?_ ?_ | refine s_condNB rfl ?_ ?_ | refine s_condB rfl ?_ ?_
                · intro h10
                  try rw [Decidable.not_not] at h10
                  refine S_seq ?_
                  refine s_rg ?_
                  refine s_op (o_mv rfl) ?_
                  refine s_nilO ?_
                  refine q_seqN ?_
                  refine s_keep [4] rfl ?_
                  refine s_ret ?_
                  refine q_blkR ?_
                  refine q_seqR ?_
                  refine q_loopR ?_
                  refine q_blkR ?_
                  refine q_seqR ?_
                  refine ret_leaf (.inr rfl) rfl rfl ?_
                  refine congrArg (fun b => V.w (.bool b)) ?_
                  first | (unfold follows; rw [all_no (zip_get (by assumption) (by assumption)) (by clear hi; simp_all [folOk])]; simp; done) | (unfold follows; rw [all_end hi.2.1 (by rw [zip_len hi.2.2]; omega)]; simp; omega) | (unfold follows; simp; omega)
                · intro h10
                  try rw [Decidable.not_not] at h10
                  refine s_skip ?_
                  refine q_blkN ?_
                  refine q_seqN ?_
                  refine s_keep [0, 1, 5, 33, 34, 35, 36, 37, 40, 41, 42, 43, 44, 47, 48, 49, 50, 51, 52, 53, 54, 55, 56, 57, 58, 59, 60] rfl ?_
                  refine s_rg ?_
                  refine s_op (o_mv rfl) ?_
                  first | refine s_op (o_addn rfl rfl (by omega)) ?_ | refine s_op (o_add rfl rfl) ?_
                  refine s_op (o_mv rfl) ?_
                  refine s_nilO ?_
                  refine q_loopN ?_
                  exact ⟨i + 1, ⟨by omega, all_take (zip_get (by assumption) (by assumption)) hi.2.1 (by clear hi; simp_all [folOk]), hi.2.2⟩, by omega, hasOf ⟨rfl, trivial⟩ rfl⟩
              · intro h9
                try rw [Decidable.not_not] at h9
                refine s_gF rfl ?_
                refine s_gF rfl ?_
                refine s_gF rfl ?_
                refine s_gF rfl ?_
                refine s_gF rfl ?_
                refine s_gT rfl ?_
                refine s_op (o_pickF rfl rfl) ?_
                refine s_op (o_pickF rfl rfl) ?_
                refine s_nilO ?_
                refine q_seqN ?_
                refine s_keep [0, 1, 5, 33, 34, 35, 36, 37, 40, 41, 42, 43, 44, 47, 48, 49, 50, 51, 52, 53, 54, 55, 56, 57, 58, 59, 60, 61] rfl ?_
                refine s_condF rfl ?_
                refine s_skip ?_
                refine q_blkN ?_
                refine q_seqN ?_
                refine s_keep [0, 1, 5, 33, 34, 35, 36, 37, 40, 41, 42, 43, 44, 47, 48, 49, 50, 51, 52, 53, 54, 55, 56, 57, 58, 59, 60] rfl ?_
                refine s_rg ?_
                refine s_op (o_mv rfl) ?_
                first | refine s_op (o_addn rfl rfl (by omega)) ?_ | refine s_op (o_add rfl rfl) ?_
                refine s_op (o_mv rfl) ?_
                refine s_nilO ?_
                refine q_loopN ?_
                exact ⟨i + 1, ⟨by omega, all_take (zip_get (by assumption) (by assumption)) hi.2.1 (by clear hi; simp_all [folOk]), hi.2.2⟩, by omega, hasOf ⟨rfl, trivial⟩ rfl⟩
            · intro h8
              try rw [Decidable.not_not] at h8
              refine s_gF rfl ?_
              refine s_gF rfl ?_
              refine s_gF rfl ?_
              refine s_gT rfl ?_
              refine s_op (o_pickF rfl rfl) ?_
              refine s_gT rfl ?_
              refine s_op (o_mv rfl) ?_
              refine s_keepO (is := [0, 1, 5, 6, 7, 33, 34, 35, 36, 37, 40, 41, 42, 43, 44, 46, 47, 48, 49, 50, 51, 52, 53, 54]) rfl ?_
              refine s_gF rfl ?_
              refine s_gF rfl ?_
              refine s_gF rfl ?_
              refine s_gF rfl ?_
              refine s_gF rfl ?_
              refine s_gT rfl ?_
              refine s_op (o_pickF rfl rfl) ?_
              refine s_op (o_pickF rfl rfl) ?_
              refine s_nilO ?_
              refine q_seqN ?_
              refine s_keep [0, 1, 5, 33, 34, 35, 36, 37, 40, 41, 42, 43, 44, 47, 48, 49, 50, 51, 52, 53, 54, 55, 56, 57, 58, 59, 60, 61] rfl ?_
              refine s_condF rfl ?_
              refine s_skip ?_
              refine q_blkN ?_
              refine q_seqN ?_
              refine s_keep [0, 1, 5, 33, 34, 35, 36, 37, 40, 41, 42, 43, 44, 47, 48, 49, 50, 51, 52, 53, 54, 55, 56, 57, 58, 59, 60] rfl ?_
              refine s_rg ?_
              refine s_op (o_mv rfl) ?_
              first | refine s_op (o_addn rfl rfl (by omega)) ?_ | refine s_op (o_add rfl rfl) ?_
              refine s_op (o_mv rfl) ?_
              refine s_nilO ?_
              refine q_loopN ?_
              exact ⟨i + 1, ⟨by omega, all_take (zip_get (by assumption) (by assumption)) hi.2.1 (by clear hi; simp_all [folOk]), hi.2.2⟩, by omega, hasOf ⟨rfl, trivial⟩ rfl⟩
          · intro h7
            try rw [Decidable.not_not] at h7
            refine s_gF rfl ?_
            refine s_gF rfl ?_
            refine s_gF rfl ?_
            refine s_gN rfl ?_
            refine s_gN rfl ?_
            refine s_gN rfl ?_
            refine s_gF rfl ?_
            refine s_gF rfl ?_
            refine s_keepO (is := [0, 1, 5, 6, 7, 33, 34, 35, 36, 37, 40, 41, 42, 43, 44, 46, 47, 48, 49, 50, 51, 52, 53, 54]) rfl ?_
            refine s_gN rfl ?_
            refine s_gN rfl ?_
            refine s_gN rfl ?_
            refine s_gN rfl ?_
            refine s_gN rfl ?_
            refine s_gF rfl ?_
            refine s_op (o_pickT rfl rfl) ?_
            refine s_nilO ?_
            refine q_seqN ?_
            refine s_keep [0, 1, 5, 33, 34, 35, 36, 37, 40, 41, 42, 43, 44, 47, 48, 49, 50, 51, 52, 53, 54, 55, 56, 57, 58, 59, 60, 61] rfl ?_
            refine s_condT rfl ?_
            refine S_seq ?_
            refine s_rg ?_
            refine s_op (o_mv rfl) ?_
            refine s_nilO ?_
            refine q_seqN ?_
            refine s_keep [4] rfl ?_
            refine s_ret ?_
            refine q_blkR ?_
            refine q_seqR ?_
            refine q_loopR ?_
            refine q_blkR ?_
            refine q_seqR ?_
            refine ret_leaf (.inr rfl) rfl rfl ?_
            refine congrArg (fun b => V.w (.bool b)) ?_
            first | (unfold follows; rw [all_no (zip_get (by assumption) (by assumption)) (by clear hi; simp_all [folOk])]; simp; done) | (unfold follows; rw [all_end hi.2.1 (by rw [zip_len hi.2.2]; omega)]; simp; omega) | (unfold follows; simp; omega)
        · intro h6
          try rw [Decidable.not_not] at h6
          refine s_gF rfl ?_
          refine s_keepO (is := [0, 1, 5, 6, 7, 33, 34, 35, 36, 37, 39, 40]) rfl ?_
          refine s_gF rfl ?_
          refine s_gF rfl ?_
          refine s_gF rfl ?_
          refine s_gF rfl ?_
          refine s_op (o_pickT rfl rfl) ?_
          refine s_op (o_mv rfl) ?_
          refine s_gF rfl ?_
          refine s_gF rfl ?_
          refine s_gF rfl ?_
          refine s_gN rfl ?_
          refine s_gN rfl ?_
          refine s_gN rfl ?_
          refine s_gF rfl ?_
          refine s_gF rfl ?_
          refine s_keepO (is := [0, 1, 5, 6, 7, 33, 34, 35, 36, 37, 40, 41, 42, 43, 44, 46, 47, 48, 49, 50, 51, 52, 53, 54]) rfl ?_
          refine s_gN rfl ?_
          refine s_gN rfl ?_
          refine s_gN rfl ?_
          refine s_gN rfl ?_
          refine s_gN rfl ?_
          refine s_gF rfl ?_
          refine s_op (o_pickT rfl rfl) ?_
          refine s_nilO ?_
          refine q_seqN ?_
          refine s_keep [0, 1, 5, 33, 34, 35, 36, 37, 40, 41, 42, 43, 44, 47, 48, 49, 50, 51, 52, 53, 54, 55, 56, 57, 58, 59, 60, 61] rfl ?_
          refine s_condT rfl ?_
          refine S_seq ?_
          refine s_rg ?_
          refine s_op (o_mv rfl) ?_
          refine s_nilO ?_
          refine q_seqN ?_
          refine s_keep [4] rfl ?_
          refine s_ret ?_
          refine q_blkR ?_
          refine q_seqR ?_
          refine q_loopR ?_
          refine q_blkR ?_
          refine q_seqR ?_
          refine ret_leaf (.inr rfl) rfl rfl ?_
          refine congrArg (fun b => V.w (.bool b)) ?_
          first | (unfold follows; rw [all_no (zip_get (by assumption) (by assumption)) (by clear hi; simp_all [folOk])]; simp; done) | (unfold follows; rw [all_end hi.2.1 (by rw [zip_len hi.2.2]; omega)]; simp; omega) | (unfold follows; simp; omega)
      · intro h5
        try rw [Decidable.not_not] at h5
        refine s_gF rfl ?_
        refine s_gF rfl ?_
        refine s_gF rfl ?_
        refine s_gF rfl ?_
        refine s_gF rfl ?_
        refine s_op (o_pickT rfl rfl) ?_
        refine s_op (o_mv rfl) ?_
        refine s_gF rfl ?_
        refine s_keepO (is := [0, 1, 5, 6, 7, 33, 34, 35, 36, 37, 39, 40]) rfl ?_
        refine s_gF rfl ?_
        refine s_gF rfl ?_
        refine s_gF rfl ?_
        refine s_gF rfl ?_
        refine s_op (o_pickT rfl rfl) ?_
        refine s_op (o_mv rfl) ?_
        refine s_gF rfl ?_
        refine s_gF rfl ?_
        refine s_gF rfl ?_
        refine s_gN rfl ?_
        refine s_gN rfl ?_
        refine s_gN rfl ?_
        refine s_gF rfl ?_
        refine s_gF rfl ?_
        refine s_keepO (is := [0, 1, 5, 6, 7, 33, 34, 35, 36, 37, 40, 41, 42, 43, 44, 46, 47, 48, 49, 50, 51, 52, 53, 54]) rfl ?_
        refine s_gN rfl ?_
        refine s_gN rfl ?_
        refine s_gN rfl ?_
        refine s_gN rfl ?_
        refine s_gN rfl ?_
        refine s_gF rfl ?_
        refine s_op (o_pickT rfl rfl) ?_
        refine s_nilO ?_
        refine q_seqN ?_
        refine s_keep [0, 1, 5, 33, 34, 35, 36, 37, 40, 41, 42, 43, 44, 47, 48, 49, 50, 51, 52, 53, 54, 55, 56, 57, 58, 59, 60, 61] rfl ?_
        refine s_condT rfl ?_
        refine S_seq ?_
        refine s_rg ?_
        refine s_op (o_mv rfl) ?_
        refine s_nilO ?_
        refine q_seqN ?_
        refine s_keep [4] rfl ?_
        refine s_ret ?_
        refine q_blkR ?_
        refine q_seqR ?_
        refine q_loopR ?_
        refine q_blkR ?_
        refine q_seqR ?_
        refine ret_leaf (.inr rfl) rfl rfl ?_
        refine congrArg (fun b => V.w (.bool b)) ?_
        first | (unfold follows; rw [all_no (zip_get (by assumption) (by assumption)) (by clear hi; simp_all [folOk])]; simp; done) | (unfold follows; rw [all_end hi.2.1 (by rw [zip_len hi.2.2]; omega)]; simp; omega) | (unfold follows; simp; omega)
    · intro h2
      try rw [Decidable.not_not] at h2
      refine s_exit ?_
      refine q_seqX ?_
      refine q_loopX ?_
      refine q_blkH ?_
      refine q_seqN ?_
      refine s_keep [] rfl ?_
      refine S_seq ?_
      refine s_rg ?_
      refine s_op (o_mv rfl) ?_
      refine s_nilO ?_
      refine q_seqN ?_
      refine s_keep [4] rfl ?_
      refine s_ret ?_
      refine ret_leaf (.inr rfl) rfl rfl ?_
      refine congrArg (fun b => V.w (.bool b)) ?_
      first | (unfold follows; rw [all_no (zip_get (by assumption) (by assumption)) (by clear hi; simp_all [folOk])]; simp; done) | (unfold follows; rw [all_end hi.2.1 (by rw [zip_len hi.2.2]; omega)]; simp; omega) | (unfold follows; simp; omega)

theorem c_111 (x : List Done) (hwx : x.length ≤ 140737488355328) (y : List Done) (hwy : y.length ≤ 140737488355328) : CV prg 111 [.sl 7 (x.map Done.r), .sl 7 (y.map Done.r)] (fun v => v = .w (.bool true)) := by
  refine cv_in g111 ?_
  refine s_keep [0, 1] rfl ?_
  refine S_seq ?_
  refine s_rg ?_
  refine s_op (o_mv rfl) ?_
  refine s_nilO ?_
  refine q_seqN ?_
  refine s_keep [0, 1] rfl ?_
  refine S_seq ?_
  refine s_rg ?_
  refine s_op (o_mv rfl) ?_
  refine s_nilO ?_
  refine q_seqN ?_
  refine s_keep [0, 1, 5] rfl ?_
  refine S_seq ?_
  refine s_rg ?_
  refine s_op (o_mv rfl) ?_
  refine s_op (o_mv rfl) ?_
  refine s_call rfl rfl (c_147 _ _ (by (try unfold room at *); omega) (by assumption)) ?_
  refine s_op (o_mv rfl) ?_
  refine s_nilO ?_
  refine q_seqN ?_
  refine s_keep [0, 1, 5] rfl ?_
  refine S_seq ?_
  refine S_seq ?_
  refine s_rg ?_
  refine s_op (o_mv rfl) ?_
  first | refine s_op (o_lss rfl rfl) ?_ | refine s_op (o_bin rfl rfl rfl rfl) ?_
  refine s_nilO ?_
  refine q_seqN ?_
  refine s_keep [0, 1, 5, 14] rfl ?_
  first | refine s_condD rfl ?_ ?_ | refine s_condN rfl ?_ ?_ | refine s_condNB rfl ?_ ?_ | refine s_condB rfl ?_ ?_
  · intro h1
    try rw [Decidable.not_not] at h1
    try (have hlx : x.length ≤ 1048576 := by (try unfold room at *); omega)
    try (have hly : y.length ≤ 1048576 := by (try unfold room at *); omega)
    refine S_seq ?_
    refine s_rg ?_
    refine s_op (o_mv rfl) ?_
    refine s_nilO ?_
    refine q_seqN ?_
    refine s_keep [4] rfl ?_
    refine s_ret ?_
    refine q_seqR ?_
    refine ret_leaf (.inr rfl) rfl rfl ?_
    refine congrArg (fun b => V.w (.bool b)) ?_
    simp_all
  · intro h1
    try rw [Decidable.not_not] at h1
    try (have hlx : x.length ≤ 1048576 := by (try unfold room at *); omega)
    try (have hly : y.length ≤ 1048576 := by (try unfold room at *); omega)
    refine s_skip ?_
    refine q_seqN ?_
    refine s_keep [0, 1, 5] rfl ?_
    refine S_seq ?_
    refine s_rg ?_
    refine s_op (o_mv rfl) ?_
    refine s_op (o_mv rfl) ?_
    first | refine s_call rfl rfl (c_147 _ _ (by (try unfold room at *); omega) (by assumption)) ?_ | refine s_callL rfl rfl (by simp) (c_147 _ _ (by (try unfold room at *); omega) (by assumption)) rfl ?_
    refine s_op (o_mv rfl) ?_
    refine s_nilO ?_
    refine q_seqN ?_
    refine s_keep [0, 1, 5] rfl ?_
    refine S_seq ?_
    refine S_seq ?_
    refine s_rg ?_
    refine s_op (o_mv rfl) ?_
    first | refine s_op (o_lss rfl rfl) ?_ | refine s_op (o_bin rfl rfl rfl rfl) ?_
    refine s_nilO ?_
    refine q_seqN ?_
    refine s_keep [0, 1, 19] rfl ?_
    first | refine s_condD rfl ?_ ?_ | refine s_condN rfl ?_ ?_ | refine s_condNB rfl ?_ ?_ | refine s_condB rfl ?_ ?_
    · intro h2
      try rw [Decidable.not_not] at h2
      try (have hlx : x.length ≤ 1048576 := by (try unfold room at *); omega)
      try (have hly : y.length ≤ 1048576 := by (try unfold room at *); omega)
      refine S_seq ?_
      refine s_rg ?_
      refine s_op (o_mv rfl) ?_
      refine s_nilO ?_
      refine q_seqN ?_
      refine s_keep [4] rfl ?_
      refine s_ret ?_
      refine q_seqR ?_
      refine ret_leaf (.inr rfl) rfl rfl ?_
      refine congrArg (fun b => V.w (.bool b)) ?_
      simp_all
    · intro h2
      try rw [Decidable.not_not] at h2
      try (have hlx : x.length ≤ 1048576 := by (try unfold room at *); omega)
      try (have hly : y.length ≤ 1048576 := by (try unfold room at *); omega)
      refine s_skip ?_
      refine q_seqN ?_
      refine s_keep [0, 1] rfl ?_
      refine S_seq ?_
      refine s_rg ?_
      refine s_op (o_mv rfl) ?_
      refine s_call rfl rfl (c_162 _ (by assumption)) ?_
      refine s_op (o_mv rfl) ?_
      refine s_call rfl rfl (c_162 _ (by assumption)) ?_
      first | refine s_call rfl rfl (c_198 _ _ (by assumption)) ?_ | refine s_callL rfl rfl (by simp) (c_198 _ _ (by assumption)) rfl ?_
      refine s_op (o_mv rfl) ?_
      refine s_nilO ?_
      refine q_seqN ?_
      refine s_keep [0, 1, 6] rfl ?_
      refine S_seq ?_
      refine s_rg ?_
      refine s_op (o_mv rfl) ?_
      refine s_call rfl rfl (c_162 _ (by assumption)) ?_
      refine s_op (o_mv rfl) ?_
      refine s_nilO ?_
      refine q_seqN ?_
      refine s_keep [0, 1, 6, 7] rfl ?_
      refine S_seq ?_
      refine s_rg ?_
      refine s_op (o_mv rfl) ?_
      refine s_call rfl rfl (c_162 _ (by assumption)) ?_
      refine s_op (o_mv rfl) ?_
      refine s_nilO ?_
      refine q_seqN ?_
      refine s_keep [0, 1, 6, 7, 8] rfl ?_
      refine S_seq ?_
      refine s_rg ?_
      refine s_op (o_mv rfl) ?_
      refine s_op (o_mv rfl) ?_
      first | refine s_call rfl rfl (c_46 _ _ (by assumption)) ?_ | refine s_callL rfl rfl (by simp) (c_46 _ _ (by assumption)) rfl ?_
      refine s_op (o_mv rfl) ?_
      refine s_nilO ?_
      refine q_seqN ?_
      refine s_keep [0, 1, 6, 7, 8, 9] rfl ?_
      refine S_seq ?_
      refine S_seq ?_
      refine s_rg ?_
      refine s_op (o_mv rfl) ?_
      refine s_op (o_mv rfl) ?_
      refine s_op (o_eqb rfl rfl) ?_
      refine s_nilO ?_
      refine q_seqN ?_
      refine s_keep [0, 1, 7, 8, 34] rfl ?_
      first | refine s_condD rfl ?_ ?_ | refine s_condN rfl ?_ ?_ | refine s_condNB rfl ?_ ?_ | refine s_condB rfl ?_ ?_
      · intro h3
        try rw [Decidable.not_not] at h3
        try (have hlx : x.length ≤ 1048576 := by (try unfold room at *); omega)
        try (have hly : y.length ≤ 1048576 := by (try unfold room at *); omega)
        refine S_seq ?_
        refine s_rg ?_
        refine s_op (o_mv rfl) ?_
        refine s_nilO ?_
        refine q_seqN ?_
        refine s_keep [4] rfl ?_
        refine s_ret ?_
        refine q_seqR ?_
        refine ret_leaf (.inr rfl) rfl rfl ?_
        refine congrArg (fun b => V.w (.bool b)) ?_
        simp_all
      · intro h3
        try rw [Decidable.not_not] at h3
        try (have hlx : x.length ≤ 1048576 := by (try unfold room at *); omega)
        try (have hly : y.length ≤ 1048576 := by (try unfold room at *); omega)
        refine s_skip ?_
        refine q_seqN ?_
        refine s_keep [0, 1, 7, 8] rfl ?_
        refine S_seq ?_
        refine S_seq ?_
        refine s_rg ?_
        refine s_op (o_mv rfl) ?_
        refine s_op (o_mv rfl) ?_
        refine s_call rfl rfl (c_162 _ (by assumption)) ?_
        first | refine s_call rfl rfl (c_131 _ _ (by assumption)) ?_ | refine s_callL rfl rfl (by simp) (c_131 _ _ (by assumption)) rfl ?_
        refine s_op (o_not rfl) ?_
        refine s_nilO ?_
        refine q_seqN ?_
        refine s_keep [1, 8, 39] rfl ?_
        first | refine s_condD rfl ?_ ?_ | refine s_condN rfl ?_ ?_ | refine s_condNB rfl ?_ ?_ | refine s_condB rfl ?_ ?_
        · intro h4
          try rw [Decidable.not_not] at h4
          try (have hlx : x.length ≤ 1048576 := by (try unfold room at *); omega)
          try (have hly : y.length ≤ 1048576 := by (try unfold room at *); omega)
          refine S_seq ?_
          refine s_rg ?_
          refine s_op (o_mv rfl) ?_
          refine s_nilO ?_
          refine q_seqN ?_
          refine s_keep [4] rfl ?_
          refine s_ret ?_
          refine q_seqR ?_
          refine ret_leaf (.inr rfl) rfl rfl ?_
          refine congrArg (fun b => V.w (.bool b)) ?_
          simp_all
        · intro h4
          try rw [Decidable.not_not] at h4
          try (have hlx : x.length ≤ 1048576 := by (try unfold room at *); omega)
          try (have hly : y.length ≤ 1048576 := by (try unfold room at *); omega)
          refine s_skip ?_
          refine q_seqN ?_
          refine s_keep [1, 8] rfl ?_
          refine S_seq ?_
          refine S_seq ?_
          refine s_rg ?_
          refine s_op (o_mv rfl) ?_
          refine s_op (o_mv rfl) ?_
          refine s_call rfl rfl (c_162 _ (by assumption)) ?_
          first | refine s_call rfl rfl (c_131 _ _ (by assumption)) ?_ | refine s_callL rfl rfl (by simp) (c_131 _ _ (by assumption)) rfl ?_
          refine s_op (o_not rfl) ?_
          refine s_nilO ?_
          refine q_seqN ?_
          refine s_keep [44] rfl ?_
          first | refine s_condD rfl ?_ ?_ | refine s_condN rfl ?_ ?_ | refine s_condNB rfl ?_ ?_ | refine s_condB rfl ?_ ?_
          · intro h5
            try rw [Decidable.not_not] at h5
            try (have hlx : x.length ≤ 1048576 := by (try unfold room at *); omega)
            try (have hly : y.length ≤ 1048576 := by (try unfold room at *); omega)
            refine S_seq ?_
            refine s_rg ?_
            refine s_op (o_mv rfl) ?_
            refine s_nilO ?_
            refine q_seqN ?_
            refine s_keep [4] rfl ?_
            refine s_ret ?_
            refine q_seqR ?_
            refine ret_leaf (.inr rfl) rfl rfl ?_
            refine congrArg (fun b => V.w (.bool b)) ?_
            simp_all
          · intro h5
            try rw [Decidable.not_not] at h5
            try (have hlx : x.length ≤ 1048576 := by (try unfold room at *); omega)
            try (have hly : y.length ≤ 1048576 := by (try unfold room at *); omega)
            refine s_skip ?_
            refine q_seqN ?_
            refine s_keep [] rfl ?_
            refine S_seq ?_
            refine s_rg ?_
            refine s_op (o_mv rfl) ?_
            refine s_nilO ?_
            refine q_seqN ?_
            refine s_keep [4] rfl ?_
            refine s_ret ?_
            refine ret_leaf (.inr rfl) rfl rfl ?_
            refine congrArg (fun b => V.w (.bool b)) ?_
            simp_all

end Go.Proofs.Ytojdedadgddhgaa.AL
