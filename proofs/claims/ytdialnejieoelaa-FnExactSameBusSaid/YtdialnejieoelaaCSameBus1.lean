/- What functions do with plain data, each by the form of its code. Printed by program. -/
import Derived.Test.YtdialnejieoelaaCSameBus0
namespace Go.Proofs.Ytdialnejieoelaa.AL
open Go
set_option linter.unusedVariables false
set_option linter.unusedSimpArgs false
set_option maxRecDepth 4096

theorem c_152 (xs : List Mst) (left : Int) (h : -1 ≤ left ∧ left ≤ 1048576) (hl : xs.length ≤ 140737488355328) (hw : ∀ y, y ∈ xs → Mst.wf y) : CV prg 152 [.sl 6 (xs.map Mst.r), .w (.int .i64 left)] (fun res => res = .w (.int .i64 (room left (xs.length + sumL Mst.sz xs)))) := by
  refine cv_in g152 ?_
  refine s_keep [0, 1] rfl ?_
  refine S_seq ?_
  refine s_rg ?_
  refine s_op (o_mv rfl) ?_
  refine s_nilO ?_
  refine q_seqN ?_
  refine s_keep [0, 1] rfl ?_
  refine S_seq ?_
  refine s_rg ?_
  refine s_op (o_mv rfl) ?_
  refine s_op (o_mv rfl) ?_
  first | refine s_op (o_lenM rfl) ?_ | refine s_op (o_len rfl) ?_
  first | refine s_op (o_subn rfl rfl (by omega)) ?_ | refine s_op (o_sub rfl rfl) ?_
  refine s_op (o_mv rfl) ?_
  refine s_nilO ?_
  refine q_seqN ?_
  refine s_keep [0, 1] rfl ?_
  refine S_seq ?_
  refine S_seq ?_
  refine s_rg ?_
  refine s_op (o_mv rfl) ?_
  first | refine s_op (o_lss rfl rfl) ?_ | refine s_op (o_bin rfl rfl rfl rfl) ?_
  refine s_nilO ?_
  refine q_seqN ?_
  refine s_keep [0, 1, 11] rfl ?_
  first | refine s_condD rfl ?_ ?_ | refine s_condN rfl ?_ ?_ | refine s_condNB rfl ?_ ?_ | refine s_condB rfl ?_ ?_
  · intro h1
    try rw [Decidable.not_not] at h1
    refine S_seq ?_
    refine s_rg ?_
    refine s_op (o_mv rfl) ?_
    refine s_nilO ?_
    refine q_seqN ?_
    refine s_keep [4] rfl ?_
    refine s_ret ?_
    refine q_seqR ?_
    refine ret_leaf (.inr rfl) rfl rfl ?_
    refine congrArg (fun b => V.w (.int .i64 b)) ?_
    first | ((try unfold room); omega) | (have hst := sumL_take Mst.sz (by assumption : xs[i]? = some _); have hs2 := sumL_le Mst.sz xs (i + 1); (try unfold room at *); omega) | (rw [sumL_end _ (by omega)] at *; (try unfold room); omega)
  · intro h1
    try rw [Decidable.not_not] at h1
    refine s_skip ?_
    refine q_seqN ?_
    refine s_keep [0, 1] rfl ?_
    refine S_seq ?_
    refine S_seq ?_
    refine s_rg ?_
    refine s_op (o_mv rfl) ?_
    refine s_nilO ?_
    refine q_seqN ?_
    refine s_keep [0, 1, 5] rfl ?_
    refine S_block ?_
    refine S_loop0 (ι := Nat) (fun i => i ≤ xs.length ∧ 0 ≤ left - xs.length - sumL Mst.sz (xs.take i)) (fun i => [(5, .w (.int .i64 (i : Int))), (1, .w (.int .i64 (left - xs.length - sumL Mst.sz (xs.take i))))]) (fun i => xs.length - i) 0 ⟨by simp, by simp [sumL]; omega⟩ rfl ⟨rfl, by simp [sumL, look]; rfl, trivial⟩ (fun _ _ => rfl) rfl ?_
    intro i hi
    have hsl := sumL_le Mst.sz xs i
    refine s_keep [0, 1, 5] rfl ?_
    refine S_seq ?_
    refine S_seq ?_
    refine s_rg ?_
    refine s_op (o_mv rfl) ?_
    refine s_op (o_mv rfl) ?_
    first | refine s_op (o_lenM rfl) ?_ | refine s_op (o_len rfl) ?_
    first | refine s_op (o_lss rfl rfl) ?_ | refine s_op (o_bin rfl rfl rfl rfl) ?_
    refine s_nilO ?_
    refine q_seqN ?_
    refine s_keep [0, 1, 5, 15] rfl ?_
    first | refine s_condD rfl ?_ ?_ | refine s_condN rfl ?_ ?_ | refine s_condNB rfl ?_ ?_ | refine s_condB rfl ?_ ?_
    · intro h2
      try rw [Decidable.not_not] at h2
      refine s_skip ?_
      refine q_seqN ?_
      refine s_keep [0, 1, 5] rfl ?_
      refine S_seq ?_
      refine S_block ?_
      refine S_seq ?_
      refine s_rg ?_
      refine s_op (o_mv rfl) ?_
      refine s_op (o_mv rfl) ?_
      refine s_iaM rfl rfl (by simp at *; omega) ?_
      intro y3 e3
      try simp only [Int.toNat_natCast, Int.toNat_zero] at e3
      refine s_op (o_ldn rfl rfl) ?_
      refine s_op (o_mv rfl) ?_
      first | refine s_call rfl rfl (c_151 _ _ (by omega) (hw _ (List.mem_of_getElem? (by assumption)))) ?_ | refine s_callL rfl rfl (by simp) (c_151 _ _ (by omega) (hw _ (List.mem_of_getElem? (by assumption)))) rfl ?_
      refine s_op (o_mv rfl) ?_
      refine s_nilO ?_
      refine q_seqN ?_
      refine s_keep [0, 1, 5] rfl ?_
      refine S_seq ?_
      refine s_rg ?_
      refine s_op (o_mv rfl) ?_
      first | refine s_op (o_lss rfl rfl) ?_ | refine s_op (o_bin rfl rfl rfl rfl) ?_
      refine s_nilO ?_
      refine q_seqN ?_
      refine s_keep [0, 1, 5, 25] rfl ?_
      first | refine s_condD rfl ?_ ?_ | refine s_condN rfl ?_ ?_ | refine s_condNB rfl ?_ ?_ | refine s_condB rfl ?_ ?_
      · intro h4
        try rw [Decidable.not_not] at h4
        refine S_seq ?_
        refine s_rg ?_
        refine s_op (o_mv rfl) ?_
        refine s_nilO ?_
        refine q_seqN ?_
        refine s_keep [4] rfl ?_
        refine s_ret ?_
        refine q_blkR ?_
        refine q_seqR ?_
        refine q_loopR ?_
        refine q_blkR ?_
        refine q_seqR ?_
        refine ret_leaf (.inr rfl) rfl rfl ?_
        refine congrArg (fun b => V.w (.int .i64 b)) ?_
        first | ((try unfold room); omega) | (have hst := sumL_take Mst.sz (by assumption : xs[i]? = some _); have hs2 := sumL_le Mst.sz xs (i + 1); (try unfold room at *); omega) | (rw [sumL_end _ (by omega)] at *; (try unfold room); omega)
      · intro h4
        try rw [Decidable.not_not] at h4
        refine s_skip ?_
        refine q_blkN ?_
        refine q_seqN ?_
        refine s_keep [0, 1, 5] rfl ?_
        refine s_rg ?_
        refine s_op (o_mv rfl) ?_
        first | refine s_op (o_addn rfl rfl (by omega)) ?_ | refine s_op (o_add rfl rfl) ?_
        refine s_op (o_mv rfl) ?_
        refine s_nilO ?_
        refine q_loopN ?_
        have hst := sumL_take Mst.sz (by assumption : xs[i]? = some _)
        refine ⟨i + 1, ⟨by omega, by (try unfold room at *); omega⟩, by omega, hasOf ⟨rfl, ?_, trivial⟩ rfl⟩
        refine congrArg (fun b => some (V.w (.int .i64 b))) ?_
        (try unfold room at *); omega
    · intro h2
      try rw [Decidable.not_not] at h2
      refine s_exit ?_
      refine q_seqX ?_
      refine q_loopX ?_
      refine q_blkH ?_
      refine q_seqN ?_
      refine s_keep [1] rfl ?_
      refine S_seq ?_
      refine s_rg ?_
      refine s_op (o_mv rfl) ?_
      refine s_op (o_mv rfl) ?_
      refine s_nilO ?_
      refine q_seqN ?_
      refine s_keep [4] rfl ?_
      refine s_ret ?_
      refine ret_leaf (.inr rfl) rfl rfl ?_
      refine congrArg (fun b => V.w (.int .i64 b)) ?_
      first | ((try unfold room); omega) | (have hst := sumL_take Mst.sz (by assumption : xs[i]? = some _); have hs2 := sumL_le Mst.sz xs (i + 1); (try unfold room at *); omega) | (rw [sumL_end _ (by omega)] at *; (try unfold room); omega)

def Bus.small (x : Bus) : Prop := x.conf.small ∧ x.ms.length ≤ 1048576 ∧ (∀ y, y ∈ x.ms → Mst.small y) ∧ x.buckets.length ≤ 1048576 ∧ x.splits.length ≤ 1048576 ∧ x.model.small ∧ x.log.length ≤ 1048576

def Bus.sz (x : Bus) : Nat := x.conf.sz + x.ms.length + sumL Mst.sz x.ms + x.buckets.length + x.splits.length + x.model.sz + x.log.length

theorem Bus.small_of {x : Bus} (h : x.sz ≤ 1048576) : x.small := ⟨Conf.small_of (by unfold Bus.sz at h; omega), by unfold Bus.sz at h; omega, fun y hy => Mst.small_of (by have := sumL_mem Mst.sz hy; unfold Bus.sz at h; omega), by unfold Bus.sz at h; omega, by unfold Bus.sz at h; omega, Model.small_of (by unfold Bus.sz at h; omega), by unfold Bus.sz at h; omega⟩

theorem c_127 (x y : Bus) (hs : x.small) : CV prg 127 [.agg x.r, .agg y.r] (fun res => res = .w (.bool (decide (x = y)))) := by
  refine cv_in g127 ?_
  refine s_keep [0, 1] rfl ?_
  refine S_seq ?_
  refine s_rg ?_
  refine s_op (o_box rfl rfl rfl) ?_
  refine s_op (o_box rfl rfl rfl) ?_
  refine s_op (o_mv rfl) ?_
  refine s_nilO ?_
  refine q_seqN ?_
  refine s_keep [2, 3] rfl ?_
  refine S_seq ?_
  refine S_seq ?_
  refine s_rg ?_
  refine s_op (o_faC rfl) ?_
  refine s_op (o_ldnC rfl rfl rfl) ?_
  refine s_op (o_faC rfl) ?_
  refine s_op (o_ldnC rfl rfl rfl) ?_
  first | refine s_call rfl rfl (c_128 _ _ hs.1) ?_ | refine s_callL rfl rfl (by simp) (c_128 _ _ hs.1) rfl ?_
  refine s_op (o_not rfl) ?_
  refine s_nilO ?_
  refine q_seqN ?_
  refine s_keep [2, 3, 10] rfl ?_
  first | refine s_condD rfl ?_ ?_ | refine s_condN rfl ?_ ?_ | refine s_condNB rfl ?_ ?_ | refine s_condB rfl ?_ ?_
  · intro h1
    try rw [Decidable.not_not] at h1
    refine S_seq ?_
    refine s_rg ?_
    refine s_op (o_mv rfl) ?_
    refine s_nilO ?_
    refine q_seqN ?_
    refine s_keep [4] rfl ?_
    refine s_ret ?_
    refine q_seqR ?_
    refine ret_leaf (.inr rfl) rfl rfl ?_
    refine congrArg (fun b => V.w (.bool b)) ?_
    cases x; cases y; simp_all
  · intro h1
    try rw [Decidable.not_not] at h1
    refine s_skip ?_
    refine q_seqN ?_
    refine s_keep [2, 3] rfl ?_
    refine S_seq ?_
    refine S_seq ?_
    refine s_rg ?_
    refine s_op (o_faC rfl) ?_
    refine s_op (o_ldC rfl rfl rfl) ?_
    refine s_op (o_faC rfl) ?_
    refine s_op (o_ldC rfl rfl rfl) ?_
    first | refine s_op (o_neq rfl rfl) ?_ | refine s_op (o_bin rfl rfl rfl rfl) ?_
    refine s_nilO ?_
    refine q_seqN ?_
    refine s_keep [2, 3, 15] rfl ?_
    first | refine s_condD rfl ?_ ?_ | refine s_condN rfl ?_ ?_ | refine s_condNB rfl ?_ ?_ | refine s_condB rfl ?_ ?_
    · intro h2
      try rw [Decidable.not_not] at h2
      refine S_seq ?_
      refine s_rg ?_
      refine s_op (o_mv rfl) ?_
      refine s_nilO ?_
      refine q_seqN ?_
      refine s_keep [4] rfl ?_
      refine s_ret ?_
      refine q_seqR ?_
      refine ret_leaf (.inr rfl) rfl rfl ?_
      refine congrArg (fun b => V.w (.bool b)) ?_
      cases x; cases y; simp_all
    · intro h2
      try rw [Decidable.not_not] at h2
      refine s_skip ?_
      refine q_seqN ?_
      refine s_keep [2, 3] rfl ?_
      refine S_seq ?_
      refine S_seq ?_
      refine s_rg ?_
      refine s_op (o_faC rfl) ?_
      refine s_op (o_ldC rfl rfl rfl) ?_
      refine s_op (o_faC rfl) ?_
      refine s_op (o_ldC rfl rfl rfl) ?_
      first | refine s_call rfl rfl (c_137 _ _ hs.2.1 hs.2.2.1) ?_ | refine s_callL rfl rfl (by simp) (c_137 _ _ hs.2.1 hs.2.2.1) rfl ?_
      refine s_op (o_not rfl) ?_
      refine s_nilO ?_
      refine q_seqN ?_
      refine s_keep [2, 3, 21] rfl ?_
      first | refine s_condD rfl ?_ ?_ | refine s_condN rfl ?_ ?_ | refine s_condNB rfl ?_ ?_ | refine s_condB rfl ?_ ?_
      · intro h3
        try rw [Decidable.not_not] at h3
        refine S_seq ?_
        refine s_rg ?_
        refine s_op (o_mv rfl) ?_
        refine s_nilO ?_
        refine q_seqN ?_
        refine s_keep [4] rfl ?_
        refine s_ret ?_
        refine q_seqR ?_
        refine ret_leaf (.inr rfl) rfl rfl ?_
        refine congrArg (fun b => V.w (.bool b)) ?_
        cases x; cases y; simp_all
      · intro h3
        try rw [Decidable.not_not] at h3
        refine s_skip ?_
        refine q_seqN ?_
        refine s_keep [2, 3] rfl ?_
        refine S_seq ?_
        refine S_seq ?_
        refine s_rg ?_
        refine s_op (o_faC rfl) ?_
        refine s_op (o_ldnC rfl rfl rfl) ?_
        refine s_op (o_faC rfl) ?_
        refine s_op (o_ldnC rfl rfl rfl) ?_
        first | refine s_call rfl rfl (c_140 _ _) ?_ | refine s_callL rfl rfl (by simp) (c_140 _ _) rfl ?_
        refine s_op (o_not rfl) ?_
        refine s_nilO ?_
        refine q_seqN ?_
        refine s_keep [2, 3, 27] rfl ?_
        first | refine s_condD rfl ?_ ?_ | refine s_condN rfl ?_ ?_ | refine s_condNB rfl ?_ ?_ | refine s_condB rfl ?_ ?_
        · intro h4
          try rw [Decidable.not_not] at h4
          refine S_seq ?_
          refine s_rg ?_
          refine s_op (o_mv rfl) ?_
          refine s_nilO ?_
          refine q_seqN ?_
          refine s_keep [4] rfl ?_
          refine s_ret ?_
          refine q_seqR ?_
          refine ret_leaf (.inr rfl) rfl rfl ?_
          refine congrArg (fun b => V.w (.bool b)) ?_
          cases x; cases y; simp_all
        · intro h4
          try rw [Decidable.not_not] at h4
          refine s_skip ?_
          refine q_seqN ?_
          refine s_keep [2, 3] rfl ?_
          refine S_seq ?_
          refine S_seq ?_
          refine s_rg ?_
          refine s_op (o_faC rfl) ?_
          refine s_op (o_ldC rfl rfl rfl) ?_
          refine s_op (o_faC rfl) ?_
          refine s_op (o_ldC rfl rfl rfl) ?_
          first | refine s_call rfl rfl (c_126 _ _ hs.2.2.2.1) ?_ | refine s_callL rfl rfl (by simp) (c_126 _ _ hs.2.2.2.1) rfl ?_
          refine s_op (o_not rfl) ?_
          refine s_nilO ?_
          refine q_seqN ?_
          refine s_keep [2, 3, 33] rfl ?_
          first | refine s_condD rfl ?_ ?_ | refine s_condN rfl ?_ ?_ | refine s_condNB rfl ?_ ?_ | refine s_condB rfl ?_ ?_
          · intro h5
            try rw [Decidable.not_not] at h5
            refine S_seq ?_
            refine s_rg ?_
            refine s_op (o_mv rfl) ?_
            refine s_nilO ?_
            refine q_seqN ?_
            refine s_keep [4] rfl ?_
            refine s_ret ?_
            refine q_seqR ?_
            refine ret_leaf (.inr rfl) rfl rfl ?_
            refine congrArg (fun b => V.w (.bool b)) ?_
            cases x; cases y; simp_all
          · intro h5
            try rw [Decidable.not_not] at h5
            refine s_skip ?_
            refine q_seqN ?_
            refine s_keep [2, 3] rfl ?_
            refine S_seq ?_
            refine S_seq ?_
            refine s_rg ?_
            refine s_op (o_faC rfl) ?_
            refine s_op (o_ldC rfl rfl rfl) ?_
            refine s_op (o_faC rfl) ?_
            refine s_op (o_ldC rfl rfl rfl) ?_
            first | refine s_call rfl rfl (c_132 _ _ hs.2.2.2.2.1) ?_ | refine s_callL rfl rfl (by simp) (c_132 _ _ hs.2.2.2.2.1) rfl ?_
            refine s_op (o_not rfl) ?_
            refine s_nilO ?_
            refine q_seqN ?_
            refine s_keep [2, 3, 39] rfl ?_
            first | refine s_condD rfl ?_ ?_ | refine s_condN rfl ?_ ?_ | refine s_condNB rfl ?_ ?_ | refine s_condB rfl ?_ ?_
            · intro h6
              try rw [Decidable.not_not] at h6
              refine S_seq ?_
              refine s_rg ?_
              refine s_op (o_mv rfl) ?_
              refine s_nilO ?_
              refine q_seqN ?_
              refine s_keep [4] rfl ?_
              refine s_ret ?_
              refine q_seqR ?_
              refine ret_leaf (.inr rfl) rfl rfl ?_
              refine congrArg (fun b => V.w (.bool b)) ?_
              cases x; cases y; simp_all
            · intro h6
              try rw [Decidable.not_not] at h6
              refine s_skip ?_
              refine q_seqN ?_
              refine s_keep [2, 3] rfl ?_
              refine S_seq ?_
              refine S_seq ?_
              refine s_rg ?_
              refine s_op (o_faC rfl) ?_
              refine s_op (o_ldC rfl rfl rfl) ?_
              refine s_op (o_faC rfl) ?_
              refine s_op (o_ldC rfl rfl rfl) ?_
              first | refine s_op (o_neq rfl rfl) ?_ | refine s_op (o_bin rfl rfl rfl rfl) ?_
              refine s_nilO ?_
              refine q_seqN ?_
              refine s_keep [2, 3, 44] rfl ?_
              first | refine s_condD rfl ?_ ?_ | refine s_condN rfl ?_ ?_ | refine s_condNB rfl ?_ ?_ | refine s_condB rfl ?_ ?_
              · intro h7
                try rw [Decidable.not_not] at h7
                refine S_seq ?_
                refine s_rg ?_
                refine s_op (o_mv rfl) ?_
                refine s_nilO ?_
                refine q_seqN ?_
                refine s_keep [4] rfl ?_
                refine s_ret ?_
                refine q_seqR ?_
                refine ret_leaf (.inr rfl) rfl rfl ?_
                refine congrArg (fun b => V.w (.bool b)) ?_
                cases x; cases y; simp_all
              · intro h7
                try rw [Decidable.not_not] at h7
                refine s_skip ?_
                refine q_seqN ?_
                refine s_keep [2, 3] rfl ?_
                refine S_seq ?_
                refine S_seq ?_
                refine s_rg ?_
                refine s_op (o_faC rfl) ?_
                refine s_op (o_ldC rfl rfl rfl) ?_
                refine s_op (o_faC rfl) ?_
                refine s_op (o_ldC rfl rfl rfl) ?_
                first | refine s_op (o_neq rfl rfl) ?_ | refine s_op (o_bin rfl rfl rfl rfl) ?_
                refine s_nilO ?_
                refine q_seqN ?_
                refine s_keep [2, 3, 49] rfl ?_
                first | refine s_condD rfl ?_ ?_ | refine s_condN rfl ?_ ?_ | refine s_condNB rfl ?_ ?_ | refine s_condB rfl ?_ ?_
                · intro h8
                  try rw [Decidable.not_not] at h8
                  refine S_seq ?_
                  refine s_rg ?_
                  refine s_op (o_mv rfl) ?_
                  refine s_nilO ?_
                  refine q_seqN ?_
                  refine s_keep [4] rfl ?_
                  refine s_ret ?_
                  refine q_seqR ?_
                  refine ret_leaf (.inr rfl) rfl rfl ?_
                  refine congrArg (fun b => V.w (.bool b)) ?_
                  cases x; cases y; simp_all
                · intro h8
                  try rw [Decidable.not_not] at h8
                  refine s_skip ?_
                  refine q_seqN ?_
                  refine s_keep [2, 3] rfl ?_
                  refine S_seq ?_
                  refine S_seq ?_
                  refine s_rg ?_
                  refine s_op (o_faC rfl) ?_
                  refine s_op (o_ldC rfl rfl rfl) ?_
                  refine s_op (o_faC rfl) ?_
                  refine s_op (o_ldC rfl rfl rfl) ?_
                  first | refine s_op (o_neq rfl rfl) ?_ | refine s_op (o_bin rfl rfl rfl rfl) ?_
                  refine s_nilO ?_
                  refine q_seqN ?_
                  refine s_keep [2, 3, 54] rfl ?_
                  first | refine s_condD rfl ?_ ?_ | refine s_condN rfl ?_ ?_ | refine s_condNB rfl ?_ ?_ | refine s_condB rfl ?_ ?_
                  · intro h9
                    try rw [Decidable.not_not] at h9
                    refine S_seq ?_
                    refine s_rg ?_
                    refine s_op (o_mv rfl) ?_
                    refine s_nilO ?_
                    refine q_seqN ?_
                    refine s_keep [4] rfl ?_
                    refine s_ret ?_
                    refine q_seqR ?_
                    refine ret_leaf (.inr rfl) rfl rfl ?_
                    refine congrArg (fun b => V.w (.bool b)) ?_
                    cases x; cases y; simp_all
                  · intro h9
                    try rw [Decidable.not_not] at h9
                    refine s_skip ?_
                    refine q_seqN ?_
                    refine s_keep [2, 3] rfl ?_
                    refine S_seq ?_
                    refine S_seq ?_
                    refine s_rg ?_
                    refine s_op (o_faC rfl) ?_
                    refine s_op (o_ldnC rfl rfl rfl) ?_
                    refine s_op (o_faC rfl) ?_
                    refine s_op (o_ldnC rfl rfl rfl) ?_
                    first | refine s_call rfl rfl (c_124 _ _) ?_ | refine s_callL rfl rfl (by simp) (c_124 _ _) rfl ?_
                    refine s_op (o_not rfl) ?_
                    refine s_nilO ?_
                    refine q_seqN ?_
                    refine s_keep [2, 3, 60] rfl ?_
                    first | refine s_condD rfl ?_ ?_ | refine s_condN rfl ?_ ?_ | refine s_condNB rfl ?_ ?_ | refine s_condB rfl ?_ ?_
                    · intro h10
                      try rw [Decidable.not_not] at h10
                      refine S_seq ?_
                      refine s_rg ?_
                      refine s_op (o_mv rfl) ?_
                      refine s_nilO ?_
                      refine q_seqN ?_
                      refine s_keep [4] rfl ?_
                      refine s_ret ?_
                      refine q_seqR ?_
                      refine ret_leaf (.inr rfl) rfl rfl ?_
                      refine congrArg (fun b => V.w (.bool b)) ?_
                      cases x; cases y; simp_all
                    · intro h10
                      try rw [Decidable.not_not] at h10
                      refine s_skip ?_
                      refine q_seqN ?_
                      refine s_keep [2, 3] rfl ?_
                      refine S_seq ?_
                      refine S_seq ?_
                      refine s_rg ?_
                      refine s_op (o_faC rfl) ?_
                      refine s_op (o_ldnC rfl rfl rfl) ?_
                      refine s_op (o_faC rfl) ?_
                      refine s_op (o_ldnC rfl rfl rfl) ?_
                      first | refine s_call rfl rfl (c_124 _ _) ?_ | refine s_callL rfl rfl (by simp) (c_124 _ _) rfl ?_
                      refine s_op (o_not rfl) ?_
                      refine s_nilO ?_
                      refine q_seqN ?_
                      refine s_keep [2, 3, 66] rfl ?_
                      first | refine s_condD rfl ?_ ?_ | refine s_condN rfl ?_ ?_ | refine s_condNB rfl ?_ ?_ | refine s_condB rfl ?_ ?_
                      · intro h11
                        try rw [Decidable.not_not] at h11
                        refine S_seq ?_
                        refine s_rg ?_
                        refine s_op (o_mv rfl) ?_
                        refine s_nilO ?_
                        refine q_seqN ?_
                        refine s_keep [4] rfl ?_
                        refine s_ret ?_
                        refine q_seqR ?_
                        refine ret_leaf (.inr rfl) rfl rfl ?_
                        refine congrArg (fun b => V.w (.bool b)) ?_
                        cases x; cases y; simp_all
                      · intro h11
                        try rw [Decidable.not_not] at h11
                        refine s_skip ?_
                        refine q_seqN ?_
                        refine s_keep [2, 3] rfl ?_
                        refine S_seq ?_
                        refine S_seq ?_
                        refine s_rg ?_
                        refine s_op (o_faC rfl) ?_
                        refine s_op (o_ldnC rfl rfl rfl) ?_
                        refine s_op (o_faC rfl) ?_
                        refine s_op (o_ldnC rfl rfl rfl) ?_
                        first | refine s_call rfl rfl (c_135 _ _ hs.2.2.2.2.2.1) ?_ | refine s_callL rfl rfl (by simp) (c_135 _ _ hs.2.2.2.2.2.1) rfl ?_
                        refine s_op (o_not rfl) ?_
                        refine s_nilO ?_
                        refine q_seqN ?_
                        refine s_keep [2, 3, 72] rfl ?_
                        first | refine s_condD rfl ?_ ?_ | refine s_condN rfl ?_ ?_ | refine s_condNB rfl ?_ ?_ | refine s_condB rfl ?_ ?_
                        · intro h12
                          try rw [Decidable.not_not] at h12
                          refine S_seq ?_
                          refine s_rg ?_
                          refine s_op (o_mv rfl) ?_
                          refine s_nilO ?_
                          refine q_seqN ?_
                          refine s_keep [4] rfl ?_
                          refine s_ret ?_
                          refine q_seqR ?_
                          refine ret_leaf (.inr rfl) rfl rfl ?_
                          refine congrArg (fun b => V.w (.bool b)) ?_
                          cases x; cases y; simp_all
                        · intro h12
                          try rw [Decidable.not_not] at h12
                          refine s_skip ?_
                          refine q_seqN ?_
                          refine s_keep [2, 3] rfl ?_
                          refine S_seq ?_
                          refine S_seq ?_
                          refine s_rg ?_
                          refine s_op (o_faC rfl) ?_
                          refine s_op (o_ldC rfl rfl rfl) ?_
                          refine s_op (o_faC rfl) ?_
                          refine s_op (o_ldC rfl rfl rfl) ?_
                          first | refine s_op (o_neq rfl rfl) ?_ | refine s_op (o_bin rfl rfl rfl rfl) ?_
                          refine s_nilO ?_
                          refine q_seqN ?_
                          refine s_keep [2, 3, 77] rfl ?_
                          first | refine s_condD rfl ?_ ?_ | refine s_condN rfl ?_ ?_ | refine s_condNB rfl ?_ ?_ | refine s_condB rfl ?_ ?_
                          · intro h13
                            try rw [Decidable.not_not] at h13
                            refine S_seq ?_
                            refine s_rg ?_
                            refine s_op (o_mv rfl) ?_
                            refine s_nilO ?_
                            refine q_seqN ?_
                            refine s_keep [4] rfl ?_
                            refine s_ret ?_
                            refine q_seqR ?_
                            refine ret_leaf (.inr rfl) rfl rfl ?_
                            refine congrArg (fun b => V.w (.bool b)) ?_
                            cases x; cases y; simp_all
                          · intro h13
                            try rw [Decidable.not_not] at h13
                            refine s_skip ?_
                            refine q_seqN ?_
                            refine s_keep [2, 3] rfl ?_
                            refine S_seq ?_
                            refine S_seq ?_
                            refine s_rg ?_
                            refine s_op (o_faC rfl) ?_
                            refine s_op (o_ldC rfl rfl rfl) ?_
                            refine s_op (o_faC rfl) ?_
                            refine s_op (o_ldC rfl rfl rfl) ?_
                            first | refine s_call rfl rfl (c_131 _ _ hs.2.2.2.2.2.2) ?_ | refine s_callL rfl rfl (by simp) (c_131 _ _ hs.2.2.2.2.2.2) rfl ?_
                            refine s_op (o_not rfl) ?_
                            refine s_nilO ?_
                            refine q_seqN ?_
                            refine s_keep [83] rfl ?_
                            first | refine s_condD rfl ?_ ?_ | refine s_condN rfl ?_ ?_ | refine s_condNB rfl ?_ ?_ | refine s_condB rfl ?_ ?_
                            · intro h14
                              try rw [Decidable.not_not] at h14
                              refine S_seq ?_
                              refine s_rg ?_
                              refine s_op (o_mv rfl) ?_
                              refine s_nilO ?_
                              refine q_seqN ?_
                              refine s_keep [4] rfl ?_
                              refine s_ret ?_
                              refine q_seqR ?_
                              refine ret_leaf (.inr rfl) rfl rfl ?_
                              refine congrArg (fun b => V.w (.bool b)) ?_
                              cases x; cases y; simp_all
                            · intro h14
                              try rw [Decidable.not_not] at h14
                              refine s_skip ?_
                              refine q_seqN ?_
                              refine s_keep [] rfl ?_
                              refine S_seq ?_
                              refine s_rg ?_
                              refine s_op (o_mv rfl) ?_
                              refine s_nilO ?_
                              refine q_seqN ?_
                              refine s_keep [4] rfl ?_
                              refine s_ret ?_
                              refine ret_leaf (.inr rfl) rfl rfl ?_
                              refine congrArg (fun b => V.w (.bool b)) ?_
                              cases x; cases y; simp_all

theorem c_158 (x : Bus) (hs : x.small) : CV prg 158 [.agg x.r] (fun res => res = .agg x.r) := by
  refine cv_in g158 ?_
  refine s_keep [0] rfl ?_
  refine S_seq ?_
  refine s_rg ?_
  refine s_op (o_box rfl rfl rfl) ?_
  refine s_op (o_new rfl rfl) ?_
  refine s_nilO ?_
  refine q_seqN ?_
  refine s_keep [1, 2] rfl ?_
  refine S_seq ?_
  refine s_rg ?_
  refine s_op (o_new rfl rfl) ?_
  refine s_nilO ?_
  refine q_seqN ?_
  refine s_keep [1, 2, 3] rfl ?_
  refine S_seq ?_
  refine s_rg ?_
  refine s_op (o_faC rfl) ?_
  refine s_op (o_ldnC rfl rfl rfl) ?_
  first | refine s_call rfl rfl (c_159 _ hs.1) ?_ | refine s_callL rfl rfl (by simp) (c_159 _ hs.1) rfl ?_
  refine s_op (o_faC rfl) ?_
  refine s_opN (o_stnC rfl rfl rfl rfl rfl rfl rfl) ?_
  refine s_nilO ?_
  refine q_seqN ?_
  refine s_keep [1, 2, 3] rfl ?_
  refine S_seq ?_
  refine s_rg ?_
  refine s_op (o_faC rfl) ?_
  refine s_op (o_ldC rfl rfl rfl) ?_
  refine s_op (o_faC rfl) ?_
  refine s_opN (o_stC rfl rfl rfl rfl rfl rfl) ?_
  refine s_nilO ?_
  refine q_seqN ?_
  refine s_keep [1, 2, 3] rfl ?_
  refine S_seq ?_
  refine s_rg ?_
  refine s_op (o_faC rfl) ?_
  refine s_op (o_ldC rfl rfl rfl) ?_
  first | refine s_call rfl rfl (c_168 _ hs.2.1 hs.2.2.1) ?_ | refine s_callL rfl rfl (by simp) (c_168 _ hs.2.1 hs.2.2.1) rfl ?_
  refine s_op (o_faC rfl) ?_
  refine s_opN (o_stC rfl rfl rfl rfl rfl rfl) ?_
  refine s_nilO ?_
  refine q_seqN ?_
  refine s_keep [1, 2, 3] rfl ?_
  refine S_seq ?_
  refine s_rg ?_
  refine s_op (o_faC rfl) ?_
  refine s_op (o_ldnC rfl rfl rfl) ?_
  first | refine s_call rfl rfl (c_171 _) ?_ | refine s_callL rfl rfl (by simp) (c_171 _) rfl ?_
  refine s_op (o_faC rfl) ?_
  refine s_opN (o_stnC rfl rfl rfl rfl rfl rfl rfl) ?_
  refine s_nilO ?_
  refine q_seqN ?_
  refine s_keep [1, 2, 3] rfl ?_
  refine S_seq ?_
  refine s_rg ?_
  refine s_op (o_faC rfl) ?_
  refine s_op (o_ldC rfl rfl rfl) ?_
  first | refine s_call rfl rfl (c_157 _ hs.2.2.2.1) ?_ | refine s_callL rfl rfl (by simp) (c_157 _ hs.2.2.2.1) rfl ?_
  refine s_op (o_faC rfl) ?_
  refine s_opN (o_stC rfl rfl rfl rfl rfl rfl) ?_
  refine s_nilO ?_
  refine q_seqN ?_
  refine s_keep [1, 2, 3] rfl ?_
  refine S_seq ?_
  refine s_rg ?_
  refine s_op (o_faC rfl) ?_
  refine s_op (o_ldC rfl rfl rfl) ?_
  first | refine s_call rfl rfl (c_163 _ hs.2.2.2.2.1) ?_ | refine s_callL rfl rfl (by simp) (c_163 _ hs.2.2.2.2.1) rfl ?_
  refine s_op (o_faC rfl) ?_
  refine s_opN (o_stC rfl rfl rfl rfl rfl rfl) ?_
  refine s_nilO ?_
  refine q_seqN ?_
  refine s_keep [1, 2, 3] rfl ?_
  refine S_seq ?_
  refine s_rg ?_
  refine s_op (o_faC rfl) ?_
  refine s_op (o_ldC rfl rfl rfl) ?_
  refine s_op (o_faC rfl) ?_
  refine s_opN (o_stC rfl rfl rfl rfl rfl rfl) ?_
  refine s_nilO ?_
  refine q_seqN ?_
  refine s_keep [1, 2, 3] rfl ?_
  refine S_seq ?_
  refine s_rg ?_
  refine s_op (o_faC rfl) ?_
  refine s_op (o_ldC rfl rfl rfl) ?_
  refine s_op (o_faC rfl) ?_
  refine s_opN (o_stC rfl rfl rfl rfl rfl rfl) ?_
  refine s_nilO ?_
  refine q_seqN ?_
  refine s_keep [1, 2, 3] rfl ?_
  refine S_seq ?_
  refine s_rg ?_
  refine s_op (o_faC rfl) ?_
  refine s_op (o_ldC rfl rfl rfl) ?_
  refine s_op (o_faC rfl) ?_
  refine s_opN (o_stC rfl rfl rfl rfl rfl rfl) ?_
  refine s_nilO ?_
  refine q_seqN ?_
  refine s_keep [1, 2, 3] rfl ?_
  refine S_seq ?_
  refine s_rg ?_
  refine s_op (o_faC rfl) ?_
  refine s_op (o_ldnC rfl rfl rfl) ?_
  first | refine s_call rfl rfl (c_155 _) ?_ | refine s_callL rfl rfl (by simp) (c_155 _) rfl ?_
  refine s_op (o_faC rfl) ?_
  refine s_opN (o_stnC rfl rfl rfl rfl rfl rfl rfl) ?_
  refine s_nilO ?_
  refine q_seqN ?_
  refine s_keep [1, 2, 3] rfl ?_
  refine S_seq ?_
  refine s_rg ?_
  refine s_op (o_faC rfl) ?_
  refine s_op (o_ldnC rfl rfl rfl) ?_
  first | refine s_call rfl rfl (c_155 _) ?_ | refine s_callL rfl rfl (by simp) (c_155 _) rfl ?_
  refine s_op (o_faC rfl) ?_
  refine s_opN (o_stnC rfl rfl rfl rfl rfl rfl rfl) ?_
  refine s_nilO ?_
  refine q_seqN ?_
  refine s_keep [1, 2, 3] rfl ?_
  refine S_seq ?_
  refine s_rg ?_
  refine s_op (o_faC rfl) ?_
  refine s_op (o_ldnC rfl rfl rfl) ?_
  first | refine s_call rfl rfl (c_166 _ hs.2.2.2.2.2.1) ?_ | refine s_callL rfl rfl (by simp) (c_166 _ hs.2.2.2.2.2.1) rfl ?_
  refine s_op (o_faC rfl) ?_
  refine s_opN (o_stnC rfl rfl rfl rfl rfl rfl rfl) ?_
  refine s_nilO ?_
  refine q_seqN ?_
  refine s_keep [1, 2, 3] rfl ?_
  refine S_seq ?_
  refine s_rg ?_
  refine s_op (o_faC rfl) ?_
  refine s_op (o_ldC rfl rfl rfl) ?_
  refine s_op (o_faC rfl) ?_
  refine s_opN (o_stC rfl rfl rfl rfl rfl rfl) ?_
  refine s_nilO ?_
  refine q_seqN ?_
  refine s_keep [1, 2, 3] rfl ?_
  refine S_seq ?_
  refine s_rg ?_
  refine s_op (o_faC rfl) ?_
  refine s_op (o_ldC rfl rfl rfl) ?_
  first | refine s_call rfl rfl (c_162 _ hs.2.2.2.2.2.2) ?_ | refine s_callL rfl rfl (by simp) (c_162 _ hs.2.2.2.2.2.2) rfl ?_
  refine s_op (o_faC rfl) ?_
  refine s_opN (o_stC rfl rfl rfl rfl rfl rfl) ?_
  refine s_nilO ?_
  refine q_seqN ?_
  refine s_keep [2, 3] rfl ?_
  refine S_seq ?_
  refine s_rg ?_
  refine s_op (o_ldnC rfl rfl rfl) ?_
  refine s_opN (o_stnC rfl rfl rfl rfl rfl rfl rfl) ?_
  refine s_nilO ?_
  refine q_seqN ?_
  refine s_keep [2] rfl ?_
  refine s_ret ?_
  refine ret_leaf (.inr rfl) rfl rfl ?_
  rfl

theorem c_144 (x : Bus) (left : Int) (h : -1 ≤ left ∧ left ≤ 1048576) (hw : x.wf) : CV prg 144 [.agg x.r, .w (.int .i64 left)] (fun res => res = .w (.int .i64 (room left x.sz))) := by
  refine cv_in g144 ?_
  refine s_keep [0, 1] rfl ?_
  refine S_seq ?_
  refine s_rg ?_
  refine s_op (o_box rfl rfl rfl) ?_
  refine s_op (o_mv rfl) ?_
  refine s_nilO ?_
  refine q_seqN ?_
  refine s_keep [1, 2] rfl ?_
  refine S_seq ?_
  refine s_rg ?_
  refine s_op (o_faC rfl) ?_
  refine s_op (o_ldnC rfl rfl rfl) ?_
  refine s_op (o_mv rfl) ?_
  first | refine s_call rfl rfl (c_145 _ _ (by (try unfold room at *); omega) hw.1) ?_ | refine s_callL rfl rfl (by simp) (c_145 _ _ (by (try unfold room at *); omega) hw.1) rfl ?_
  refine s_op (o_mv rfl) ?_
  refine s_nilO ?_
  refine q_seqN ?_
  refine s_keep [1, 2] rfl ?_
  refine S_seq ?_
  refine S_seq ?_
  refine s_rg ?_
  refine s_op (o_mv rfl) ?_
  first | refine s_op (o_lss rfl rfl) ?_ | refine s_op (o_bin rfl rfl rfl rfl) ?_
  refine s_nilO ?_
  refine q_seqN ?_
  refine s_keep [1, 2, 10] rfl ?_
  first | refine s_condD rfl ?_ ?_ | refine s_condN rfl ?_ ?_ | refine s_condNB rfl ?_ ?_ | refine s_condB rfl ?_ ?_
  · intro h1
    try rw [Decidable.not_not] at h1
    refine S_seq ?_
    refine s_rg ?_
    refine s_op (o_mv rfl) ?_
    refine s_nilO ?_
    refine q_seqN ?_
    refine s_keep [4] rfl ?_
    refine s_ret ?_
    refine q_seqR ?_
    refine ret_leaf (.inr rfl) rfl rfl ?_
    refine congrArg (fun b => V.w (.int .i64 b)) ?_
    unfold Bus.sz; (try unfold room at *); omega
  · intro h1
    try rw [Decidable.not_not] at h1
    refine s_skip ?_
    refine q_seqN ?_
    refine s_keep [1, 2] rfl ?_
    refine S_seq ?_
    refine s_rg ?_
    refine s_op (o_faC rfl) ?_
    refine s_op (o_ldC rfl rfl rfl) ?_
    refine s_op (o_mv rfl) ?_
    first | refine s_call rfl rfl (c_152 _ _ (by (try unfold room at *); omega) hw.2.2.1.1 hw.2.2.1.2) ?_ | refine s_callL rfl rfl (by simp) (c_152 _ _ (by (try unfold room at *); omega) hw.2.2.1.1 hw.2.2.1.2) rfl ?_
    refine s_op (o_mv rfl) ?_
    refine s_nilO ?_
    refine q_seqN ?_
    refine s_keep [1, 2] rfl ?_
    refine S_seq ?_
    refine S_seq ?_
    refine s_rg ?_
    refine s_op (o_mv rfl) ?_
    first | refine s_op (o_lss rfl rfl) ?_ | refine s_op (o_bin rfl rfl rfl rfl) ?_
    refine s_nilO ?_
    refine q_seqN ?_
    refine s_keep [1, 2, 16] rfl ?_
    first | refine s_condD rfl ?_ ?_ | refine s_condN rfl ?_ ?_ | refine s_condNB rfl ?_ ?_ | refine s_condB rfl ?_ ?_
    · intro h2
      try rw [Decidable.not_not] at h2
      refine S_seq ?_
      refine s_rg ?_
      refine s_op (o_mv rfl) ?_
      refine s_nilO ?_
      refine q_seqN ?_
      refine s_keep [4] rfl ?_
      refine s_ret ?_
      refine q_seqR ?_
      refine ret_leaf (.inr rfl) rfl rfl ?_
      refine congrArg (fun b => V.w (.int .i64 b)) ?_
      unfold Bus.sz; (try unfold room at *); omega
    · intro h2
      try rw [Decidable.not_not] at h2
      refine s_skip ?_
      refine q_seqN ?_
      refine s_keep [1, 2] rfl ?_
      refine S_seq ?_
      refine s_rg ?_
      refine s_op (o_faC rfl) ?_
      refine s_op (o_ldC rfl rfl rfl) ?_
      refine s_op (o_mv rfl) ?_
      first | refine s_call rfl rfl (c_143 _ _ (by (try unfold room at *); omega) hw.2.2.2.2.1.1) ?_ | refine s_callL rfl rfl (by simp) (c_143 _ _ (by (try unfold room at *); omega) hw.2.2.2.2.1.1) rfl ?_
      refine s_op (o_mv rfl) ?_
      refine s_nilO ?_
      refine q_seqN ?_
      refine s_keep [1, 2] rfl ?_
      refine S_seq ?_
      refine S_seq ?_
      refine s_rg ?_
      refine s_op (o_mv rfl) ?_
      first | refine s_op (o_lss rfl rfl) ?_ | refine s_op (o_bin rfl rfl rfl rfl) ?_
      refine s_nilO ?_
      refine q_seqN ?_
      refine s_keep [1, 2, 22] rfl ?_
      first | refine s_condD rfl ?_ ?_ | refine s_condN rfl ?_ ?_ | refine s_condNB rfl ?_ ?_ | refine s_condB rfl ?_ ?_
      · intro h3
        try rw [Decidable.not_not] at h3
        refine S_seq ?_
        refine s_rg ?_
        refine s_op (o_mv rfl) ?_
        refine s_nilO ?_
        refine q_seqN ?_
        refine s_keep [4] rfl ?_
        refine s_ret ?_
        refine q_seqR ?_
        refine ret_leaf (.inr rfl) rfl rfl ?_
        refine congrArg (fun b => V.w (.int .i64 b)) ?_
        unfold Bus.sz; (try unfold room at *); omega
      · intro h3
        try rw [Decidable.not_not] at h3
        refine s_skip ?_
        refine q_seqN ?_
        refine s_keep [1, 2] rfl ?_
        refine S_seq ?_
        refine s_rg ?_
        refine s_op (o_faC rfl) ?_
        refine s_op (o_ldC rfl rfl rfl) ?_
        refine s_op (o_mv rfl) ?_
        first | refine s_call rfl rfl (c_148 _ _ (by (try unfold room at *); omega) hw.2.2.2.2.2.1.1) ?_ | refine s_callL rfl rfl (by simp) (c_148 _ _ (by (try unfold room at *); omega) hw.2.2.2.2.2.1.1) rfl ?_
        refine s_op (o_mv rfl) ?_
        refine s_nilO ?_
        refine q_seqN ?_
        refine s_keep [1, 2] rfl ?_
        refine S_seq ?_
        refine S_seq ?_
        refine s_rg ?_
        refine s_op (o_mv rfl) ?_
        first | refine s_op (o_lss rfl rfl) ?_ | refine s_op (o_bin rfl rfl rfl rfl) ?_
        refine s_nilO ?_
        refine q_seqN ?_
        refine s_keep [1, 2, 28] rfl ?_
        first | refine s_condD rfl ?_ ?_ | refine s_condN rfl ?_ ?_ | refine s_condNB rfl ?_ ?_ | refine s_condB rfl ?_ ?_
        · intro h4
          try rw [Decidable.not_not] at h4
          refine S_seq ?_
          refine s_rg ?_
          refine s_op (o_mv rfl) ?_
          refine s_nilO ?_
          refine q_seqN ?_
          refine s_keep [4] rfl ?_
          refine s_ret ?_
          refine q_seqR ?_
          refine ret_leaf (.inr rfl) rfl rfl ?_
          refine congrArg (fun b => V.w (.int .i64 b)) ?_
          unfold Bus.sz; (try unfold room at *); omega
        · intro h4
          try rw [Decidable.not_not] at h4
          refine s_skip ?_
          refine q_seqN ?_
          refine s_keep [1, 2] rfl ?_
          refine S_seq ?_
          refine s_rg ?_
          refine s_op (o_faC rfl) ?_
          refine s_op (o_ldnC rfl rfl rfl) ?_
          refine s_op (o_mv rfl) ?_
          first | refine s_call rfl rfl (c_150 _ _ (by (try unfold room at *); omega) hw.2.2.2.2.2.2.2.2.2.2.2.1) ?_ | refine s_callL rfl rfl (by simp) (c_150 _ _ (by (try unfold room at *); omega) hw.2.2.2.2.2.2.2.2.2.2.2.1) rfl ?_
          refine s_op (o_mv rfl) ?_
          refine s_nilO ?_
          refine q_seqN ?_
          refine s_keep [1, 2] rfl ?_
          refine S_seq ?_
          refine S_seq ?_
          refine s_rg ?_
          refine s_op (o_mv rfl) ?_
          first | refine s_op (o_lss rfl rfl) ?_ | refine s_op (o_bin rfl rfl rfl rfl) ?_
          refine s_nilO ?_
          refine q_seqN ?_
          refine s_keep [1, 2, 34] rfl ?_
          first | refine s_condD rfl ?_ ?_ | refine s_condN rfl ?_ ?_ | refine s_condNB rfl ?_ ?_ | refine s_condB rfl ?_ ?_
          · intro h5
            try rw [Decidable.not_not] at h5
            refine S_seq ?_
            refine s_rg ?_
            refine s_op (o_mv rfl) ?_
            refine s_nilO ?_
            refine q_seqN ?_
            refine s_keep [4] rfl ?_
            refine s_ret ?_
            refine q_seqR ?_
            refine ret_leaf (.inr rfl) rfl rfl ?_
            refine congrArg (fun b => V.w (.int .i64 b)) ?_
            unfold Bus.sz; (try unfold room at *); omega
          · intro h5
            try rw [Decidable.not_not] at h5
            refine s_skip ?_
            refine q_seqN ?_
            refine s_keep [1, 2] rfl ?_
            refine S_seq ?_
            refine s_rg ?_
            refine s_op (o_faC rfl) ?_
            refine s_op (o_ldC rfl rfl rfl) ?_
            refine s_op (o_mv rfl) ?_
            first | refine s_call rfl rfl (c_147 _ _ (by (try unfold room at *); omega) hw.2.2.2.2.2.2.2.2.2.2.2.2.2.1) ?_ | refine s_callL rfl rfl (by simp) (c_147 _ _ (by (try unfold room at *); omega) hw.2.2.2.2.2.2.2.2.2.2.2.2.2.1) rfl ?_
            refine s_op (o_mv rfl) ?_
            refine s_nilO ?_
            refine q_seqN ?_
            refine s_keep [1] rfl ?_
            refine S_seq ?_
            refine S_seq ?_
            refine s_rg ?_
            refine s_op (o_mv rfl) ?_
            first | refine s_op (o_lss rfl rfl) ?_ | refine s_op (o_bin rfl rfl rfl rfl) ?_
            refine s_nilO ?_
            refine q_seqN ?_
            refine s_keep [1, 40] rfl ?_
            first | refine s_condD rfl ?_ ?_ | refine s_condN rfl ?_ ?_ | refine s_condNB rfl ?_ ?_ | refine s_condB rfl ?_ ?_
            · intro h6
              try rw [Decidable.not_not] at h6
              refine S_seq ?_
              refine s_rg ?_
              refine s_op (o_mv rfl) ?_
              refine s_nilO ?_
              refine q_seqN ?_
              refine s_keep [4] rfl ?_
              refine s_ret ?_
              refine q_seqR ?_
              refine ret_leaf (.inr rfl) rfl rfl ?_
              refine congrArg (fun b => V.w (.int .i64 b)) ?_
              unfold Bus.sz; (try unfold room at *); omega
            · intro h6
              try rw [Decidable.not_not] at h6
              refine s_skip ?_
              refine q_seqN ?_
              refine s_keep [1] rfl ?_
              refine S_seq ?_
              refine s_rg ?_
              refine s_op (o_mv rfl) ?_
              refine s_op (o_mv rfl) ?_
              refine s_nilO ?_
              refine q_seqN ?_
              refine s_keep [4] rfl ?_
              refine s_ret ?_
              refine ret_leaf (.inr rfl) rfl rfl ?_
              refine congrArg (fun b => V.w (.int .i64 b)) ?_
              unfold Bus.sz; (try unfold room at *); omega

def MConf.beq (x y : MConf) : Bool := ((x.weight == y.weight) && ((x.prio == y.prio) && ((x.every == y.every) && ((x.cap == y.cap) && true))))

theorem MConf.of_beq {x y : MConf} (h : MConf.beq x y = true) : x = y := by
  cases x; cases y; simp_all [MConf.beq]

theorem MConf.no_beq {x y : MConf} (h : MConf.beq x y = false) : x ≠ y := by
  rintro rfl; simp [MConf.beq] at h

theorem MConf.beq_dec (x y : MConf) : MConf.beq x y = decide (x = y) := by
  cases h : MConf.beq x y
  · exact (decide_eq_false (MConf.no_beq h)).symm
  · exact (decide_eq_true (MConf.of_beq h)).symm

def Bucket.beq (x y : Bucket) : Bool := ((x.tokens == y.tokens) && ((x.count == y.count) && true))

theorem Bucket.of_beq {x y : Bucket} (h : Bucket.beq x y = true) : x = y := by
  cases x; cases y; simp_all [Bucket.beq]

theorem Bucket.no_beq {x y : Bucket} (h : Bucket.beq x y = false) : x ≠ y := by
  rintro rfl; simp [Bucket.beq] at h

theorem Bucket.beq_dec (x y : Bucket) : Bucket.beq x y = decide (x = y) := by
  cases h : Bucket.beq x y
  · exact (decide_eq_false (Bucket.no_beq h)).symm
  · exact (decide_eq_true (Bucket.of_beq h)).symm

def Beat.beq (x y : Beat) : Bool := ((x.live == y.live) && ((x.who == y.who) && ((x.num == y.num) && ((x.first == y.first) && ((x.via == y.via) && ((x.left == y.left) && ((x.resp == y.resp) && ((x.second == y.second) && true))))))))

theorem Beat.of_beq {x y : Beat} (h : Beat.beq x y = true) : x = y := by
  cases x; cases y; simp_all [Beat.beq]

theorem Beat.no_beq {x y : Beat} (h : Beat.beq x y = false) : x ≠ y := by
  rintro rfl; simp [Beat.beq] at h

theorem Beat.beq_dec (x y : Beat) : Beat.beq x y = decide (x = y) := by
  cases h : Beat.beq x y
  · exact (decide_eq_false (Beat.no_beq h)).symm
  · exact (decide_eq_true (Beat.of_beq h)).symm

def Wrr.beq (x y : Wrr) : Bool := ((x.pos == y.pos) && ((x.credit == y.credit) && true))

theorem Wrr.of_beq {x y : Wrr} (h : Wrr.beq x y = true) : x = y := by
  cases x; cases y; simp_all [Wrr.beq]

theorem Wrr.no_beq {x y : Wrr} (h : Wrr.beq x y = false) : x ≠ y := by
  rintro rfl; simp [Wrr.beq] at h

theorem Wrr.beq_dec (x y : Wrr) : Wrr.beq x y = decide (x = y) := by
  cases h : Wrr.beq x y
  · exact (decide_eq_false (Wrr.no_beq h)).symm
  · exact (decide_eq_true (Wrr.of_beq h)).symm

theorem c_402 (xs ys : List MConf) (hl : xs.length ≤ 1048576) : CV prg 402 [.sl 4 (xs.map MConf.r), .sl 4 (ys.map MConf.r)] (fun res => res = .w (.bool (decide (xs = ys)))) := by
  refine cv_in g402 ?_
  refine s_keep [0, 1] rfl ?_
  refine S_seq ?_
  refine s_rg ?_
  refine s_op (o_mv rfl) ?_
  refine s_nilO ?_
  refine q_seqN ?_
  refine s_keep [0, 1] rfl ?_
  refine S_seq ?_
  refine S_seq ?_
  refine s_rg ?_
  refine s_op (o_mv rfl) ?_
  first | refine s_op (o_lenM rfl) ?_ | refine s_op (o_len rfl) ?_
  refine s_op (o_mv rfl) ?_
  first | refine s_op (o_lenM rfl) ?_ | refine s_op (o_len rfl) ?_
  first | refine s_op (o_neq rfl rfl) ?_ | refine s_op (o_bin rfl rfl rfl rfl) ?_
  refine s_nilO ?_
  refine q_seqN ?_
  refine s_keep [0, 1, 10] rfl ?_
  first | refine s_condD rfl ?_ ?_ | refine s_condN rfl ?_ ?_ | refine s_condNB rfl ?_ ?_ | refine s_condB rfl ?_ ?_
  · intro h1
    try rw [Decidable.not_not] at h1
    refine S_seq ?_
    refine s_rg ?_
    refine s_op (o_mv rfl) ?_
    refine s_nilO ?_
    refine q_seqN ?_
    refine s_keep [4] rfl ?_
    refine s_ret ?_
    refine q_seqR ?_
    refine ret_leaf (.inr rfl) rfl rfl ?_
    refine congrArg (fun b => V.w (.bool b)) ?_
    first | exact (decide_eq_false (ne_at (by assumption) (by assumption) (MConf.no_beq (by assumption)))).symm | exact (decide_eq_true (eq_end hi.2.1 (by omega) hi.2.2)).symm | exact (decide_eq_false (fun e => by subst e; simp_all)).symm
  · intro h1
    try rw [Decidable.not_not] at h1
    refine s_skip ?_
    refine q_seqN ?_
    refine s_keep [0, 1] rfl ?_
    refine S_seq ?_
    refine S_seq ?_
    refine s_rg ?_
    refine s_op (o_mv rfl) ?_
    first | refine s_op (o_lenM rfl) ?_ | refine s_op (o_len rfl) ?_
    refine s_op (o_mv rfl) ?_
    refine s_nilO ?_
    refine q_seqN ?_
    refine s_keep [0, 1, 12, 13] rfl ?_
    refine S_block ?_
    refine S_loop0 (ι := Nat) (fun i => i ≤ xs.length ∧ xs.take i = ys.take i ∧ xs.length = ys.length) (fun i => [(13, .w (.int .i64 (i : Int)))]) (fun i => xs.length - i) 0 ⟨by simp, by simp, by omega⟩ rfl ⟨rfl, trivial⟩ (fun _ _ => rfl) rfl ?_
    intro i hi
    refine s_keep [0, 1, 12, 13] rfl ?_
    refine S_seq ?_
    refine s_rg ?_
    first | refine s_op (o_lss rfl rfl) ?_ | refine s_op (o_bin rfl rfl rfl rfl) ?_
    refine s_nilO ?_
    refine q_seqN ?_
    refine s_keep [0, 1, 12, 13, 14] rfl ?_
    refine S_seq ?_
    first | refine s_condD rfl ?_ ?_ | refine s_condN rfl ?_ ?_ | refine s_condNB rfl ?_ ?_ | refine s_condB rfl ?_ ?_
    · intro h2
      try rw [Decidable.not_not] at h2
      refine s_skip ?_
      refine q_seqN ?_
      refine s_keep [0, 1, 12, 13] rfl ?_
      refine S_seq ?_
      refine S_block ?_
      refine S_seq ?_
      refine s_rg ?_
      refine s_op (o_mv rfl) ?_
      refine s_op (o_mv rfl) ?_
      refine s_nilO ?_
      refine q_seqN ?_
      refine s_keep [0, 1, 5, 12, 13] rfl ?_
      refine S_seq ?_
      refine s_rg ?_
      refine s_op (o_mv rfl) ?_
      refine s_op (o_mv rfl) ?_
      refine s_iaM rfl rfl (by omega) ?_
      intro y3 e3
      try simp only [Int.toNat_natCast, Int.toNat_zero] at e3
      refine s_op (o_ldn rfl rfl) ?_
      refine s_op (o_mv rfl) ?_
      refine s_op (o_mv rfl) ?_
      refine s_iaM rfl rfl (by omega) ?_
      intro y4 e4
      try simp only [Int.toNat_natCast, Int.toNat_zero] at e4
      refine s_op (o_ldn rfl rfl) ?_
      refine s_op (o_eqs rfl rfl rfl rfl rfl) ?_
      refine s_nilO ?_
      refine q_seqN ?_
      refine s_keep [0, 1, 12, 13, 24] rfl ?_
      first | refine s_condD rfl ?_ ?_ | refine s_condN rfl ?_ ?_ | refine s_condNB rfl ?_ ?_ | refine s_condB rfl ?_ ?_
      · intro h5
        try rw [Decidable.not_not] at h5
        refine S_seq ?_
        refine s_rg ?_
        refine s_op (o_mv rfl) ?_
        refine s_nilO ?_
        refine q_seqN ?_
        refine s_keep [4] rfl ?_
        refine s_ret ?_
        refine q_blkR ?_
        refine q_seqR ?_
        refine q_loopR ?_
        refine q_blkR ?_
        refine q_seqR ?_
        refine ret_leaf (.inr rfl) rfl rfl ?_
        refine congrArg (fun b => V.w (.bool b)) ?_
        first | exact (decide_eq_false (ne_at (by assumption) (by assumption) (MConf.no_beq (by assumption)))).symm | exact (decide_eq_true (eq_end hi.2.1 (by omega) hi.2.2)).symm | exact (decide_eq_false (fun e => by subst e; simp_all)).symm
      · intro h5
        try rw [Decidable.not_not] at h5
        refine s_skip ?_
        refine q_blkN ?_
        refine q_seqN ?_
        refine s_keep [0, 1, 12, 13] rfl ?_
        refine s_rg ?_
        first | refine s_op (o_addn rfl rfl (by omega)) ?_ | refine s_op (o_add rfl rfl) ?_
        refine s_op (o_mv rfl) ?_
        refine s_nilO ?_
        refine q_loopN ?_
        exact ⟨i + 1, ⟨by omega, eq_take (by assumption) (by assumption) hi.2.1 (MConf.of_beq (by assumption)), hi.2.2⟩, by omega, hasOf ⟨rfl, trivial⟩ rfl⟩
    · intro h2
      try rw [Decidable.not_not] at h2
      refine s_exit ?_
      refine q_seqX ?_
      refine q_loopX ?_
      refine q_blkH ?_
      refine q_seqN ?_
      refine s_keep [] rfl ?_
      refine S_seq ?_
      refine s_rg ?_
      refine s_op (o_mv rfl) ?_
      refine s_nilO ?_
      refine q_seqN ?_
      refine s_keep [4] rfl ?_
      refine s_ret ?_
      refine ret_leaf (.inr rfl) rfl rfl ?_
      refine congrArg (fun b => V.w (.bool b)) ?_
      first | exact (decide_eq_false (ne_at (by assumption) (by assumption) (MConf.no_beq (by assumption)))).symm | exact (decide_eq_true (eq_end hi.2.1 (by omega) hi.2.2)).symm | exact (decide_eq_false (fun e => by subst e; simp_all)).symm

theorem c_386 (xs ys : List Bucket) (hl : xs.length ≤ 1048576) : CV prg 386 [.sl 2 (xs.map Bucket.r), .sl 2 (ys.map Bucket.r)] (fun res => res = .w (.bool (decide (xs = ys)))) := by
  refine cv_in g386 ?_
  refine s_keep [0, 1] rfl ?_
  refine S_seq ?_
  refine s_rg ?_
  refine s_op (o_mv rfl) ?_
  refine s_nilO ?_
  refine q_seqN ?_
  refine s_keep [0, 1] rfl ?_
  refine S_seq ?_
  refine S_seq ?_
  refine s_rg ?_
  refine s_op (o_mv rfl) ?_
  first | refine s_op (o_lenM rfl) ?_ | refine s_op (o_len rfl) ?_
  refine s_op (o_mv rfl) ?_
  first | refine s_op (o_lenM rfl) ?_ | refine s_op (o_len rfl) ?_
  first | refine s_op (o_neq rfl rfl) ?_ | refine s_op (o_bin rfl rfl rfl rfl) ?_
  refine s_nilO ?_
  refine q_seqN ?_
  refine s_keep [0, 1, 10] rfl ?_
  first | refine s_condD rfl ?_ ?_ | refine s_condN rfl ?_ ?_ | refine s_condNB rfl ?_ ?_ | refine s_condB rfl ?_ ?_
  · intro h1
    try rw [Decidable.not_not] at h1
    refine S_seq ?_
    refine s_rg ?_
    refine s_op (o_mv rfl) ?_
    refine s_nilO ?_
    refine q_seqN ?_
    refine s_keep [4] rfl ?_
    refine s_ret ?_
    refine q_seqR ?_
    refine ret_leaf (.inr rfl) rfl rfl ?_
    refine congrArg (fun b => V.w (.bool b)) ?_
    first | exact (decide_eq_false (ne_at (by assumption) (by assumption) (Bucket.no_beq (by assumption)))).symm | exact (decide_eq_true (eq_end hi.2.1 (by omega) hi.2.2)).symm | exact (decide_eq_false (fun e => by subst e; simp_all)).symm
  · intro h1
    try rw [Decidable.not_not] at h1
    refine s_skip ?_
    refine q_seqN ?_
    refine s_keep [0, 1] rfl ?_
    refine S_seq ?_
    refine S_seq ?_
    refine s_rg ?_
    refine s_op (o_mv rfl) ?_
    first | refine s_op (o_lenM rfl) ?_ | refine s_op (o_len rfl) ?_
    refine s_op (o_mv rfl) ?_
    refine s_nilO ?_
    refine q_seqN ?_
    refine s_keep [0, 1, 12, 13] rfl ?_
    refine S_block ?_
    refine S_loop0 (ι := Nat) (fun i => i ≤ xs.length ∧ xs.take i = ys.take i ∧ xs.length = ys.length) (fun i => [(13, .w (.int .i64 (i : Int)))]) (fun i => xs.length - i) 0 ⟨by simp, by simp, by omega⟩ rfl ⟨rfl, trivial⟩ (fun _ _ => rfl) rfl ?_
    intro i hi
    refine s_keep [0, 1, 12, 13] rfl ?_
    refine S_seq ?_
    refine s_rg ?_
    first | refine s_op (o_lss rfl rfl) ?_ | refine s_op (o_bin rfl rfl rfl rfl) ?_
    refine s_nilO ?_
    refine q_seqN ?_
    refine s_keep [0, 1, 12, 13, 14] rfl ?_
    refine S_seq ?_
    first | refine s_condD rfl ?_ ?_ | refine s_condN rfl ?_ ?_ | refine s_condNB rfl ?_ ?_ | refine s_condB rfl ?_ ?_
    · intro h2
      try rw [Decidable.not_not] at h2
      refine s_skip ?_
      refine q_seqN ?_
      refine s_keep [0, 1, 12, 13] rfl ?_
      refine S_seq ?_
      refine S_block ?_
      refine S_seq ?_
      refine s_rg ?_
      refine s_op (o_mv rfl) ?_
      refine s_op (o_mv rfl) ?_
      refine s_nilO ?_
      refine q_seqN ?_
      refine s_keep [0, 1, 5, 12, 13] rfl ?_
      refine S_seq ?_
      refine s_rg ?_
      refine s_op (o_mv rfl) ?_
      refine s_op (o_mv rfl) ?_
      refine s_iaM rfl rfl (by omega) ?_
      intro y3 e3
      try simp only [Int.toNat_natCast, Int.toNat_zero] at e3
      refine s_op (o_ldn rfl rfl) ?_
      refine s_op (o_mv rfl) ?_
      refine s_op (o_mv rfl) ?_
      refine s_iaM rfl rfl (by omega) ?_
      intro y4 e4
      try simp only [Int.toNat_natCast, Int.toNat_zero] at e4
      refine s_op (o_ldn rfl rfl) ?_
      refine s_op (o_eqs rfl rfl rfl rfl rfl) ?_
      refine s_nilO ?_
      refine q_seqN ?_
      refine s_keep [0, 1, 12, 13, 24] rfl ?_
      first | refine s_condD rfl ?_ ?_ | refine s_condN rfl ?_ ?_ | refine s_condNB rfl ?_ ?_ | refine s_condB rfl ?_ ?_
      · intro h5
        try rw [Decidable.not_not] at h5
        refine S_seq ?_
        refine s_rg ?_
        refine s_op (o_mv rfl) ?_
        refine s_nilO ?_
        refine q_seqN ?_
        refine s_keep [4] rfl ?_
        refine s_ret ?_
        refine q_blkR ?_
        refine q_seqR ?_
        refine q_loopR ?_
        refine q_blkR ?_
        refine q_seqR ?_
        refine ret_leaf (.inr rfl) rfl rfl ?_
        refine congrArg (fun b => V.w (.bool b)) ?_
        first | exact (decide_eq_false (ne_at (by assumption) (by assumption) (Bucket.no_beq (by assumption)))).symm | exact (decide_eq_true (eq_end hi.2.1 (by omega) hi.2.2)).symm | exact (decide_eq_false (fun e => by subst e; simp_all)).symm
      · intro h5
        try rw [Decidable.not_not] at h5
        refine s_skip ?_
        refine q_blkN ?_
        refine q_seqN ?_
        refine s_keep [0, 1, 12, 13] rfl ?_
        refine s_rg ?_
        first | refine s_op (o_addn rfl rfl (by omega)) ?_ | refine s_op (o_add rfl rfl) ?_
        refine s_op (o_mv rfl) ?_
        refine s_nilO ?_
        refine q_loopN ?_
        exact ⟨i + 1, ⟨by omega, eq_take (by assumption) (by assumption) hi.2.1 (Bucket.of_beq (by assumption)), hi.2.2⟩, by omega, hasOf ⟨rfl, trivial⟩ rfl⟩
    · intro h2
      try rw [Decidable.not_not] at h2
      refine s_exit ?_
      refine q_seqX ?_
      refine q_loopX ?_
      refine q_blkH ?_
      refine q_seqN ?_
      refine s_keep [] rfl ?_
      refine S_seq ?_
      refine s_rg ?_
      refine s_op (o_mv rfl) ?_
      refine s_nilO ?_
      refine q_seqN ?_
      refine s_keep [4] rfl ?_
      refine s_ret ?_
      refine ret_leaf (.inr rfl) rfl rfl ?_
      refine congrArg (fun b => V.w (.bool b)) ?_
      first | exact (decide_eq_false (ne_at (by assumption) (by assumption) (Bucket.no_beq (by assumption)))).symm | exact (decide_eq_true (eq_end hi.2.1 (by omega) hi.2.2)).symm | exact (decide_eq_false (fun e => by subst e; simp_all)).symm

theorem c_385 (xs ys : List Mst) (hl : xs.length ≤ 1048576) (f : Nat) (h : ∀ x y, x ∈ xs → CV prg f [.agg (Mst.r x), .agg (Mst.r y)] (fun v => v = .w (.bool (decide (x = y))))) : CV prg 385 [.sl 6 (xs.map Mst.r), .sl 6 (ys.map Mst.r), .fn f []] (fun res => res = .w (.bool (decide (xs = ys)))) := by
  refine cv_in g385 ?_
  refine s_keep [0, 1, 2] rfl ?_
  refine S_seq ?_
  refine s_rg ?_
  refine s_op (o_mv rfl) ?_
  refine s_nilO ?_
  refine q_seqN ?_
  refine s_keep [0, 1, 2] rfl ?_
  refine S_seq ?_
  refine S_seq ?_
  refine s_rg ?_
  refine s_op (o_mv rfl) ?_
  first | refine s_op (o_lenM rfl) ?_ | refine s_op (o_len rfl) ?_
  refine s_op (o_mv rfl) ?_
  first | refine s_op (o_lenM rfl) ?_ | refine s_op (o_len rfl) ?_
  first | refine s_op (o_neq rfl rfl) ?_ | refine s_op (o_bin rfl rfl rfl rfl) ?_
  refine s_nilO ?_
  refine q_seqN ?_
  refine s_keep [0, 1, 2, 14] rfl ?_
  first | refine s_condD rfl ?_ ?_ | refine s_condN rfl ?_ ?_ | refine s_condNB rfl ?_ ?_ | refine s_condB rfl ?_ ?_
  · intro h1
    try rw [Decidable.not_not] at h1
    refine S_seq ?_
    refine s_rg ?_
    refine s_op (o_mv rfl) ?_
    refine s_nilO ?_
    refine q_seqN ?_
    refine s_keep [6] rfl ?_
    refine s_ret ?_
    refine q_seqR ?_
    refine ret_leaf (.inr rfl) rfl rfl ?_
    refine congrArg (fun b => V.w (.bool b)) ?_
    first | exact (decide_eq_false (ne_at (by assumption) (by assumption) (by assumption))).symm | exact (decide_eq_true (eq_end hi.2.1 (by omega) hi.2.2)).symm | exact (decide_eq_false (fun e => by subst e; simp_all)).symm
  · intro h1
    try rw [Decidable.not_not] at h1
    refine s_skip ?_
    refine q_seqN ?_
    refine s_keep [0, 1, 2] rfl ?_
    refine S_seq ?_
    refine S_seq ?_
    refine s_rg ?_
    refine s_op (o_mv rfl) ?_
    first | refine s_op (o_lenM rfl) ?_ | refine s_op (o_len rfl) ?_
    refine s_op (o_mv rfl) ?_
    refine s_nilO ?_
    refine q_seqN ?_
    refine s_keep [1, 2, 15, 16, 17] rfl ?_
    refine S_block ?_
    refine S_loop0 (ι := Nat) (fun i => i ≤ xs.length ∧ xs.take i = ys.take i ∧ xs.length = ys.length) (fun i => [(17, .w (.int .i64 (i : Int)))]) (fun i => xs.length - i) 0 ⟨by simp, by simp, by omega⟩ rfl ⟨rfl, trivial⟩ (fun _ _ => rfl) rfl ?_
    intro i hi
    refine s_keep [1, 2, 15, 16, 17] rfl ?_
    refine S_seq ?_
    refine s_rg ?_
    first | refine s_op (o_lss rfl rfl) ?_ | refine s_op (o_bin rfl rfl rfl rfl) ?_
    refine s_nilO ?_
    refine q_seqN ?_
    refine s_keep [1, 2, 15, 16, 17, 18] rfl ?_
    refine S_seq ?_
    first | refine s_condD rfl ?_ ?_ | refine s_condN rfl ?_ ?_ | refine s_condNB rfl ?_ ?_ | refine s_condB rfl ?_ ?_
    · intro h2
      try rw [Decidable.not_not] at h2
      refine s_skip ?_
      refine q_seqN ?_
      refine s_keep [1, 2, 15, 16, 17] rfl ?_
      refine S_seq ?_
      refine S_block ?_
      refine S_seq ?_
      refine s_rg ?_
      refine s_op (o_mv rfl) ?_
      refine s_iaM rfl rfl (by omega) ?_
      intro y3 e3
      try simp only [Int.toNat_natCast, Int.toNat_zero] at e3
      refine s_op (o_ldn rfl rfl) ?_
      refine s_op (o_new rfl rfl) ?_
      refine s_op (o_mv rfl) ?_
      refine s_opN (o_stnC rfl rfl rfl rfl rfl rfl rfl) ?_
      refine s_nilO ?_
      refine q_seqN ?_
      refine s_keep [1, 2, 7, 8, 15, 16, 17] rfl ?_
      refine S_seq ?_
      refine s_rg ?_
      refine s_op (o_mv rfl) ?_
      refine s_op (o_mv rfl) ?_
      refine s_iaM rfl rfl (by omega) ?_
      intro y4 e4
      try simp only [Int.toNat_natCast, Int.toNat_zero] at e4
      refine s_op (o_ldn rfl rfl) ?_
      refine s_op (o_new rfl rfl) ?_
      refine s_opN (o_stnC rfl rfl rfl rfl rfl rfl rfl) ?_
      refine s_nilO ?_
      refine q_seqN ?_
      refine s_keep [1, 2, 8, 9, 15, 16, 17] rfl ?_
      refine S_seq ?_
      refine s_rg ?_
      refine s_op (o_mv rfl) ?_
      refine s_op (o_ldnC rfl rfl rfl) ?_
      refine s_op (o_ldnC rfl rfl rfl) ?_
      refine s_calli rfl rfl rfl (h _ _ (List.mem_of_getElem? (by assumption))) ?_
      refine s_op (o_not rfl) ?_
      refine s_nilO ?_
      refine q_seqN ?_
      refine s_keep [1, 2, 15, 16, 17, 30] rfl ?_
      first | refine s_condD rfl ?_ ?_ | refine s_condN rfl ?_ ?_ | refine s_condNB rfl ?_ ?_ | refine s_condB rfl ?_ ?_
      · intro h5
        try rw [Decidable.not_not] at h5
        refine S_seq ?_
        refine s_rg ?_
        refine s_op (o_mv rfl) ?_
        refine s_nilO ?_
        refine q_seqN ?_
        refine s_keep [6] rfl ?_
        refine s_ret ?_
        refine q_blkR ?_
        refine q_seqR ?_
        refine q_loopR ?_
        refine q_blkR ?_
        refine q_seqR ?_
        refine ret_leaf (.inr rfl) rfl rfl ?_
        refine congrArg (fun b => V.w (.bool b)) ?_
        first | exact (decide_eq_false (ne_at (by assumption) (by assumption) (by assumption))).symm | exact (decide_eq_true (eq_end hi.2.1 (by omega) hi.2.2)).symm | exact (decide_eq_false (fun e => by subst e; simp_all)).symm
      · intro h5
        try rw [Decidable.not_not] at h5
        refine s_skip ?_
        refine q_blkN ?_
        refine q_seqN ?_
        refine s_keep [1, 2, 15, 16, 17] rfl ?_
        refine s_rg ?_
        first | refine s_op (o_addn rfl rfl (by omega)) ?_ | refine s_op (o_add rfl rfl) ?_
        refine s_op (o_mv rfl) ?_
        refine s_nilO ?_
        refine q_loopN ?_
        exact ⟨i + 1, ⟨by omega, eq_take (by assumption) (by assumption) hi.2.1 (by assumption), hi.2.2⟩, by omega, hasOf ⟨rfl, trivial⟩ rfl⟩
    · intro h2
      try rw [Decidable.not_not] at h2
      refine s_exit ?_
      refine q_seqX ?_
      refine q_loopX ?_
      refine q_blkH ?_
      refine q_seqN ?_
      refine s_keep [] rfl ?_
      refine S_seq ?_
      refine s_rg ?_
      refine s_op (o_mv rfl) ?_
      refine s_nilO ?_
      refine q_seqN ?_
      refine s_keep [6] rfl ?_
      refine s_ret ?_
      refine ret_leaf (.inr rfl) rfl rfl ?_
      refine congrArg (fun b => V.w (.bool b)) ?_
      first | exact (decide_eq_false (ne_at (by assumption) (by assumption) (by assumption))).symm | exact (decide_eq_true (eq_end hi.2.1 (by omega) hi.2.2)).symm | exact (decide_eq_false (fun e => by subst e; simp_all)).symm

theorem c_403 (x y : Dev) (hs : x.small) : CV prg 403 [.agg x.r, .agg y.r] (fun res => res = .w (.bool (decide (x = y)))) := by
  refine cv_in g403 ?_
  refine s_keep [0, 1] rfl ?_
  refine S_seq ?_
  refine s_rg ?_
  refine s_op (o_box rfl rfl rfl) ?_
  refine s_op (o_box rfl rfl rfl) ?_
  refine s_op (o_mv rfl) ?_
  refine s_nilO ?_
  refine q_seqN ?_
  refine s_keep [2, 3] rfl ?_
  refine S_seq ?_
  refine s_rg ?_
  refine s_op (o_faC rfl) ?_
  refine s_op (o_ldC rfl rfl rfl) ?_
  refine s_op (o_faC rfl) ?_
  refine s_op (o_ldC rfl rfl rfl) ?_
  first | refine s_call rfl rfl (by first | exact (c_264 _ _ hs.1) | exact (c_264 _ _ hs.2)) ?_ | refine s_callL rfl rfl (by simp) (by first | exact (c_264 _ _ hs.1) | exact (c_264 _ _ hs.2)) rfl ?_
  refine s_op (o_mv rfl) ?_
  first | refine s_gDT rfl ?_ ?_ | refine s_gNDT rfl ?_ ?_ | refine s_gNT rfl ?_ ?_ | refine s_gB rfl ?_ ?_
  · intro h1
    try rw [Decidable.not_not] at h1
    refine s_op (o_faC rfl) ?_
    refine s_gT rfl ?_
    refine s_op (o_ldC rfl rfl rfl) ?_
    refine s_gT rfl ?_
    refine s_op (o_faC rfl) ?_
    refine s_gT rfl ?_
    refine s_op (o_ldC rfl rfl rfl) ?_
    refine s_gT rfl ?_
    first | refine s_op (o_eql rfl rfl) ?_ | refine s_op (o_bin rfl rfl rfl rfl) ?_
    refine s_op (o_pickT rfl rfl) ?_
    refine s_op (o_mv rfl) ?_
    first | refine s_gDT rfl ?_ ?_ | refine s_gNDT rfl ?_ ?_ | refine s_gNT rfl ?_ ?_ | refine s_gB rfl ?_ ?_
    · intro h2
      try rw [Decidable.not_not] at h2
      refine s_op (o_faC rfl) ?_
      refine s_keepO (is := [3, 17, 18]) rfl ?_
      refine s_gT rfl ?_
      refine s_op (o_ldC rfl rfl rfl) ?_
      refine s_gT rfl ?_
      refine s_op (o_faC rfl) ?_
      refine s_gT rfl ?_
      refine s_op (o_ldC rfl rfl rfl) ?_
      refine s_gT rfl ?_
      first | refine s_call rfl rfl (by first | exact (c_264 _ _ hs.1) | exact (c_264 _ _ hs.2)) ?_ | refine s_callL rfl rfl (by simp) (by first | exact (c_264 _ _ hs.1) | exact (c_264 _ _ hs.2)) rfl ?_
      refine s_op (o_pickT rfl rfl) ?_
      refine s_op (o_mv rfl) ?_
      refine s_nilO ?_
      refine q_seqN ?_
      refine s_keep [4] rfl ?_
      refine s_ret ?_
      refine ret_leaf (.inr rfl) rfl rfl ?_
      refine congrArg (fun b => V.w (.bool b)) ?_
      cases x; cases y; simp_all
    · intro h2
      try rw [Decidable.not_not] at h2
      refine s_gF rfl ?_
      refine s_keepO (is := [3, 17, 18]) rfl ?_
      refine s_gF rfl ?_
      refine s_gF rfl ?_
      refine s_gF rfl ?_
      refine s_gF rfl ?_
      refine s_op (o_pickF rfl rfl) ?_
      refine s_op (o_mv rfl) ?_
      refine s_nilO ?_
      refine q_seqN ?_
      refine s_keep [4] rfl ?_
      refine s_ret ?_
      refine ret_leaf (.inr rfl) rfl rfl ?_
      refine congrArg (fun b => V.w (.bool b)) ?_
      cases x; cases y; simp_all
  · intro h1
    try rw [Decidable.not_not] at h1
    refine s_gF rfl ?_
    refine s_gF rfl ?_
    refine s_gF rfl ?_
    refine s_gF rfl ?_
    refine s_gF rfl ?_
    refine s_op (o_pickF rfl rfl) ?_
    refine s_op (o_mv rfl) ?_
    refine s_gF rfl ?_
    refine s_keepO (is := [3, 17, 18]) rfl ?_
    refine s_gF rfl ?_
    refine s_gF rfl ?_
    refine s_gF rfl ?_
    refine s_gF rfl ?_
    refine s_op (o_pickF rfl rfl) ?_
    refine s_op (o_mv rfl) ?_
    refine s_nilO ?_
    refine q_seqN ?_
    refine s_keep [4] rfl ?_
    refine s_ret ?_
    refine ret_leaf (.inr rfl) rfl rfl ?_
    refine congrArg (fun b => V.w (.bool b)) ?_
    cases x; cases y; simp_all

theorem c_401 (x y : Dev) (hs : x.small) : CV prg 401 [.agg x.r, .agg y.r] (fun res => res = .w (.bool (decide (x = y)))) := by
  refine cv_in g401 ?_
  refine s_keep [0, 1] rfl ?_
  refine S_seq ?_
  refine s_rg ?_
  refine s_op (o_box rfl rfl rfl) ?_
  refine s_op (o_box rfl rfl rfl) ?_
  refine s_op (o_mv rfl) ?_
  refine s_nilO ?_
  refine q_seqN ?_
  refine s_keep [2, 3] rfl ?_
  refine S_seq ?_
  refine s_rg ?_
  refine s_op (o_faC rfl) ?_
  refine s_op (o_ldC rfl rfl rfl) ?_
  refine s_op (o_faC rfl) ?_
  refine s_op (o_ldC rfl rfl rfl) ?_
  first | refine s_call rfl rfl (by first | exact (c_240 _ _ hs.1) | exact (c_240 _ _ hs.2)) ?_ | refine s_callL rfl rfl (by simp) (by first | exact (c_240 _ _ hs.1) | exact (c_240 _ _ hs.2)) rfl ?_
  refine s_op (o_mv rfl) ?_
  first | refine s_gDT rfl ?_ ?_ | refine s_gNDT rfl ?_ ?_ | refine s_gNT rfl ?_ ?_ | refine s_gB rfl ?_ ?_
  · intro h1
    try rw [Decidable.not_not] at h1
    refine s_op (o_faC rfl) ?_
    refine s_gT rfl ?_
    refine s_op (o_ldC rfl rfl rfl) ?_
    refine s_gT rfl ?_
    refine s_op (o_faC rfl) ?_
    refine s_gT rfl ?_
    refine s_op (o_ldC rfl rfl rfl) ?_
    refine s_gT rfl ?_
    first | refine s_op (o_eql rfl rfl) ?_ | refine s_op (o_bin rfl rfl rfl rfl) ?_
    refine s_op (o_pickT rfl rfl) ?_
    refine s_op (o_mv rfl) ?_
    first | refine s_gDT rfl ?_ ?_ | refine s_gNDT rfl ?_ ?_ | refine s_gNT rfl ?_ ?_ | refine s_gB rfl ?_ ?_
    · intro h2
      try rw [Decidable.not_not] at h2
      refine s_op (o_faC rfl) ?_
      refine s_keepO (is := [3, 17, 18]) rfl ?_
      refine s_gT rfl ?_
      refine s_op (o_ldC rfl rfl rfl) ?_
      refine s_gT rfl ?_
      refine s_op (o_faC rfl) ?_
      refine s_gT rfl ?_
      refine s_op (o_ldC rfl rfl rfl) ?_
      refine s_gT rfl ?_
      first | refine s_call rfl rfl (by first | exact (c_240 _ _ hs.1) | exact (c_240 _ _ hs.2)) ?_ | refine s_callL rfl rfl (by simp) (by first | exact (c_240 _ _ hs.1) | exact (c_240 _ _ hs.2)) rfl ?_
      refine s_op (o_pickT rfl rfl) ?_
      refine s_op (o_mv rfl) ?_
      refine s_nilO ?_
      refine q_seqN ?_
      refine s_keep [4] rfl ?_
      refine s_ret ?_
      refine ret_leaf (.inr rfl) rfl rfl ?_
      refine congrArg (fun b => V.w (.bool b)) ?_
      cases x; cases y; simp_all
    · intro h2
      try rw [Decidable.not_not] at h2
      refine s_gF rfl ?_
      refine s_keepO (is := [3, 17, 18]) rfl ?_
      refine s_gF rfl ?_
      refine s_gF rfl ?_
      refine s_gF rfl ?_
      refine s_gF rfl ?_
      refine s_op (o_pickF rfl rfl) ?_
      refine s_op (o_mv rfl) ?_
      refine s_nilO ?_
      refine q_seqN ?_
      refine s_keep [4] rfl ?_
      refine s_ret ?_
      refine ret_leaf (.inr rfl) rfl rfl ?_
      refine congrArg (fun b => V.w (.bool b)) ?_
      cases x; cases y; simp_all
  · intro h1
    try rw [Decidable.not_not] at h1
    refine s_gF rfl ?_
    refine s_gF rfl ?_
    refine s_gF rfl ?_
    refine s_gF rfl ?_
    refine s_gF rfl ?_
    refine s_op (o_pickF rfl rfl) ?_
    refine s_op (o_mv rfl) ?_
    refine s_gF rfl ?_
    refine s_keepO (is := [3, 17, 18]) rfl ?_
    refine s_gF rfl ?_
    refine s_gF rfl ?_
    refine s_gF rfl ?_
    refine s_gF rfl ?_
    refine s_op (o_pickF rfl rfl) ?_
    refine s_op (o_mv rfl) ?_
    refine s_nilO ?_
    refine q_seqN ?_
    refine s_keep [4] rfl ?_
    refine s_ret ?_
    refine ret_leaf (.inr rfl) rfl rfl ?_
    refine congrArg (fun b => V.w (.bool b)) ?_
    cases x; cases y; simp_all

theorem c_387 (x y : Model) (hs : x.small) : CV prg 387 [.agg x.r, .agg y.r] (fun res => res = .w (.bool (decide (x = y)))) := by
  refine cv_in g387 ?_
  refine s_keep [0, 1] rfl ?_
  refine S_seq ?_
  refine s_rg ?_
  refine s_op (o_box rfl rfl rfl) ?_
  refine s_op (o_box rfl rfl rfl) ?_
  refine s_op (o_mv rfl) ?_
  refine s_nilO ?_
  refine q_seqN ?_
  refine s_keep [2, 3] rfl ?_
  refine S_seq ?_
  refine s_rg ?_
  refine s_op (o_faC rfl) ?_
  refine s_op (o_ldC rfl rfl rfl) ?_
  refine s_op (o_faC rfl) ?_
  refine s_op (o_ldC rfl rfl rfl) ?_
  first | refine s_call rfl rfl (c_264 _ _ hs.1) ?_ | refine s_callL rfl rfl (by simp) (c_264 _ _ hs.1) rfl ?_
  refine s_op (o_mv rfl) ?_
  first | refine s_gDT rfl ?_ ?_ | refine s_gNDT rfl ?_ ?_ | refine s_gNT rfl ?_ ?_ | refine s_gB rfl ?_ ?_
  · intro h1
    try rw [Decidable.not_not] at h1
    refine s_op (o_faC rfl) ?_
    refine s_gT rfl ?_
    refine s_op (o_ldnC rfl rfl rfl) ?_
    refine s_gT rfl ?_
    refine s_op (o_faC rfl) ?_
    refine s_gT rfl ?_
    refine s_op (o_ldnC rfl rfl rfl) ?_
    refine s_gT rfl ?_
    first | refine s_call rfl rfl (c_403 x.dev y.dev hs.2) ?_ | refine s_callL rfl rfl (by simp) (c_403 x.dev y.dev hs.2) rfl ?_
    refine s_op (o_pickT rfl rfl) ?_
    refine s_op (o_mv rfl) ?_
    refine s_nilO ?_
    refine q_seqN ?_
    refine s_keep [4] rfl ?_
    refine s_ret ?_
    refine ret_leaf (.inr rfl) rfl rfl ?_
    refine congrArg (fun b => V.w (.bool b)) ?_
    cases x; cases y; simp_all
  · intro h1
    try rw [Decidable.not_not] at h1
    refine s_gF rfl ?_
    refine s_gF rfl ?_
    refine s_gF rfl ?_
    refine s_gF rfl ?_
    refine s_gF rfl ?_
    refine s_op (o_pickF rfl rfl) ?_
    refine s_op (o_mv rfl) ?_
    refine s_nilO ?_
    refine q_seqN ?_
    refine s_keep [4] rfl ?_
    refine s_ret ?_
    refine ret_leaf (.inr rfl) rfl rfl ?_
    refine congrArg (fun b => V.w (.bool b)) ?_
    cases x; cases y; simp_all

theorem c_383 (x y : Model) (hs : x.small) : CV prg 383 [.agg x.r, .agg y.r] (fun res => res = .w (.bool (decide (x = y)))) := by
  refine cv_in g383 ?_
  refine s_keep [0, 1] rfl ?_
  refine S_seq ?_
  refine s_rg ?_
  refine s_op (o_box rfl rfl rfl) ?_
  refine s_op (o_box rfl rfl rfl) ?_
  refine s_op (o_mv rfl) ?_
  refine s_nilO ?_
  refine q_seqN ?_
  refine s_keep [2, 3] rfl ?_
  refine S_seq ?_
  refine s_rg ?_
  refine s_op (o_faC rfl) ?_
  refine s_op (o_ldC rfl rfl rfl) ?_
  refine s_op (o_faC rfl) ?_
  refine s_op (o_ldC rfl rfl rfl) ?_
  first | refine s_call rfl rfl (c_240 _ _ hs.1) ?_ | refine s_callL rfl rfl (by simp) (c_240 _ _ hs.1) rfl ?_
  refine s_op (o_mv rfl) ?_
  first | refine s_gDT rfl ?_ ?_ | refine s_gNDT rfl ?_ ?_ | refine s_gNT rfl ?_ ?_ | refine s_gB rfl ?_ ?_
  · intro h1
    try rw [Decidable.not_not] at h1
    refine s_op (o_faC rfl) ?_
    refine s_gT rfl ?_
    refine s_op (o_ldnC rfl rfl rfl) ?_
    refine s_gT rfl ?_
    refine s_op (o_faC rfl) ?_
    refine s_gT rfl ?_
    refine s_op (o_ldnC rfl rfl rfl) ?_
    refine s_gT rfl ?_
    first | refine s_call rfl rfl (c_401 x.dev y.dev hs.2) ?_ | refine s_callL rfl rfl (by simp) (c_401 x.dev y.dev hs.2) rfl ?_
    refine s_op (o_pickT rfl rfl) ?_
    refine s_op (o_mv rfl) ?_
    refine s_nilO ?_
    refine q_seqN ?_
    refine s_keep [4] rfl ?_
    refine s_ret ?_
    refine ret_leaf (.inr rfl) rfl rfl ?_
    refine congrArg (fun b => V.w (.bool b)) ?_
    cases x; cases y; simp_all
  · intro h1
    try rw [Decidable.not_not] at h1
    refine s_gF rfl ?_
    refine s_gF rfl ?_
    refine s_gF rfl ?_
    refine s_gF rfl ?_
    refine s_gF rfl ?_
    refine s_op (o_pickF rfl rfl) ?_
    refine s_op (o_mv rfl) ?_
    refine s_nilO ?_
    refine q_seqN ?_
    refine s_keep [4] rfl ?_
    refine s_ret ?_
    refine ret_leaf (.inr rfl) rfl rfl ?_
    refine congrArg (fun b => V.w (.bool b)) ?_
    cases x; cases y; simp_all

theorem c_384 (x y : Conf) (hl : x.masters.length ≤ 1048576) : CV prg 384 [.agg x.r, .agg y.r] (fun res => res = .w (.bool (decide (x = y)))) := by
  refine cv_in g384 ?_
  refine s_keep [0, 1] rfl ?_
  refine S_seq ?_
  refine s_rg ?_
  refine s_op (o_box rfl rfl rfl) ?_
  refine s_op (o_box rfl rfl rfl) ?_
  refine s_op (o_mv rfl) ?_
  refine s_nilO ?_
  refine q_seqN ?_
  refine s_keep [2, 3] rfl ?_
  refine S_seq ?_
  refine s_rg ?_
  refine s_op (o_faC rfl) ?_
  refine s_op (o_ldC rfl rfl rfl) ?_
  refine s_op (o_faC rfl) ?_
  refine s_op (o_ldC rfl rfl rfl) ?_
  first | refine s_call rfl rfl (c_402 _ _ hl) ?_ | refine s_callL rfl rfl (by simp) (c_402 _ _ hl) rfl ?_
  refine s_op (o_mv rfl) ?_
  first | refine s_gDT rfl ?_ ?_ | refine s_gNDT rfl ?_ ?_ | refine s_gNT rfl ?_ ?_ | refine s_gB rfl ?_ ?_
  · intro h1
    try rw [Decidable.not_not] at h1
    refine s_op (o_faC rfl) ?_
    refine s_gT rfl ?_
    refine s_op (o_ldC rfl rfl rfl) ?_
    refine s_gT rfl ?_
    refine s_op (o_faC rfl) ?_
    refine s_gT rfl ?_
    refine s_op (o_ldC rfl rfl rfl) ?_
    refine s_gT rfl ?_
    first | refine s_op (o_eql rfl rfl) ?_ | refine s_op (o_bin rfl rfl rfl rfl) ?_
    refine s_op (o_pickT rfl rfl) ?_
    refine s_op (o_mv rfl) ?_
    first | refine s_gDT rfl ?_ ?_ | refine s_gNDT rfl ?_ ?_ | refine s_gNT rfl ?_ ?_ | refine s_gB rfl ?_ ?_
    · intro h2
      try rw [Decidable.not_not] at h2
      refine s_op (o_faC rfl) ?_
      refine s_keepO (is := [2, 3, 17, 18]) rfl ?_
      refine s_gT rfl ?_
      refine s_op (o_ldC rfl rfl rfl) ?_
      refine s_gT rfl ?_
      refine s_op (o_faC rfl) ?_
      refine s_gT rfl ?_
      refine s_op (o_ldC rfl rfl rfl) ?_
      refine s_gT rfl ?_
      first | refine s_op (o_eql rfl rfl) ?_ | refine s_op (o_bin rfl rfl rfl rfl) ?_
      refine s_op (o_pickT rfl rfl) ?_
      refine s_op (o_mv rfl) ?_
      first | refine s_gDT rfl ?_ ?_ | refine s_gNDT rfl ?_ ?_ | refine s_gNT rfl ?_ ?_ | refine s_gB rfl ?_ ?_
      · intro h3
        try rw [Decidable.not_not] at h3
        refine s_op (o_faC rfl) ?_
        refine s_gT rfl ?_
        refine s_op (o_ldC rfl rfl rfl) ?_
        refine s_gT rfl ?_
        refine s_op (o_faC rfl) ?_
        refine s_gT rfl ?_
        refine s_op (o_ldC rfl rfl rfl) ?_
        refine s_gT rfl ?_
        first | refine s_op (o_eql rfl rfl) ?_ | refine s_op (o_bin rfl rfl rfl rfl) ?_
        refine s_op (o_pickT rfl rfl) ?_
        refine s_op (o_mv rfl) ?_
        first | refine s_gDT rfl ?_ ?_ | refine s_gNDT rfl ?_ ?_ | refine s_gNT rfl ?_ ?_ | refine s_gB rfl ?_ ?_
        · intro h4
          try rw [Decidable.not_not] at h4
          refine s_op (o_faC rfl) ?_
          refine s_keepO (is := [2, 3, 31, 32]) rfl ?_
          refine s_gT rfl ?_
          refine s_op (o_ldC rfl rfl rfl) ?_
          refine s_gT rfl ?_
          refine s_op (o_faC rfl) ?_
          refine s_gT rfl ?_
          refine s_op (o_ldC rfl rfl rfl) ?_
          refine s_gT rfl ?_
          first | refine s_op (o_eql rfl rfl) ?_ | refine s_op (o_bin rfl rfl rfl rfl) ?_
          refine s_op (o_pickT rfl rfl) ?_
          refine s_op (o_mv rfl) ?_
          first | refine s_gDT rfl ?_ ?_ | refine s_gNDT rfl ?_ ?_ | refine s_gNT rfl ?_ ?_ | refine s_gB rfl ?_ ?_
          · intro h5
            try rw [Decidable.not_not] at h5
            refine s_op (o_faC rfl) ?_
            refine s_gT rfl ?_
            refine s_op (o_ldC rfl rfl rfl) ?_
            refine s_gT rfl ?_
            refine s_op (o_faC rfl) ?_
            refine s_gT rfl ?_
            refine s_op (o_ldC rfl rfl rfl) ?_
            refine s_gT rfl ?_
            first | refine s_op (o_eql rfl rfl) ?_ | refine s_op (o_bin rfl rfl rfl rfl) ?_
            refine s_op (o_pickT rfl rfl) ?_
            refine s_op (o_mv rfl) ?_
            refine s_nilO ?_
            refine q_seqN ?_
            refine s_keep [4] rfl ?_
            refine s_ret ?_
            refine ret_leaf (.inr rfl) rfl rfl ?_
            refine congrArg (fun b => V.w (.bool b)) ?_
            cases x; cases y; simp_all
          · intro h5
            try rw [Decidable.not_not] at h5
            refine s_gF rfl ?_
            refine s_gF rfl ?_
            refine s_gF rfl ?_
            refine s_gF rfl ?_
            refine s_gF rfl ?_
            refine s_op (o_pickF rfl rfl) ?_
            refine s_op (o_mv rfl) ?_
            refine s_nilO ?_
            refine q_seqN ?_
            refine s_keep [4] rfl ?_
            refine s_ret ?_
            refine ret_leaf (.inr rfl) rfl rfl ?_
            refine congrArg (fun b => V.w (.bool b)) ?_
            cases x; cases y; simp_all
        · intro h4
          try rw [Decidable.not_not] at h4
          refine s_gF rfl ?_
          refine s_keepO (is := [2, 3, 31, 32]) rfl ?_
          refine s_gF rfl ?_
          refine s_gF rfl ?_
          refine s_gF rfl ?_
          refine s_gF rfl ?_
          refine s_op (o_pickF rfl rfl) ?_
          refine s_op (o_mv rfl) ?_
          refine s_gF rfl ?_
          refine s_gF rfl ?_
          refine s_gF rfl ?_
          refine s_gF rfl ?_
          refine s_gF rfl ?_
          refine s_op (o_pickF rfl rfl) ?_
          refine s_op (o_mv rfl) ?_
          refine s_nilO ?_
          refine q_seqN ?_
          refine s_keep [4] rfl ?_
          refine s_ret ?_
          refine ret_leaf (.inr rfl) rfl rfl ?_
          refine congrArg (fun b => V.w (.bool b)) ?_
          cases x; cases y; simp_all
      · intro h3
        try rw [Decidable.not_not] at h3
        refine s_gF rfl ?_
        refine s_gF rfl ?_
        refine s_gF rfl ?_
        refine s_gF rfl ?_
        refine s_gF rfl ?_
        refine s_op (o_pickF rfl rfl) ?_
        refine s_op (o_mv rfl) ?_
        refine s_gF rfl ?_
        refine s_keepO (is := [2, 3, 31, 32]) rfl ?_
        refine s_gF rfl ?_
        refine s_gF rfl ?_
        refine s_gF rfl ?_
        refine s_gF rfl ?_
        refine s_op (o_pickF rfl rfl) ?_
        refine s_op (o_mv rfl) ?_
        refine s_gF rfl ?_
        refine s_gF rfl ?_
        refine s_gF rfl ?_
        refine s_gF rfl ?_
        refine s_gF rfl ?_
        refine s_op (o_pickF rfl rfl) ?_
        refine s_op (o_mv rfl) ?_
        refine s_nilO ?_
        refine q_seqN ?_
        refine s_keep [4] rfl ?_
        refine s_ret ?_
        refine ret_leaf (.inr rfl) rfl rfl ?_
        refine congrArg (fun b => V.w (.bool b)) ?_
        cases x; cases y; simp_all
    · intro h2
      try rw [Decidable.not_not] at h2
      refine s_gF rfl ?_
      refine s_keepO (is := [2, 3, 17, 18]) rfl ?_
      refine s_gF rfl ?_
      refine s_gF rfl ?_
      refine s_gF rfl ?_
      refine s_gF rfl ?_
      refine s_op (o_pickF rfl rfl) ?_
      refine s_op (o_mv rfl) ?_
      refine s_gF rfl ?_
      refine s_gF rfl ?_
      refine s_gF rfl ?_
      refine s_gF rfl ?_
      refine s_gF rfl ?_
      refine s_op (o_pickF rfl rfl) ?_
      refine s_op (o_mv rfl) ?_
      refine s_gF rfl ?_
      refine s_keepO (is := [2, 3, 31, 32]) rfl ?_
      refine s_gF rfl ?_
      refine s_gF rfl ?_
      refine s_gF rfl ?_
      refine s_gF rfl ?_
      refine s_op (o_pickF rfl rfl) ?_
      refine s_op (o_mv rfl) ?_
      refine s_gF rfl ?_
      refine s_gF rfl ?_
      refine s_gF rfl ?_
      refine s_gF rfl ?_
      refine s_gF rfl ?_
      refine s_op (o_pickF rfl rfl) ?_
      refine s_op (o_mv rfl) ?_
      refine s_nilO ?_
      refine q_seqN ?_
      refine s_keep [4] rfl ?_
      refine s_ret ?_
      refine ret_leaf (.inr rfl) rfl rfl ?_
      refine congrArg (fun b => V.w (.bool b)) ?_
      cases x; cases y; simp_all
  · intro h1
    try rw [Decidable.not_not] at h1
    refine s_gF rfl ?_
    refine s_gF rfl ?_
    refine s_gF rfl ?_
    refine s_gF rfl ?_
    refine s_gF rfl ?_
    refine s_op (o_pickF rfl rfl) ?_
    refine s_op (o_mv rfl) ?_
    refine s_gF rfl ?_
    refine s_keepO (is := [2, 3, 17, 18]) rfl ?_
    refine s_gF rfl ?_
    refine s_gF rfl ?_
    refine s_gF rfl ?_
    refine s_gF rfl ?_
    refine s_op (o_pickF rfl rfl) ?_
    refine s_op (o_mv rfl) ?_
    refine s_gF rfl ?_
    refine s_gF rfl ?_
    refine s_gF rfl ?_
    refine s_gF rfl ?_
    refine s_gF rfl ?_
    refine s_op (o_pickF rfl rfl) ?_
    refine s_op (o_mv rfl) ?_
    refine s_gF rfl ?_
    refine s_keepO (is := [2, 3, 31, 32]) rfl ?_
    refine s_gF rfl ?_
    refine s_gF rfl ?_
    refine s_gF rfl ?_
    refine s_gF rfl ?_
    refine s_op (o_pickF rfl rfl) ?_
    refine s_op (o_mv rfl) ?_
    refine s_gF rfl ?_
    refine s_gF rfl ?_
    refine s_gF rfl ?_
    refine s_gF rfl ?_
    refine s_gF rfl ?_
    refine s_op (o_pickF rfl rfl) ?_
    refine s_op (o_mv rfl) ?_
    refine s_nilO ?_
    refine q_seqN ?_
    refine s_keep [4] rfl ?_
    refine s_ret ?_
    refine ret_leaf (.inr rfl) rfl rfl ?_
    refine congrArg (fun b => V.w (.bool b)) ?_
    cases x; cases y; simp_all

theorem c_382 (x y : Conf) (hl : x.masters.length ≤ 1048576) : CV prg 382 [.agg x.r, .agg y.r] (fun res => res = .w (.bool (decide (x = y)))) := by
  refine cv_in g382 ?_
  refine s_keep [0, 1] rfl ?_
  refine S_seq ?_
  refine s_rg ?_
  refine s_op (o_box rfl rfl rfl) ?_
  refine s_op (o_box rfl rfl rfl) ?_
  refine s_op (o_mv rfl) ?_
  refine s_nilO ?_
  refine q_seqN ?_
  refine s_keep [2, 3] rfl ?_
  refine S_seq ?_
  refine S_seq ?_
  refine s_rg ?_
  refine s_op (o_faC rfl) ?_
  refine s_op (o_ldC rfl rfl rfl) ?_
  first | refine s_op (o_lenM rfl) ?_ | refine s_op (o_len rfl) ?_ | refine s_op (o_lenL rfl rfl rfl) ?_ | refine s_op (o_lenN rfl) ?_
  refine s_op (o_faC rfl) ?_
  refine s_op (o_ldC rfl rfl rfl) ?_
  first | refine s_op (o_lenM rfl) ?_ | refine s_op (o_len rfl) ?_ | refine s_op (o_lenL rfl rfl rfl) ?_ | refine s_op (o_lenN rfl) ?_
  first | refine s_op (o_neq rfl rfl) ?_ | refine s_op (o_bin rfl rfl rfl rfl) ?_
  refine s_nilO ?_
  refine q_seqN ?_
  refine s_keep [2, 3, 12] rfl ?_
  first | refine s_condD rfl ?_ ?_ | refine s_condN rfl ?_ ?_ | refine s_condNB rfl ?_ ?_ | refine s_condB rfl ?_ ?_
  · intro h1
    try rw [Decidable.not_not] at h1
    refine S_seq ?_
    refine s_rg ?_
    refine s_op (o_mv rfl) ?_
    refine s_nilO ?_
    refine q_seqN ?_
    refine s_keep [4] rfl ?_
    refine s_ret ?_
    refine q_seqR ?_
    refine ret_leaf (.inr rfl) rfl rfl ?_
    refine congrArg (fun b => V.w (.bool b)) ?_
    first | exact (decide_eq_false (fun e => ne_at (by assumption) (by assumption) (MConf.no_beq (by assumption)) (congrArg Conf.masters e))).symm | (have he := eq_end hi.2.1 (by omega) hi.2.2; clear hi; cases x; cases y; simp_all; done) | exact (decide_eq_false (fun e => by subst e; simp_all)).symm
  · intro h1
    try rw [Decidable.not_not] at h1
    refine s_skip ?_
    refine q_seqN ?_
    refine s_keep [2, 3] rfl ?_
    refine S_seq ?_
    refine S_seq ?_
    refine s_rg ?_
    refine s_op (o_mv rfl) ?_
    refine s_nilO ?_
    refine q_seqN ?_
    refine s_keep [2, 3, 5] rfl ?_
    refine S_block ?_
    refine S_loop0 (ι := Nat) (fun i => i ≤ x.masters.length ∧ x.masters.take i = y.masters.take i ∧ x.masters.length = y.masters.length) (fun i => [(5, .w (.int .i64 (i : Int)))]) (fun i => x.masters.length - i) 0 ⟨by simp, by simp, by omega⟩ rfl ⟨rfl, trivial⟩ (fun _ _ => rfl) rfl ?_
    intro i hi
    refine s_keep [2, 3, 5] rfl ?_
    refine S_seq ?_
    refine S_seq ?_
    refine s_rg ?_
    refine s_op (o_mv rfl) ?_
    refine s_op (o_faC rfl) ?_
    refine s_op (o_ldC rfl rfl rfl) ?_
    first | refine s_op (o_lenM rfl) ?_ | refine s_op (o_len rfl) ?_ | refine s_op (o_lenL rfl rfl rfl) ?_ | refine s_op (o_lenN rfl) ?_
    first | refine s_op (o_lss rfl rfl) ?_ | refine s_op (o_bin rfl rfl rfl rfl) ?_
    refine s_nilO ?_
    refine q_seqN ?_
    refine s_keep [2, 3, 5, 17] rfl ?_
    first | refine s_condD rfl ?_ ?_ | refine s_condN rfl ?_ ?_ | refine s_condNB rfl ?_ ?_ | refine s_condB rfl ?_ ?_
    · intro h2
      try rw [Decidable.not_not] at h2
      refine s_skip ?_
      refine q_seqN ?_
      refine s_keep [2, 3, 5] rfl ?_
      refine S_seq ?_
      refine S_block ?_
      refine S_seq ?_
      refine s_rg ?_
      refine s_op (o_faC rfl) ?_
      refine s_op (o_ldC rfl rfl rfl) ?_
      refine s_op (o_mv rfl) ?_
      refine s_iaM rfl rfl (by omega) ?_
      intro y3 e3
      try simp only [Int.toNat_natCast, Int.toNat_zero] at e3
      refine s_op (o_ldn rfl rfl) ?_
      refine s_op (o_faC rfl) ?_
      refine s_op (o_ldC rfl rfl rfl) ?_
      refine s_op (o_mv rfl) ?_
      refine s_iaM rfl rfl (by omega) ?_
      intro y4 e4
      try simp only [Int.toNat_natCast, Int.toNat_zero] at e4
      refine s_op (o_ldn rfl rfl) ?_
      refine s_op (o_eqs rfl rfl rfl rfl rfl) ?_
      refine s_nilO ?_
      refine q_seqN ?_
      refine s_keep [2, 3, 5, 30] rfl ?_
      first | refine s_condD rfl ?_ ?_ | refine s_condN rfl ?_ ?_ | refine s_condNB rfl ?_ ?_ | refine s_condB rfl ?_ ?_
      · intro h5
        try rw [Decidable.not_not] at h5
        refine S_seq ?_
        refine s_rg ?_
        refine s_op (o_mv rfl) ?_
        refine s_nilO ?_
        refine q_seqN ?_
        refine s_keep [4] rfl ?_
        refine s_ret ?_
        refine q_blkR ?_
        refine q_seqR ?_
        refine q_loopR ?_
        refine q_blkR ?_
        refine q_seqR ?_
        refine ret_leaf (.inr rfl) rfl rfl ?_
        refine congrArg (fun b => V.w (.bool b)) ?_
        first | exact (decide_eq_false (fun e => ne_at (by assumption) (by assumption) (MConf.no_beq (by assumption)) (congrArg Conf.masters e))).symm | (have he := eq_end hi.2.1 (by omega) hi.2.2; clear hi; cases x; cases y; simp_all; done) | exact (decide_eq_false (fun e => by subst e; simp_all)).symm
      · intro h5
        try rw [Decidable.not_not] at h5
        refine s_skip ?_
        refine q_blkN ?_
        refine q_seqN ?_
        refine s_keep [2, 3, 5] rfl ?_
        refine s_rg ?_
        refine s_op (o_mv rfl) ?_
        first | refine s_op (o_addn rfl rfl (by omega)) ?_ | refine s_op (o_add rfl rfl) ?_
        refine s_op (o_mv rfl) ?_
        refine s_nilO ?_
        refine q_loopN ?_
        exact ⟨i + 1, ⟨by omega, eq_take (by assumption) (by assumption) hi.2.1 (MConf.of_beq (by assumption)), hi.2.2⟩, by omega, hasOf ⟨rfl, trivial⟩ rfl⟩
    · intro h2
      try rw [Decidable.not_not] at h2
      refine s_exit ?_
      refine q_seqX ?_
      refine q_loopX ?_
      refine q_blkH ?_
      refine q_seqN ?_
      refine s_keep [2, 3] rfl ?_
      refine S_seq ?_
      refine s_rg ?_
      refine s_op (o_faC rfl) ?_
      refine s_op (o_ldC rfl rfl rfl) ?_
      refine s_op (o_faC rfl) ?_
      refine s_op (o_ldC rfl rfl rfl) ?_
      first | refine s_op (o_eql rfl rfl) ?_ | refine s_op (o_bin rfl rfl rfl rfl) ?_
      refine s_op (o_mv rfl) ?_
      first | refine s_gDT rfl ?_ ?_ | refine s_gNDT rfl ?_ ?_ | refine s_gNT rfl ?_ ?_ | refine s_gB rfl ?_ ?_
      · intro h6
        try rw [Decidable.not_not] at h6
        refine s_op (o_faC rfl) ?_
        refine s_gT rfl ?_
        refine s_op (o_ldC rfl rfl rfl) ?_
        refine s_gT rfl ?_
        refine s_op (o_faC rfl) ?_
        refine s_gT rfl ?_
        refine s_op (o_ldC rfl rfl rfl) ?_
        refine s_gT rfl ?_
        first | refine s_op (o_eql rfl rfl) ?_ | refine s_op (o_bin rfl rfl rfl rfl) ?_
        refine s_op (o_pickT rfl rfl) ?_
        refine s_op (o_mv rfl) ?_
        first | refine s_gDT rfl ?_ ?_ | refine s_gNDT rfl ?_ ?_ | refine s_gNT rfl ?_ ?_ | refine s_gB rfl ?_ ?_
        · intro h7
          try rw [Decidable.not_not] at h7
          refine s_op (o_faC rfl) ?_
          refine s_keepO (is := [2, 3, 43, 44]) rfl ?_
          refine s_gT rfl ?_
          refine s_op (o_ldC rfl rfl rfl) ?_
          refine s_gT rfl ?_
          refine s_op (o_faC rfl) ?_
          refine s_gT rfl ?_
          refine s_op (o_ldC rfl rfl rfl) ?_
          refine s_gT rfl ?_
          first | refine s_op (o_eql rfl rfl) ?_ | refine s_op (o_bin rfl rfl rfl rfl) ?_
          refine s_op (o_pickT rfl rfl) ?_
          refine s_op (o_mv rfl) ?_
          first | refine s_gDT rfl ?_ ?_ | refine s_gNDT rfl ?_ ?_ | refine s_gNT rfl ?_ ?_ | refine s_gB rfl ?_ ?_
          · intro h8
            try rw [Decidable.not_not] at h8
            refine s_op (o_faC rfl) ?_
            refine s_gT rfl ?_
            refine s_op (o_ldC rfl rfl rfl) ?_
            refine s_gT rfl ?_
            refine s_op (o_faC rfl) ?_
            refine s_gT rfl ?_
            refine s_op (o_ldC rfl rfl rfl) ?_
            refine s_gT rfl ?_
            first | refine s_op (o_eql rfl rfl) ?_ | refine s_op (o_bin rfl rfl rfl rfl) ?_
            refine s_op (o_pickT rfl rfl) ?_
            refine s_op (o_mv rfl) ?_
            first | refine s_gDT rfl ?_ ?_ | refine s_gNDT rfl ?_ ?_ | refine s_gNT rfl ?_ ?_ | refine s_gB rfl ?_ ?_
            · intro h9
              try rw [Decidable.not_not] at h9
              refine s_op (o_faC rfl) ?_
              refine s_keepO (is := [3, 57, 58]) rfl ?_
              refine s_gT rfl ?_
              refine s_op (o_ldC rfl rfl rfl) ?_
              refine s_gT rfl ?_
              refine s_op (o_faC rfl) ?_
              refine s_gT rfl ?_
              refine s_op (o_ldC rfl rfl rfl) ?_
              refine s_gT rfl ?_
              first | refine s_op (o_eql rfl rfl) ?_ | refine s_op (o_bin rfl rfl rfl rfl) ?_
              refine s_op (o_pickT rfl rfl) ?_
              refine s_op (o_mv rfl) ?_
              refine s_nilO ?_
              refine q_seqN ?_
              refine s_keep [4] rfl ?_
              refine s_ret ?_
              refine ret_leaf (.inr rfl) rfl rfl ?_
              refine congrArg (fun b => V.w (.bool b)) ?_
              first | exact (decide_eq_false (fun e => ne_at (by assumption) (by assumption) (MConf.no_beq (by assumption)) (congrArg Conf.masters e))).symm | (have he := eq_end hi.2.1 (by omega) hi.2.2; clear hi; cases x; cases y; simp_all; done) | exact (decide_eq_false (fun e => by subst e; simp_all)).symm
            · intro h9
              try rw [Decidable.not_not] at h9
              refine s_gF rfl ?_
              refine s_keepO (is := [3, 57, 58]) rfl ?_
              refine s_gF rfl ?_
              refine s_gF rfl ?_
              refine s_gF rfl ?_
              refine s_gF rfl ?_
              refine s_op (o_pickF rfl rfl) ?_
              refine s_op (o_mv rfl) ?_
              refine s_nilO ?_
              refine q_seqN ?_
              refine s_keep [4] rfl ?_
              refine s_ret ?_
              refine ret_leaf (.inr rfl) rfl rfl ?_
              refine congrArg (fun b => V.w (.bool b)) ?_
              first | exact (decide_eq_false (fun e => ne_at (by assumption) (by assumption) (MConf.no_beq (by assumption)) (congrArg Conf.masters e))).symm | (have he := eq_end hi.2.1 (by omega) hi.2.2; clear hi; cases x; cases y; simp_all; done) | exact (decide_eq_false (fun e => by subst e; simp_all)).symm
          · intro h8
            try rw [Decidable.not_not] at h8
            refine s_gF rfl ?_
            refine s_gF rfl ?_
            refine s_gF rfl ?_
            refine s_gF rfl ?_
            refine s_gF rfl ?_
            refine s_op (o_pickF rfl rfl) ?_
            refine s_op (o_mv rfl) ?_
            refine s_gF rfl ?_
            refine s_keepO (is := [3, 57, 58]) rfl ?_
            refine s_gF rfl ?_
            refine s_gF rfl ?_
            refine s_gF rfl ?_
            refine s_gF rfl ?_
            refine s_op (o_pickF rfl rfl) ?_
            refine s_op (o_mv rfl) ?_
            refine s_nilO ?_
            refine q_seqN ?_
            refine s_keep [4] rfl ?_
            refine s_ret ?_
            refine ret_leaf (.inr rfl) rfl rfl ?_
            refine congrArg (fun b => V.w (.bool b)) ?_
            first | exact (decide_eq_false (fun e => ne_at (by assumption) (by assumption) (MConf.no_beq (by assumption)) (congrArg Conf.masters e))).symm | (have he := eq_end hi.2.1 (by omega) hi.2.2; clear hi; cases x; cases y; simp_all; done) | exact (decide_eq_false (fun e => by subst e; simp_all)).symm
        · intro h7
          try rw [Decidable.not_not] at h7
          refine s_gF rfl ?_
          refine s_keepO (is := [2, 3, 43, 44]) rfl ?_
          refine s_gF rfl ?_
          refine s_gF rfl ?_
          refine s_gF rfl ?_
          refine s_gF rfl ?_
          refine s_op (o_pickF rfl rfl) ?_
          refine s_op (o_mv rfl) ?_
          refine s_gF rfl ?_
          refine s_gF rfl ?_
          refine s_gF rfl ?_
          refine s_gF rfl ?_
          refine s_gF rfl ?_
          refine s_op (o_pickF rfl rfl) ?_
          refine s_op (o_mv rfl) ?_
          refine s_gF rfl ?_
          refine s_keepO (is := [3, 57, 58]) rfl ?_
          refine s_gF rfl ?_
          refine s_gF rfl ?_
          refine s_gF rfl ?_
          refine s_gF rfl ?_
          refine s_op (o_pickF rfl rfl) ?_
          refine s_op (o_mv rfl) ?_
          refine s_nilO ?_
          refine q_seqN ?_
          refine s_keep [4] rfl ?_
          refine s_ret ?_
          refine ret_leaf (.inr rfl) rfl rfl ?_
          refine congrArg (fun b => V.w (.bool b)) ?_
          first | exact (decide_eq_false (fun e => ne_at (by assumption) (by assumption) (MConf.no_beq (by assumption)) (congrArg Conf.masters e))).symm | (have he := eq_end hi.2.1 (by omega) hi.2.2; clear hi; cases x; cases y; simp_all; done) | exact (decide_eq_false (fun e => by subst e; simp_all)).symm
      · intro h6
        try rw [Decidable.not_not] at h6
        refine s_gF rfl ?_
        refine s_gF rfl ?_
        refine s_gF rfl ?_
        refine s_gF rfl ?_
        refine s_gF rfl ?_
        refine s_op (o_pickF rfl rfl) ?_
        refine s_op (o_mv rfl) ?_
        refine s_gF rfl ?_
        refine s_keepO (is := [2, 3, 43, 44]) rfl ?_
        refine s_gF rfl ?_
        refine s_gF rfl ?_
        refine s_gF rfl ?_
        refine s_gF rfl ?_
        refine s_op (o_pickF rfl rfl) ?_
        refine s_op (o_mv rfl) ?_
        refine s_gF rfl ?_
        refine s_gF rfl ?_
        refine s_gF rfl ?_
        refine s_gF rfl ?_
        refine s_gF rfl ?_
        refine s_op (o_pickF rfl rfl) ?_
        refine s_op (o_mv rfl) ?_
        refine s_gF rfl ?_
        refine s_keepO (is := [3, 57, 58]) rfl ?_
        refine s_gF rfl ?_
        refine s_gF rfl ?_
        refine s_gF rfl ?_
        refine s_gF rfl ?_
        refine s_op (o_pickF rfl rfl) ?_
        refine s_op (o_mv rfl) ?_
        refine s_nilO ?_
        refine q_seqN ?_
        refine s_keep [4] rfl ?_
        refine s_ret ?_
        refine ret_leaf (.inr rfl) rfl rfl ?_
        refine congrArg (fun b => V.w (.bool b)) ?_
        first | exact (decide_eq_false (fun e => ne_at (by assumption) (by assumption) (MConf.no_beq (by assumption)) (congrArg Conf.masters e))).symm | (have he := eq_end hi.2.1 (by omega) hi.2.2; clear hi; cases x; cases y; simp_all; done) | exact (decide_eq_false (fun e => by subst e; simp_all)).symm

structure Bus.parts (x y : Bus) : Prop where
  conf : x.conf = y.conf
  now : x.now = y.now
  ms : x.ms = y.ms
  arb : x.arb = y.arb
  buckets : x.buckets = y.buckets
  splits : x.splits = y.splits
  holder : x.holder = y.holder
  kept : x.kept = y.kept
  last : x.last = y.last
  addr : x.addr = y.addr
  data : x.data = y.data
  model : x.model = y.model
  picks : x.picks = y.picks
  log : x.log = y.log
theorem Bus.of_parts {x y : Bus} (h : Bus.parts x y) : x = y := by
  obtain ⟨h1, h2, h3, h4, h5, h6, h7, h8, h9, h10, h11, h12, h13, h14⟩ := h
  cases x; cases y; simp only at *; subst h1 h2 h3 h4 h5 h6 h7 h8 h9 h10 h11 h12 h13 h14; rfl
theorem Bus.log_dec {x y : Bus} (h : x.log = y.log → Bus.parts x y) : decide (x.log = y.log) = decide (x = y) := by
  by_cases hl : x.log = y.log
  · rw [decide_eq_true hl, decide_eq_true (Bus.of_parts (h hl))]
  · rw [decide_eq_false hl, decide_eq_false (fun e => hl (congrArg Bus.log e))]

theorem c_367 (x y : Bus) (hs : x.small) : CV prg 367 [.agg x.r, .agg y.r] (fun res => res = .w (.bool (decide (x = y)))) := by
  refine cv_in g367 ?_
  refine s_keep [0, 1] rfl ?_
  refine S_seq ?_
  refine s_rg ?_
  refine s_op (o_box rfl rfl rfl) ?_
  refine s_op (o_box rfl rfl rfl) ?_
  refine s_op (o_mv rfl) ?_
  refine s_nilO ?_
  refine q_seqN ?_
  refine s_keep [2, 3] rfl ?_
  refine S_seq ?_
  refine s_rg ?_
  refine s_op (o_faC rfl) ?_
  refine s_op (o_ldnC rfl rfl rfl) ?_
  refine s_op (o_faC rfl) ?_
  refine s_op (o_ldnC rfl rfl rfl) ?_
  first | refine s_call rfl rfl (c_384 x.conf y.conf hs.1) ?_ | refine s_callL rfl rfl (by simp) (c_384 x.conf y.conf hs.1) rfl ?_
  refine s_op (o_mv rfl) ?_
  first | refine s_gDT rfl ?_ ?_ | refine s_gNDT rfl ?_ ?_ | refine s_gNT rfl ?_ ?_ | refine s_gB rfl ?_ ?_
  · intro h1
    try rw [Decidable.not_not] at h1
    try have h1' := Wrr.of_beq h1
    try have h1' := Wrr.no_beq h1
    try have h1' := Beat.of_beq h1
    try have h1' := Beat.no_beq h1
    refine s_op (o_faC rfl) ?_
    refine s_gT rfl ?_
    refine s_op (o_ldC rfl rfl rfl) ?_
    refine s_gT rfl ?_
    refine s_op (o_faC rfl) ?_
    refine s_gT rfl ?_
    refine s_op (o_ldC rfl rfl rfl) ?_
    refine s_gT rfl ?_
    first | refine s_op (o_eql rfl rfl) ?_ | refine s_op (o_bin rfl rfl rfl rfl) ?_
    refine s_op (o_pickT rfl rfl) ?_
    refine s_op (o_mv rfl) ?_
    first | refine s_gDT rfl ?_ ?_ | refine s_gNDT rfl ?_ ?_ | refine s_gNT rfl ?_ ?_ | refine s_gB rfl ?_ ?_
    · intro h2
      try rw [Decidable.not_not] at h2
      try have h2' := Wrr.of_beq h2
      try have h2' := Wrr.no_beq h2
      try have h2' := Beat.of_beq h2
      try have h2' := Beat.no_beq h2
      refine s_op (o_faC rfl) ?_
      refine s_keepO (is := [2, 3, 17, 18]) rfl ?_
      refine s_gT rfl ?_
      refine s_op (o_ldC rfl rfl rfl) ?_
      refine s_gT rfl ?_
      refine s_op (o_faC rfl) ?_
      refine s_gT rfl ?_
      refine s_op (o_ldC rfl rfl rfl) ?_
      refine s_gT rfl ?_
      first | refine s_call rfl rfl (c_385 _ _ hs.2.1 _ (fun a b ha => c_70 a b (hs.2.2.1 a ha))) ?_ | refine s_callL rfl rfl (by simp) (c_385 _ _ hs.2.1 _ (fun a b ha => c_70 a b (hs.2.2.1 a ha))) rfl ?_
      refine s_op (o_pickT rfl rfl) ?_
      refine s_op (o_mv rfl) ?_
      first | refine s_gDT rfl ?_ ?_ | refine s_gNDT rfl ?_ ?_ | refine s_gNT rfl ?_ ?_ | refine s_gB rfl ?_ ?_
      · intro h3
        try rw [Decidable.not_not] at h3
        try have h3' := Wrr.of_beq h3
        try have h3' := Wrr.no_beq h3
        try have h3' := Beat.of_beq h3
        try have h3' := Beat.no_beq h3
        refine s_op (o_faC rfl) ?_
        refine s_gT rfl ?_
        refine s_op (o_ldnC rfl rfl rfl) ?_
        refine s_gT rfl ?_
        refine s_op (o_faC rfl) ?_
        refine s_gT rfl ?_
        refine s_op (o_ldnC rfl rfl rfl) ?_
        refine s_gT rfl ?_
        refine s_op (o_eqs rfl rfl rfl rfl rfl) ?_
        refine s_op (o_pickT rfl rfl) ?_
        refine s_op (o_mv rfl) ?_
        first | refine s_gDT rfl ?_ ?_ | refine s_gNDT rfl ?_ ?_ | refine s_gNT rfl ?_ ?_ | refine s_gB rfl ?_ ?_
        · intro h4
          try rw [Decidable.not_not] at h4
          try have h4' := Wrr.of_beq h4
          try have h4' := Wrr.no_beq h4
          try have h4' := Beat.of_beq h4
          try have h4' := Beat.no_beq h4
          refine s_op (o_faC rfl) ?_
          refine s_keepO (is := [2, 3, 31, 32]) rfl ?_
          refine s_gT rfl ?_
          refine s_op (o_ldC rfl rfl rfl) ?_
          refine s_gT rfl ?_
          refine s_op (o_faC rfl) ?_
          refine s_gT rfl ?_
          refine s_op (o_ldC rfl rfl rfl) ?_
          refine s_gT rfl ?_
          first | refine s_call rfl rfl (c_386 _ _ hs.2.2.2.1) ?_ | refine s_callL rfl rfl (by simp) (c_386 _ _ hs.2.2.2.1) rfl ?_
          refine s_op (o_pickT rfl rfl) ?_
          refine s_op (o_mv rfl) ?_
          first | refine s_gDT rfl ?_ ?_ | refine s_gNDT rfl ?_ ?_ | refine s_gNT rfl ?_ ?_ | refine s_gB rfl ?_ ?_
          · intro h5
            try rw [Decidable.not_not] at h5
            try have h5' := Wrr.of_beq h5
            try have h5' := Wrr.no_beq h5
            try have h5' := Beat.of_beq h5
            try have h5' := Beat.no_beq h5
            refine s_op (o_faC rfl) ?_
            refine s_gT rfl ?_
            refine s_op (o_ldC rfl rfl rfl) ?_
            refine s_gT rfl ?_
            refine s_op (o_faC rfl) ?_
            refine s_gT rfl ?_
            refine s_op (o_ldC rfl rfl rfl) ?_
            refine s_gT rfl ?_
            first | refine s_call rfl rfl (c_264 _ _ hs.2.2.2.2.1) ?_ | refine s_callL rfl rfl (by simp) (c_264 _ _ hs.2.2.2.2.1) rfl ?_
            refine s_op (o_pickT rfl rfl) ?_
            refine s_op (o_mv rfl) ?_
            first | refine s_gDT rfl ?_ ?_ | refine s_gNDT rfl ?_ ?_ | refine s_gNT rfl ?_ ?_ | refine s_gB rfl ?_ ?_
            · intro h6
              try rw [Decidable.not_not] at h6
              try have h6' := Wrr.of_beq h6
              try have h6' := Wrr.no_beq h6
              try have h6' := Beat.of_beq h6
              try have h6' := Beat.no_beq h6
              refine s_op (o_faC rfl) ?_
              refine s_keepO (is := [2, 3, 45, 46]) rfl ?_
              refine s_gT rfl ?_
              refine s_op (o_ldC rfl rfl rfl) ?_
              refine s_gT rfl ?_
              refine s_op (o_faC rfl) ?_
              refine s_gT rfl ?_
              refine s_op (o_ldC rfl rfl rfl) ?_
              refine s_gT rfl ?_
              first | refine s_op (o_eql rfl rfl) ?_ | refine s_op (o_bin rfl rfl rfl rfl) ?_
              refine s_op (o_pickT rfl rfl) ?_
              refine s_op (o_mv rfl) ?_
              first | refine s_gDT rfl ?_ ?_ | refine s_gNDT rfl ?_ ?_ | refine s_gNT rfl ?_ ?_ | refine s_gB rfl ?_ ?_
              · intro h7
                try rw [Decidable.not_not] at h7
                try have h7' := Wrr.of_beq h7
                try have h7' := Wrr.no_beq h7
                try have h7' := Beat.of_beq h7
                try have h7' := Beat.no_beq h7
                refine s_op (o_faC rfl) ?_
                refine s_gT rfl ?_
                refine s_op (o_ldC rfl rfl rfl) ?_
                refine s_gT rfl ?_
                refine s_op (o_faC rfl) ?_
                refine s_gT rfl ?_
                refine s_op (o_ldC rfl rfl rfl) ?_
                refine s_gT rfl ?_
                first | refine s_op (o_eql rfl rfl) ?_ | refine s_op (o_bin rfl rfl rfl rfl) ?_
                refine s_op (o_pickT rfl rfl) ?_
                refine s_op (o_mv rfl) ?_
                first | refine s_gDT rfl ?_ ?_ | refine s_gNDT rfl ?_ ?_ | refine s_gNT rfl ?_ ?_ | refine s_gB rfl ?_ ?_
                · intro h8
                  try rw [Decidable.not_not] at h8
                  try have h8' := Wrr.of_beq h8
                  try have h8' := Wrr.no_beq h8
                  try have h8' := Beat.of_beq h8
                  try have h8' := Beat.no_beq h8
                  refine s_op (o_faC rfl) ?_
                  refine s_keepO (is := [2, 3, 59, 60]) rfl ?_
                  refine s_gT rfl ?_
                  refine s_op (o_ldC rfl rfl rfl) ?_
                  refine s_gT rfl ?_
                  refine s_op (o_faC rfl) ?_
                  refine s_gT rfl ?_
                  refine s_op (o_ldC rfl rfl rfl) ?_
                  refine s_gT rfl ?_
                  first | refine s_op (o_eql rfl rfl) ?_ | refine s_op (o_bin rfl rfl rfl rfl) ?_
                  refine s_op (o_pickT rfl rfl) ?_
                  refine s_op (o_mv rfl) ?_
                  first | refine s_gDT rfl ?_ ?_ | refine s_gNDT rfl ?_ ?_ | refine s_gNT rfl ?_ ?_ | refine s_gB rfl ?_ ?_
                  · intro h9
                    try rw [Decidable.not_not] at h9
                    try have h9' := Wrr.of_beq h9
                    try have h9' := Wrr.no_beq h9
                    try have h9' := Beat.of_beq h9
                    try have h9' := Beat.no_beq h9
                    refine s_op (o_faC rfl) ?_
                    refine s_gT rfl ?_
                    refine s_op (o_ldnC rfl rfl rfl) ?_
                    refine s_gT rfl ?_
                    refine s_op (o_faC rfl) ?_
                    refine s_gT rfl ?_
                    refine s_op (o_ldnC rfl rfl rfl) ?_
                    refine s_gT rfl ?_
                    refine s_op (o_eqs rfl rfl rfl rfl rfl) ?_
                    refine s_op (o_pickT rfl rfl) ?_
                    refine s_op (o_mv rfl) ?_
                    first | refine s_gDT rfl ?_ ?_ | refine s_gNDT rfl ?_ ?_ | refine s_gNT rfl ?_ ?_ | refine s_gB rfl ?_ ?_
                    · intro h10
                      try rw [Decidable.not_not] at h10
                      try have h10' := Wrr.of_beq h10
                      try have h10' := Wrr.no_beq h10
                      try have h10' := Beat.of_beq h10
                      try have h10' := Beat.no_beq h10
                      refine s_op (o_faC rfl) ?_
                      refine s_keepO (is := [2, 3, 73, 74]) rfl ?_
                      refine s_gT rfl ?_
                      refine s_op (o_ldnC rfl rfl rfl) ?_
                      refine s_gT rfl ?_
                      refine s_op (o_faC rfl) ?_
                      refine s_gT rfl ?_
                      refine s_op (o_ldnC rfl rfl rfl) ?_
                      refine s_gT rfl ?_
                      refine s_op (o_eqs rfl rfl rfl rfl rfl) ?_
                      refine s_op (o_pickT rfl rfl) ?_
                      refine s_op (o_mv rfl) ?_
                      first | refine s_gDT rfl ?_ ?_ | refine s_gNDT rfl ?_ ?_ | refine s_gNT rfl ?_ ?_ | refine s_gB rfl ?_ ?_
                      · intro h11
                        try rw [Decidable.not_not] at h11
                        try have h11' := Wrr.of_beq h11
                        try have h11' := Wrr.no_beq h11
                        try have h11' := Beat.of_beq h11
                        try have h11' := Beat.no_beq h11
                        refine s_op (o_faC rfl) ?_
                        refine s_gT rfl ?_
                        refine s_op (o_ldnC rfl rfl rfl) ?_
                        refine s_gT rfl ?_
                        refine s_op (o_faC rfl) ?_
                        refine s_gT rfl ?_
                        refine s_op (o_ldnC rfl rfl rfl) ?_
                        refine s_gT rfl ?_
                        first | refine s_call rfl rfl (c_387 x.model y.model hs.2.2.2.2.2.1) ?_ | refine s_callL rfl rfl (by simp) (c_387 x.model y.model hs.2.2.2.2.2.1) rfl ?_
                        refine s_op (o_pickT rfl rfl) ?_
                        refine s_op (o_mv rfl) ?_
                        first | refine s_gDT rfl ?_ ?_ | refine s_gNDT rfl ?_ ?_ | refine s_gNT rfl ?_ ?_ | refine s_gB rfl ?_ ?_
                        · intro h12
                          try rw [Decidable.not_not] at h12
                          try have h12' := Wrr.of_beq h12
                          try have h12' := Wrr.no_beq h12
                          try have h12' := Beat.of_beq h12
                          try have h12' := Beat.no_beq h12
                          refine s_op (o_faC rfl) ?_
                          refine s_keepO (is := [2, 3, 87, 88]) rfl ?_
                          refine s_gT rfl ?_
                          refine s_op (o_ldC rfl rfl rfl) ?_
                          refine s_gT rfl ?_
                          refine s_op (o_faC rfl) ?_
                          refine s_gT rfl ?_
                          refine s_op (o_ldC rfl rfl rfl) ?_
                          refine s_gT rfl ?_
                          first | refine s_op (o_eql rfl rfl) ?_ | refine s_op (o_bin rfl rfl rfl rfl) ?_
                          refine s_op (o_pickT rfl rfl) ?_
                          refine s_op (o_mv rfl) ?_
                          first | refine s_gDT rfl ?_ ?_ | refine s_gNDT rfl ?_ ?_ | refine s_gNT rfl ?_ ?_ | refine s_gB rfl ?_ ?_
                          · intro h13
                            try rw [Decidable.not_not] at h13
                            try have h13' := Wrr.of_beq h13
                            try have h13' := Wrr.no_beq h13
                            try have h13' := Beat.of_beq h13
                            try have h13' := Beat.no_beq h13
                            refine s_op (o_faC rfl) ?_
                            refine s_gT rfl ?_
                            refine s_op (o_ldC rfl rfl rfl) ?_
                            refine s_gT rfl ?_
                            refine s_op (o_faC rfl) ?_
                            refine s_gT rfl ?_
                            refine s_op (o_ldC rfl rfl rfl) ?_
                            refine s_gT rfl ?_
                            first | refine s_call rfl rfl (c_265 _ _ hs.2.2.2.2.2.2) ?_ | refine s_callL rfl rfl (by simp) (c_265 _ _ hs.2.2.2.2.2.2) rfl ?_
                            refine s_op (o_pickT rfl rfl) ?_
                            refine s_op (o_mv rfl) ?_
                            refine s_nilO ?_
                            refine q_seqN ?_
                            refine s_keep [4] rfl ?_
                            refine s_ret ?_
                            refine ret_leaf (.inr rfl) rfl rfl ?_
                            refine congrArg (fun b => V.w (.bool b)) ?_
                            first | (refine (decide_eq_false ?_).symm; clear hs; rintro rfl; simp_all; done) | exact Bus.log_dec (fun _ => ⟨by assumption, by assumption, by assumption, by assumption, by assumption, by assumption, by assumption, by assumption, by assumption, by assumption, by assumption, by assumption, by assumption, by assumption⟩)
                          · intro h13
                            try rw [Decidable.not_not] at h13
                            try have h13' := Wrr.of_beq h13
                            try have h13' := Wrr.no_beq h13
                            try have h13' := Beat.of_beq h13
                            try have h13' := Beat.no_beq h13
                            refine s_gF rfl ?_
                            refine s_gF rfl ?_
                            refine s_gF rfl ?_
                            refine s_gF rfl ?_
                            refine s_gF rfl ?_
                            refine s_op (o_pickF rfl rfl) ?_
                            refine s_op (o_mv rfl) ?_
                            refine s_nilO ?_
                            refine q_seqN ?_
                            refine s_keep [4] rfl ?_
                            refine s_ret ?_
                            refine ret_leaf (.inr rfl) rfl rfl ?_
                            refine congrArg (fun b => V.w (.bool b)) ?_
                            first | (refine (decide_eq_false ?_).symm; clear hs; rintro rfl; simp_all; done) | exact Bus.log_dec (fun _ => ⟨by assumption, by assumption, by assumption, by assumption, by assumption, by assumption, by assumption, by assumption, by assumption, by assumption, by assumption, by assumption, by assumption, by assumption⟩)
                        · intro h12
                          try rw [Decidable.not_not] at h12
                          try have h12' := Wrr.of_beq h12
                          try have h12' := Wrr.no_beq h12
                          try have h12' := Beat.of_beq h12
                          try have h12' := Beat.no_beq h12
                          refine s_gF rfl ?_
                          refine s_keepO (is := [2, 3, 87, 88]) rfl ?_
                          refine s_gF rfl ?_
                          refine s_gF rfl ?_
                          refine s_gF rfl ?_
                          refine s_gF rfl ?_
                          refine s_op (o_pickF rfl rfl) ?_
                          refine s_op (o_mv rfl) ?_
                          refine s_gF rfl ?_
                          refine s_gF rfl ?_
                          refine s_gF rfl ?_
                          refine s_gF rfl ?_
                          refine s_gF rfl ?_
                          refine s_op (o_pickF rfl rfl) ?_
                          refine s_op (o_mv rfl) ?_
                          refine s_nilO ?_
                          refine q_seqN ?_
                          refine s_keep [4] rfl ?_
                          refine s_ret ?_
                          refine ret_leaf (.inr rfl) rfl rfl ?_
                          refine congrArg (fun b => V.w (.bool b)) ?_
                          first | (refine (decide_eq_false ?_).symm; clear hs; rintro rfl; simp_all; done) | exact Bus.log_dec (fun _ => ⟨by assumption, by assumption, by assumption, by assumption, by assumption, by assumption, by assumption, by assumption, by assumption, by assumption, by assumption, by assumption, by assumption, by assumption⟩)
                      · intro h11
                        try rw [Decidable.not_not] at h11
                        try have h11' := Wrr.of_beq h11
                        try have h11' := Wrr.no_beq h11
                        try have h11' := Beat.of_beq h11
                        try have h11' := Beat.no_beq h11
                        refine s_gF rfl ?_
                        refine s_gF rfl ?_
                        refine s_gF rfl ?_
                        refine s_gF rfl ?_
                        refine s_gF rfl ?_
                        refine s_op (o_pickF rfl rfl) ?_
                        refine s_op (o_mv rfl) ?_
                        refine s_gF rfl ?_
                        refine s_keepO (is := [2, 3, 87, 88]) rfl ?_
                        refine s_gF rfl ?_
                        refine s_gF rfl ?_
                        refine s_gF rfl ?_
                        refine s_gF rfl ?_
                        refine s_op (o_pickF rfl rfl) ?_
                        refine s_op (o_mv rfl) ?_
                        refine s_gF rfl ?_
                        refine s_gF rfl ?_
                        refine s_gF rfl ?_
                        refine s_gF rfl ?_
                        refine s_gF rfl ?_
                        refine s_op (o_pickF rfl rfl) ?_
                        refine s_op (o_mv rfl) ?_
                        refine s_nilO ?_
                        refine q_seqN ?_
                        refine s_keep [4] rfl ?_
                        refine s_ret ?_
                        refine ret_leaf (.inr rfl) rfl rfl ?_
                        refine congrArg (fun b => V.w (.bool b)) ?_
                        first | (refine (decide_eq_false ?_).symm; clear hs; rintro rfl; simp_all; done) | exact Bus.log_dec (fun _ => ⟨by assumption, by assumption, by assumption, by assumption, by assumption, by assumption, by assumption, by assumption, by assumption, by assumption, by assumption, by assumption, by assumption, by assumption⟩)
                    · intro h10
                      try rw [Decidable.not_not] at h10
                      try have h10' := Wrr.of_beq h10
                      try have h10' := Wrr.no_beq h10
                      try have h10' := Beat.of_beq h10
                      try have h10' := Beat.no_beq h10
                      refine s_gF rfl ?_
                      refine s_keepO (is := [2, 3, 73, 74]) rfl ?_
                      refine s_gF rfl ?_
                      refine s_gF rfl ?_
                      refine s_gF rfl ?_
                      refine s_gF rfl ?_
                      refine s_op (o_pickF rfl rfl) ?_
                      refine s_op (o_mv rfl) ?_
                      refine s_gF rfl ?_
                      refine s_gF rfl ?_
                      refine s_gF rfl ?_
                      refine s_gF rfl ?_
                      refine s_gF rfl ?_
                      refine s_op (o_pickF rfl rfl) ?_
                      refine s_op (o_mv rfl) ?_
                      refine s_gF rfl ?_
                      refine s_keepO (is := [2, 3, 87, 88]) rfl ?_
                      refine s_gF rfl ?_
                      refine s_gF rfl ?_
                      refine s_gF rfl ?_
                      refine s_gF rfl ?_
                      refine s_op (o_pickF rfl rfl) ?_
                      refine s_op (o_mv rfl) ?_
                      refine s_gF rfl ?_
                      refine s_gF rfl ?_
                      refine s_gF rfl ?_
                      refine s_gF rfl ?_
                      refine s_gF rfl ?_
                      refine s_op (o_pickF rfl rfl) ?_
                      refine s_op (o_mv rfl) ?_
                      refine s_nilO ?_
                      refine q_seqN ?_
                      refine s_keep [4] rfl ?_
                      refine s_ret ?_
                      refine ret_leaf (.inr rfl) rfl rfl ?_
                      refine congrArg (fun b => V.w (.bool b)) ?_
                      first | (refine (decide_eq_false ?_).symm; clear hs; rintro rfl; simp_all; done) | exact Bus.log_dec (fun _ => ⟨by assumption, by assumption, by assumption, by assumption, by assumption, by assumption, by assumption, by assumption, by assumption, by assumption, by assumption, by assumption, by assumption, by assumption⟩)
                  · intro h9
                    try rw [Decidable.not_not] at h9
                    try have h9' := Wrr.of_beq h9
                    try have h9' := Wrr.no_beq h9
                    try have h9' := Beat.of_beq h9
                    try have h9' := Beat.no_beq h9
                    refine s_gF rfl ?_
                    refine s_gF rfl ?_
                    refine s_gF rfl ?_
                    refine s_gF rfl ?_
                    refine s_gF rfl ?_
                    refine s_op (o_pickF rfl rfl) ?_
                    refine s_op (o_mv rfl) ?_
                    refine s_gF rfl ?_
                    refine s_keepO (is := [2, 3, 73, 74]) rfl ?_
                    refine s_gF rfl ?_
                    refine s_gF rfl ?_
                    refine s_gF rfl ?_
                    refine s_gF rfl ?_
                    refine s_op (o_pickF rfl rfl) ?_
                    refine s_op (o_mv rfl) ?_
                    refine s_gF rfl ?_
                    refine s_gF rfl ?_
                    refine s_gF rfl ?_
                    refine s_gF rfl ?_
                    refine s_gF rfl ?_
                    refine s_op (o_pickF rfl rfl) ?_
                    refine s_op (o_mv rfl) ?_
                    refine s_gF rfl ?_
                    refine s_keepO (is := [2, 3, 87, 88]) rfl ?_
                    refine s_gF rfl ?_
                    refine s_gF rfl ?_
                    refine s_gF rfl ?_
                    refine s_gF rfl ?_
                    refine s_op (o_pickF rfl rfl) ?_
                    refine s_op (o_mv rfl) ?_
                    refine s_gF rfl ?_
                    refine s_gF rfl ?_
                    refine s_gF rfl ?_
                    refine s_gF rfl ?_
                    refine s_gF rfl ?_
                    refine s_op (o_pickF rfl rfl) ?_
                    refine s_op (o_mv rfl) ?_
                    refine s_nilO ?_
                    refine q_seqN ?_
                    refine s_keep [4] rfl ?_
                    refine s_ret ?_
                    refine ret_leaf (.inr rfl) rfl rfl ?_
                    refine congrArg (fun b => V.w (.bool b)) ?_
                    first | (refine (decide_eq_false ?_).symm; clear hs; rintro rfl; simp_all; done) | exact Bus.log_dec (fun _ => ⟨by assumption, by assumption, by assumption, by assumption, by assumption, by assumption, by assumption, by assumption, by assumption, by assumption, by assumption, by assumption, by assumption, by assumption⟩)
                · intro h8
                  try rw [Decidable.not_not] at h8
                  try have h8' := Wrr.of_beq h8
                  try have h8' := Wrr.no_beq h8
                  try have h8' := Beat.of_beq h8
                  try have h8' := Beat.no_beq h8
                  refine s_gF rfl ?_
                  refine s_keepO (is := [2, 3, 59, 60]) rfl ?_
                  refine s_gF rfl ?_
                  refine s_gF rfl ?_
                  refine s_gF rfl ?_
                  refine s_gF rfl ?_
                  refine s_op (o_pickF rfl rfl) ?_
                  refine s_op (o_mv rfl) ?_
                  refine s_gF rfl ?_
                  refine s_gF rfl ?_
                  refine s_gF rfl ?_
                  refine s_gF rfl ?_
                  refine s_gF rfl ?_
                  refine s_op (o_pickF rfl rfl) ?_
                  refine s_op (o_mv rfl) ?_
                  refine s_gF rfl ?_
                  refine s_keepO (is := [2, 3, 73, 74]) rfl ?_
                  refine s_gF rfl ?_
                  refine s_gF rfl ?_
                  refine s_gF rfl ?_
                  refine s_gF rfl ?_
                  refine s_op (o_pickF rfl rfl) ?_
                  refine s_op (o_mv rfl) ?_
                  refine s_gF rfl ?_
                  refine s_gF rfl ?_
                  refine s_gF rfl ?_
                  refine s_gF rfl ?_
                  refine s_gF rfl ?_
                  refine s_op (o_pickF rfl rfl) ?_
                  refine s_op (o_mv rfl) ?_
                  refine s_gF rfl ?_
                  refine s_keepO (is := [2, 3, 87, 88]) rfl ?_
                  refine s_gF rfl ?_
                  refine s_gF rfl ?_
                  refine s_gF rfl ?_
                  refine s_gF rfl ?_
                  refine s_op (o_pickF rfl rfl) ?_
                  refine s_op (o_mv rfl) ?_
                  refine s_gF rfl ?_
                  refine s_gF rfl ?_
                  refine s_gF rfl ?_
                  refine s_gF rfl ?_
                  refine s_gF rfl ?_
                  refine s_op (o_pickF rfl rfl) ?_
                  refine s_op (o_mv rfl) ?_
                  refine s_nilO ?_
                  refine q_seqN ?_
                  refine s_keep [4] rfl ?_
                  refine s_ret ?_
                  refine ret_leaf (.inr rfl) rfl rfl ?_
                  refine congrArg (fun b => V.w (.bool b)) ?_
                  first | (refine (decide_eq_false ?_).symm; clear hs; rintro rfl; simp_all; done) | exact Bus.log_dec (fun _ => ⟨by assumption, by assumption, by assumption, by assumption, by assumption, by assumption, by assumption, by assumption, by assumption, by assumption, by assumption, by assumption, by assumption, by assumption⟩)
              · intro h7
                try rw [Decidable.not_not] at h7
                try have h7' := Wrr.of_beq h7
                try have h7' := Wrr.no_beq h7
                try have h7' := Beat.of_beq h7
                try have h7' := Beat.no_beq h7
                refine s_gF rfl ?_
                refine s_gF rfl ?_
                refine s_gF rfl ?_
                refine s_gF rfl ?_
                refine s_gF rfl ?_
                refine s_op (o_pickF rfl rfl) ?_
                refine s_op (o_mv rfl) ?_
                refine s_gF rfl ?_
                refine s_keepO (is := [2, 3, 59, 60]) rfl ?_
                refine s_gF rfl ?_
                refine s_gF rfl ?_
                refine s_gF rfl ?_
                refine s_gF rfl ?_
                refine s_op (o_pickF rfl rfl) ?_
                refine s_op (o_mv rfl) ?_
                refine s_gF rfl ?_
                refine s_gF rfl ?_
                refine s_gF rfl ?_
                refine s_gF rfl ?_
                refine s_gF rfl ?_
                refine s_op (o_pickF rfl rfl) ?_
                refine s_op (o_mv rfl) ?_
                refine s_gF rfl ?_
                refine s_keepO (is := [2, 3, 73, 74]) rfl ?_
                refine s_gF rfl ?_
                refine s_gF rfl ?_
                refine s_gF rfl ?_
                refine s_gF rfl ?_
                refine s_op (o_pickF rfl rfl) ?_
                refine s_op (o_mv rfl) ?_
                refine s_gF rfl ?_
                refine s_gF rfl ?_
                refine s_gF rfl ?_
                refine s_gF rfl ?_
                refine s_gF rfl ?_
                refine s_op (o_pickF rfl rfl) ?_
                refine s_op (o_mv rfl) ?_
                refine s_gF rfl ?_
                refine s_keepO (is := [2, 3, 87, 88]) rfl ?_
                refine s_gF rfl ?_
                refine s_gF rfl ?_
                refine s_gF rfl ?_
                refine s_gF rfl ?_
                refine s_op (o_pickF rfl rfl) ?_
                refine s_op (o_mv rfl) ?_
                refine s_gF rfl ?_
                refine s_gF rfl ?_
                refine s_gF rfl ?_
                refine s_gF rfl ?_
                refine s_gF rfl ?_
                refine s_op (o_pickF rfl rfl) ?_
                refine s_op (o_mv rfl) ?_
                refine s_nilO ?_
                refine q_seqN ?_
                refine s_keep [4] rfl ?_
                refine s_ret ?_
                refine ret_leaf (.inr rfl) rfl rfl ?_
                refine congrArg (fun b => V.w (.bool b)) ?_
                first | (refine (decide_eq_false ?_).symm; clear hs; rintro rfl; simp_all; done) | exact Bus.log_dec (fun _ => ⟨by assumption, by assumption, by assumption, by assumption, by assumption, by assumption, by assumption, by assumption, by assumption, by assumption, by assumption, by assumption, by assumption, by assumption⟩)
            · intro h6
              try rw [Decidable.not_not] at h6
              try have h6' := Wrr.of_beq h6
              try have h6' := Wrr.no_beq h6
              try have h6' := Beat.of_beq h6
              try have h6' := Beat.no_beq h6
              refine s_gF rfl ?_
              refine s_keepO (is := [2, 3, 45, 46]) rfl ?_
              refine s_gF rfl ?_
              refine s_gF rfl ?_
              refine s_gF rfl ?_
              refine s_gF rfl ?_
              refine s_op (o_pickF rfl rfl) ?_
              refine s_op (o_mv rfl) ?_
              refine s_gF rfl ?_
              refine s_gF rfl ?_
              refine s_gF rfl ?_
              refine s_gF rfl ?_
              refine s_gF rfl ?_
              refine s_op (o_pickF rfl rfl) ?_
              refine s_op (o_mv rfl) ?_
              refine s_gF rfl ?_
              refine s_keepO (is := [2, 3, 59, 60]) rfl ?_
              refine s_gF rfl ?_
              refine s_gF rfl ?_
              refine s_gF rfl ?_
              refine s_gF rfl ?_
              refine s_op (o_pickF rfl rfl) ?_
              refine s_op (o_mv rfl) ?_
              refine s_gF rfl ?_
              refine s_gF rfl ?_
              refine s_gF rfl ?_
              refine s_gF rfl ?_
              refine s_gF rfl ?_
              refine s_op (o_pickF rfl rfl) ?_
              refine s_op (o_mv rfl) ?_
              refine s_gF rfl ?_
              refine s_keepO (is := [2, 3, 73, 74]) rfl ?_
              refine s_gF rfl ?_
              refine s_gF rfl ?_
              refine s_gF rfl ?_
              refine s_gF rfl ?_
              refine s_op (o_pickF rfl rfl) ?_
              refine s_op (o_mv rfl) ?_
              refine s_gF rfl ?_
              refine s_gF rfl ?_
              refine s_gF rfl ?_
              refine s_gF rfl ?_
              refine s_gF rfl ?_
              refine s_op (o_pickF rfl rfl) ?_
              refine s_op (o_mv rfl) ?_
              refine s_gF rfl ?_
              refine s_keepO (is := [2, 3, 87, 88]) rfl ?_
              refine s_gF rfl ?_
              refine s_gF rfl ?_
              refine s_gF rfl ?_
              refine s_gF rfl ?_
              refine s_op (o_pickF rfl rfl) ?_
              refine s_op (o_mv rfl) ?_
              refine s_gF rfl ?_
              refine s_gF rfl ?_
              refine s_gF rfl ?_
              refine s_gF rfl ?_
              refine s_gF rfl ?_
              refine s_op (o_pickF rfl rfl) ?_
              refine s_op (o_mv rfl) ?_
              refine s_nilO ?_
              refine q_seqN ?_
              refine s_keep [4] rfl ?_
              refine s_ret ?_
              refine ret_leaf (.inr rfl) rfl rfl ?_
              refine congrArg (fun b => V.w (.bool b)) ?_
              first | (refine (decide_eq_false ?_).symm; clear hs; rintro rfl; simp_all; done) | exact Bus.log_dec (fun _ => ⟨by assumption, by assumption, by assumption, by assumption, by assumption, by assumption, by assumption, by assumption, by assumption, by assumption, by assumption, by assumption, by assumption, by assumption⟩)
          · intro h5
            try rw [Decidable.not_not] at h5
            try have h5' := Wrr.of_beq h5
            try have h5' := Wrr.no_beq h5
            try have h5' := Beat.of_beq h5
            try have h5' := Beat.no_beq h5
            refine s_gF rfl ?_
            refine s_gF rfl ?_
            refine s_gF rfl ?_
            refine s_gF rfl ?_
            refine s_gF rfl ?_
            refine s_op (o_pickF rfl rfl) ?_
            refine s_op (o_mv rfl) ?_
            refine s_gF rfl ?_
            refine s_keepO (is := [2, 3, 45, 46]) rfl ?_
            refine s_gF rfl ?_
            refine s_gF rfl ?_
            refine s_gF rfl ?_
            refine s_gF rfl ?_
            refine s_op (o_pickF rfl rfl) ?_
            refine s_op (o_mv rfl) ?_
            refine s_gF rfl ?_
            refine s_gF rfl ?_
            refine s_gF rfl ?_
            refine s_gF rfl ?_
            refine s_gF rfl ?_
            refine s_op (o_pickF rfl rfl) ?_
            refine s_op (o_mv rfl) ?_
            refine s_gF rfl ?_
            refine s_keepO (is := [2, 3, 59, 60]) rfl ?_
            refine s_gF rfl ?_
            refine s_gF rfl ?_
            refine s_gF rfl ?_
            refine s_gF rfl ?_
            refine s_op (o_pickF rfl rfl) ?_
            refine s_op (o_mv rfl) ?_
            refine s_gF rfl ?_
            refine s_gF rfl ?_
            refine s_gF rfl ?_
            refine s_gF rfl ?_
            refine s_gF rfl ?_
            refine s_op (o_pickF rfl rfl) ?_
            refine s_op (o_mv rfl) ?_
            refine s_gF rfl ?_
            refine s_keepO (is := [2, 3, 73, 74]) rfl ?_
            refine s_gF rfl ?_
            refine s_gF rfl ?_
            refine s_gF rfl ?_
            refine s_gF rfl ?_
            refine s_op (o_pickF rfl rfl) ?_
            refine s_op (o_mv rfl) ?_
            refine s_gF rfl ?_
            refine s_gF rfl ?_
            refine s_gF rfl ?_
            refine s_gF rfl ?_
            refine s_gF rfl ?_
            refine s_op (o_pickF rfl rfl) ?_
            refine s_op (o_mv rfl) ?_
            refine s_gF rfl ?_
            refine s_keepO (is := [2, 3, 87, 88]) rfl ?_
            refine s_gF rfl ?_
            refine s_gF rfl ?_
            refine s_gF rfl ?_
            refine s_gF rfl ?_
            refine s_op (o_pickF rfl rfl) ?_
            refine s_op (o_mv rfl) ?_
            refine s_gF rfl ?_
            refine s_gF rfl ?_
            refine s_gF rfl ?_
            refine s_gF rfl ?_
            refine s_gF rfl ?_
            refine s_op (o_pickF rfl rfl) ?_
            refine s_op (o_mv rfl) ?_
            refine s_nilO ?_
            refine q_seqN ?_
            refine s_keep [4] rfl ?_
            refine s_ret ?_
            refine ret_leaf (.inr rfl) rfl rfl ?_
            refine congrArg (fun b => V.w (.bool b)) ?_
            first | (refine (decide_eq_false ?_).symm; clear hs; rintro rfl; simp_all; done) | exact Bus.log_dec (fun _ => ⟨by assumption, by assumption, by assumption, by assumption, by assumption, by assumption, by assumption, by assumption, by assumption, by assumption, by assumption, by assumption, by assumption, by assumption⟩)
        · intro h4
          try rw [Decidable.not_not] at h4
          try have h4' := Wrr.of_beq h4
          try have h4' := Wrr.no_beq h4
          try have h4' := Beat.of_beq h4
          try have h4' := Beat.no_beq h4
          refine s_gF rfl ?_
          refine s_keepO (is := [2, 3, 31, 32]) rfl ?_
          refine s_gF rfl ?_
          refine s_gF rfl ?_
          refine s_gF rfl ?_
          refine s_gF rfl ?_
          refine s_op (o_pickF rfl rfl) ?_
          refine s_op (o_mv rfl) ?_
          refine s_gF rfl ?_
          refine s_gF rfl ?_
          refine s_gF rfl ?_
          refine s_gF rfl ?_
          refine s_gF rfl ?_
          refine s_op (o_pickF rfl rfl) ?_
          refine s_op (o_mv rfl) ?_
          refine s_gF rfl ?_
          refine s_keepO (is := [2, 3, 45, 46]) rfl ?_
          refine s_gF rfl ?_
          refine s_gF rfl ?_
          refine s_gF rfl ?_
          refine s_gF rfl ?_
          refine s_op (o_pickF rfl rfl) ?_
          refine s_op (o_mv rfl) ?_
          refine s_gF rfl ?_
          refine s_gF rfl ?_
          refine s_gF rfl ?_
          refine s_gF rfl ?_
          refine s_gF rfl ?_
          refine s_op (o_pickF rfl rfl) ?_
          refine s_op (o_mv rfl) ?_
          refine s_gF rfl ?_
          refine s_keepO (is := [2, 3, 59, 60]) rfl ?_
          refine s_gF rfl ?_
          refine s_gF rfl ?_
          refine s_gF rfl ?_
          refine s_gF rfl ?_
          refine s_op (o_pickF rfl rfl) ?_
          refine s_op (o_mv rfl) ?_
          refine s_gF rfl ?_
          refine s_gF rfl ?_
          refine s_gF rfl ?_
          refine s_gF rfl ?_
          refine s_gF rfl ?_
          refine s_op (o_pickF rfl rfl) ?_
          refine s_op (o_mv rfl) ?_
          refine s_gF rfl ?_
          refine s_keepO (is := [2, 3, 73, 74]) rfl ?_
          refine s_gF rfl ?_
          refine s_gF rfl ?_
          refine s_gF rfl ?_
          refine s_gF rfl ?_
          refine s_op (o_pickF rfl rfl) ?_
          refine s_op (o_mv rfl) ?_
          refine s_gF rfl ?_
          refine s_gF rfl ?_
          refine s_gF rfl ?_
          refine s_gF rfl ?_
          refine s_gF rfl ?_
          refine s_op (o_pickF rfl rfl) ?_
          refine s_op (o_mv rfl) ?_
          refine s_gF rfl ?_
          refine s_keepO (is := [2, 3, 87, 88]) rfl ?_
          refine s_gF rfl ?_
          refine s_gF rfl ?_
          refine s_gF rfl ?_
          refine s_gF rfl ?_
          refine s_op (o_pickF rfl rfl) ?_
          refine s_op (o_mv rfl) ?_
          refine s_gF rfl ?_
          refine s_gF rfl ?_
          refine s_gF rfl ?_
          refine s_gF rfl ?_
          refine s_gF rfl ?_
          refine s_op (o_pickF rfl rfl) ?_
          refine s_op (o_mv rfl) ?_
          refine s_nilO ?_
          refine q_seqN ?_
          refine s_keep [4] rfl ?_
          refine s_ret ?_
          refine ret_leaf (.inr rfl) rfl rfl ?_
          refine congrArg (fun b => V.w (.bool b)) ?_
          first | (refine (decide_eq_false ?_).symm; clear hs; rintro rfl; simp_all; done) | exact Bus.log_dec (fun _ => ⟨by assumption, by assumption, by assumption, by assumption, by assumption, by assumption, by assumption, by assumption, by assumption, by assumption, by assumption, by assumption, by assumption, by assumption⟩)
      · intro h3
        try rw [Decidable.not_not] at h3
        try have h3' := Wrr.of_beq h3
        try have h3' := Wrr.no_beq h3
        try have h3' := Beat.of_beq h3
        try have h3' := Beat.no_beq h3
        refine s_gF rfl ?_
        refine s_gF rfl ?_
        refine s_gF rfl ?_
        refine s_gF rfl ?_
        refine s_gF rfl ?_
        refine s_op (o_pickF rfl rfl) ?_
        refine s_op (o_mv rfl) ?_
        refine s_gF rfl ?_
        refine s_keepO (is := [2, 3, 31, 32]) rfl ?_
        refine s_gF rfl ?_
        refine s_gF rfl ?_
        refine s_gF rfl ?_
        refine s_gF rfl ?_
        refine s_op (o_pickF rfl rfl) ?_
        refine s_op (o_mv rfl) ?_
        refine s_gF rfl ?_
        refine s_gF rfl ?_
        refine s_gF rfl ?_
        refine s_gF rfl ?_
        refine s_gF rfl ?_
        refine s_op (o_pickF rfl rfl) ?_
        refine s_op (o_mv rfl) ?_
        refine s_gF rfl ?_
        refine s_keepO (is := [2, 3, 45, 46]) rfl ?_
        refine s_gF rfl ?_
        refine s_gF rfl ?_
        refine s_gF rfl ?_
        refine s_gF rfl ?_
        refine s_op (o_pickF rfl rfl) ?_
        refine s_op (o_mv rfl) ?_
        refine s_gF rfl ?_
        refine s_gF rfl ?_
        refine s_gF rfl ?_
        refine s_gF rfl ?_
        refine s_gF rfl ?_
        refine s_op (o_pickF rfl rfl) ?_
        refine s_op (o_mv rfl) ?_
        refine s_gF rfl ?_
        refine s_keepO (is := [2, 3, 59, 60]) rfl ?_
        refine s_gF rfl ?_
        refine s_gF rfl ?_
        refine s_gF rfl ?_
        refine s_gF rfl ?_
        refine s_op (o_pickF rfl rfl) ?_
        refine s_op (o_mv rfl) ?_
        refine s_gF rfl ?_
        refine s_gF rfl ?_
        refine s_gF rfl ?_
        refine s_gF rfl ?_
        refine s_gF rfl ?_
        refine s_op (o_pickF rfl rfl) ?_
        refine s_op (o_mv rfl) ?_
        refine s_gF rfl ?_
        refine s_keepO (is := [2, 3, 73, 74]) rfl ?_
        refine s_gF rfl ?_
        refine s_gF rfl ?_
        refine s_gF rfl ?_
        refine s_gF rfl ?_
        refine s_op (o_pickF rfl rfl) ?_
        refine s_op (o_mv rfl) ?_
        refine s_gF rfl ?_
        refine s_gF rfl ?_
        refine s_gF rfl ?_
        refine s_gF rfl ?_
        refine s_gF rfl ?_
        refine s_op (o_pickF rfl rfl) ?_
        refine s_op (o_mv rfl) ?_
        refine s_gF rfl ?_
        refine s_keepO (is := [2, 3, 87, 88]) rfl ?_
        refine s_gF rfl ?_
        refine s_gF rfl ?_
        refine s_gF rfl ?_
        refine s_gF rfl ?_
        refine s_op (o_pickF rfl rfl) ?_
        refine s_op (o_mv rfl) ?_
        refine s_gF rfl ?_
        refine s_gF rfl ?_
        refine s_gF rfl ?_
        refine s_gF rfl ?_
        refine s_gF rfl ?_
        refine s_op (o_pickF rfl rfl) ?_
        refine s_op (o_mv rfl) ?_
        refine s_nilO ?_
        refine q_seqN ?_
        refine s_keep [4] rfl ?_
        refine s_ret ?_
        refine ret_leaf (.inr rfl) rfl rfl ?_
        refine congrArg (fun b => V.w (.bool b)) ?_
        first | (refine (decide_eq_false ?_).symm; clear hs; rintro rfl; simp_all; done) | exact Bus.log_dec (fun _ => ⟨by assumption, by assumption, by assumption, by assumption, by assumption, by assumption, by assumption, by assumption, by assumption, by assumption, by assumption, by assumption, by assumption, by assumption⟩)
    · intro h2
      try rw [Decidable.not_not] at h2
      try have h2' := Wrr.of_beq h2
      try have h2' := Wrr.no_beq h2
      try have h2' := Beat.of_beq h2
      try have h2' := Beat.no_beq h2
      refine s_gF rfl ?_
      refine s_keepO (is := [2, 3, 17, 18]) rfl ?_
      refine s_gF rfl ?_
      refine s_gF rfl ?_
      refine s_gF rfl ?_
      refine s_gF rfl ?_
      refine s_op (o_pickF rfl rfl) ?_
      refine s_op (o_mv rfl) ?_
      refine s_gF rfl ?_
      refine s_gF rfl ?_
      refine s_gF rfl ?_
      refine s_gF rfl ?_
      refine s_gF rfl ?_
      refine s_op (o_pickF rfl rfl) ?_
      refine s_op (o_mv rfl) ?_
      refine s_gF rfl ?_
      refine s_keepO (is := [2, 3, 31, 32]) rfl ?_
      refine s_gF rfl ?_
      refine s_gF rfl ?_
      refine s_gF rfl ?_
      refine s_gF rfl ?_
      refine s_op (o_pickF rfl rfl) ?_
      refine s_op (o_mv rfl) ?_
      refine s_gF rfl ?_
      refine s_gF rfl ?_
      refine s_gF rfl ?_
      refine s_gF rfl ?_
      refine s_gF rfl ?_
      refine s_op (o_pickF rfl rfl) ?_
      refine s_op (o_mv rfl) ?_
      refine s_gF rfl ?_
      refine s_keepO (is := [2, 3, 45, 46]) rfl ?_
      refine s_gF rfl ?_
      refine s_gF rfl ?_
      refine s_gF rfl ?_
      refine s_gF rfl ?_
      refine s_op (o_pickF rfl rfl) ?_
      refine s_op (o_mv rfl) ?_
      refine s_gF rfl ?_
      refine s_gF rfl ?_
      refine s_gF rfl ?_
      refine s_gF rfl ?_
      refine s_gF rfl ?_
      refine s_op (o_pickF rfl rfl) ?_
      refine s_op (o_mv rfl) ?_
      refine s_gF rfl ?_
      refine s_keepO (is := [2, 3, 59, 60]) rfl ?_
      refine s_gF rfl ?_
      refine s_gF rfl ?_
      refine s_gF rfl ?_
      refine s_gF rfl ?_
      refine s_op (o_pickF rfl rfl) ?_
      refine s_op (o_mv rfl) ?_
      refine s_gF rfl ?_
      refine s_gF rfl ?_
      refine s_gF rfl ?_
      refine s_gF rfl ?_
      refine s_gF rfl ?_
      refine s_op (o_pickF rfl rfl) ?_
      refine s_op (o_mv rfl) ?_
      refine s_gF rfl ?_
      refine s_keepO (is := [2, 3, 73, 74]) rfl ?_
      refine s_gF rfl ?_
      refine s_gF rfl ?_
      refine s_gF rfl ?_
      refine s_gF rfl ?_
      refine s_op (o_pickF rfl rfl) ?_
      refine s_op (o_mv rfl) ?_
      refine s_gF rfl ?_
      refine s_gF rfl ?_
      refine s_gF rfl ?_
      refine s_gF rfl ?_
      refine s_gF rfl ?_
      refine s_op (o_pickF rfl rfl) ?_
      refine s_op (o_mv rfl) ?_
      refine s_gF rfl ?_
      refine s_keepO (is := [2, 3, 87, 88]) rfl ?_
      refine s_gF rfl ?_
      refine s_gF rfl ?_
      refine s_gF rfl ?_
      refine s_gF rfl ?_
      refine s_op (o_pickF rfl rfl) ?_
      refine s_op (o_mv rfl) ?_
      refine s_gF rfl ?_
      refine s_gF rfl ?_
      refine s_gF rfl ?_
      refine s_gF rfl ?_
      refine s_gF rfl ?_
      refine s_op (o_pickF rfl rfl) ?_
      refine s_op (o_mv rfl) ?_
      refine s_nilO ?_
      refine q_seqN ?_
      refine s_keep [4] rfl ?_
      refine s_ret ?_
      refine ret_leaf (.inr rfl) rfl rfl ?_
      refine congrArg (fun b => V.w (.bool b)) ?_
      first | (refine (decide_eq_false ?_).symm; clear hs; rintro rfl; simp_all; done) | exact Bus.log_dec (fun _ => ⟨by assumption, by assumption, by assumption, by assumption, by assumption, by assumption, by assumption, by assumption, by assumption, by assumption, by assumption, by assumption, by assumption, by assumption⟩)
  · intro h1
    try rw [Decidable.not_not] at h1
    try have h1' := Wrr.of_beq h1
    try have h1' := Wrr.no_beq h1
    try have h1' := Beat.of_beq h1
    try have h1' := Beat.no_beq h1
    refine s_gF rfl ?_
    refine s_gF rfl ?_
    refine s_gF rfl ?_
    refine s_gF rfl ?_
    refine s_gF rfl ?_
    refine s_op (o_pickF rfl rfl) ?_
    refine s_op (o_mv rfl) ?_
    refine s_gF rfl ?_
    refine s_keepO (is := [2, 3, 17, 18]) rfl ?_
    refine s_gF rfl ?_
    refine s_gF rfl ?_
    refine s_gF rfl ?_
    refine s_gF rfl ?_
    refine s_op (o_pickF rfl rfl) ?_
    refine s_op (o_mv rfl) ?_
    refine s_gF rfl ?_
    refine s_gF rfl ?_
    refine s_gF rfl ?_
    refine s_gF rfl ?_
    refine s_gF rfl ?_
    refine s_op (o_pickF rfl rfl) ?_
    refine s_op (o_mv rfl) ?_
    refine s_gF rfl ?_
    refine s_keepO (is := [2, 3, 31, 32]) rfl ?_
    refine s_gF rfl ?_
    refine s_gF rfl ?_
    refine s_gF rfl ?_
    refine s_gF rfl ?_
    refine s_op (o_pickF rfl rfl) ?_
    refine s_op (o_mv rfl) ?_
    refine s_gF rfl ?_
    refine s_gF rfl ?_
    refine s_gF rfl ?_
    refine s_gF rfl ?_
    refine s_gF rfl ?_
    refine s_op (o_pickF rfl rfl) ?_
    refine s_op (o_mv rfl) ?_
    refine s_gF rfl ?_
    refine s_keepO (is := [2, 3, 45, 46]) rfl ?_
    refine s_gF rfl ?_
    refine s_gF rfl ?_
    refine s_gF rfl ?_
    refine s_gF rfl ?_
    refine s_op (o_pickF rfl rfl) ?_
    refine s_op (o_mv rfl) ?_
    refine s_gF rfl ?_
    refine s_gF rfl ?_
    refine s_gF rfl ?_
    refine s_gF rfl ?_
    refine s_gF rfl ?_
    refine s_op (o_pickF rfl rfl) ?_
    refine s_op (o_mv rfl) ?_
    refine s_gF rfl ?_
    refine s_keepO (is := [2, 3, 59, 60]) rfl ?_
    refine s_gF rfl ?_
    refine s_gF rfl ?_
    refine s_gF rfl ?_
    refine s_gF rfl ?_
    refine s_op (o_pickF rfl rfl) ?_
    refine s_op (o_mv rfl) ?_
    refine s_gF rfl ?_
    refine s_gF rfl ?_
    refine s_gF rfl ?_
    refine s_gF rfl ?_
    refine s_gF rfl ?_
    refine s_op (o_pickF rfl rfl) ?_
    refine s_op (o_mv rfl) ?_
    refine s_gF rfl ?_
    refine s_keepO (is := [2, 3, 73, 74]) rfl ?_
    refine s_gF rfl ?_
    refine s_gF rfl ?_
    refine s_gF rfl ?_
    refine s_gF rfl ?_
    refine s_op (o_pickF rfl rfl) ?_
    refine s_op (o_mv rfl) ?_
    refine s_gF rfl ?_
    refine s_gF rfl ?_
    refine s_gF rfl ?_
    refine s_gF rfl ?_
    refine s_gF rfl ?_
    refine s_op (o_pickF rfl rfl) ?_
    refine s_op (o_mv rfl) ?_
    refine s_gF rfl ?_
    refine s_keepO (is := [2, 3, 87, 88]) rfl ?_
    refine s_gF rfl ?_
    refine s_gF rfl ?_
    refine s_gF rfl ?_
    refine s_gF rfl ?_
    refine s_op (o_pickF rfl rfl) ?_
    refine s_op (o_mv rfl) ?_
    refine s_gF rfl ?_
    refine s_gF rfl ?_
    refine s_gF rfl ?_
    refine s_gF rfl ?_
    refine s_gF rfl ?_
    refine s_op (o_pickF rfl rfl) ?_
    refine s_op (o_mv rfl) ?_
    refine s_nilO ?_
    refine q_seqN ?_
    refine s_keep [4] rfl ?_
    refine s_ret ?_
    refine ret_leaf (.inr rfl) rfl rfl ?_
    refine congrArg (fun b => V.w (.bool b)) ?_
    first | (refine (decide_eq_false ?_).symm; clear hs; rintro rfl; simp_all; done) | exact Bus.log_dec (fun _ => ⟨by assumption, by assumption, by assumption, by assumption, by assumption, by assumption, by assumption, by assumption, by assumption, by assumption, by assumption, by assumption, by assumption, by assumption⟩)

theorem c_366 (x y : Bus) (hs : x.small) : CV prg 366 [.agg x.r, .agg y.r] (fun res => res = .w (.bool (decide (x = y)))) := by
  have hm := hs.2.1
  have hb := hs.2.2.2.1
  refine cv_in g366 ?_
  refine s_keep [0, 1] rfl ?_
  refine S_seq ?_
  refine s_rg ?_
  refine s_op (o_box rfl rfl rfl) ?_
  refine s_op (o_box rfl rfl rfl) ?_
  refine s_op (o_mv rfl) ?_
  refine s_nilO ?_
  refine q_seqN ?_
  refine s_keep [2, 3] rfl ?_
  refine S_seq ?_
  refine S_seq ?_
  refine s_rg ?_
  refine s_op (o_faC rfl) ?_
  refine s_op (o_ldnC rfl rfl rfl) ?_
  refine s_op (o_faC rfl) ?_
  refine s_op (o_ldnC rfl rfl rfl) ?_
  first | refine s_call rfl rfl (c_382 x.conf y.conf hs.1) ?_ | refine s_callL rfl rfl (by simp) (c_382 x.conf y.conf hs.1) rfl ?_
  refine s_op (o_not rfl) ?_
  refine s_op (o_mv rfl) ?_
  first | refine s_gDF rfl ?_ ?_ | refine s_gNDF rfl ?_ ?_ | refine s_gNF rfl ?_ ?_ | refine s_gB rfl ?_ ?_
  · intro h1
    try rw [Decidable.not_not] at h1
    try have h1' := Wrr.of_beq h1
    try have h1' := Wrr.no_beq h1
    try have h1' := Beat.of_beq h1
    try have h1' := Beat.no_beq h1
    refine s_op (o_faC rfl) ?_
    refine s_gT rfl ?_
    refine s_op (o_ldC rfl rfl rfl) ?_
    refine s_gT rfl ?_
    refine s_op (o_faC rfl) ?_
    refine s_gT rfl ?_
    refine s_op (o_ldC rfl rfl rfl) ?_
    refine s_gT rfl ?_
    first | refine s_op (o_neq rfl rfl) ?_ | refine s_op (o_bin rfl rfl rfl rfl) ?_
    refine s_op (o_pickF rfl rfl) ?_
    refine s_op (o_mv rfl) ?_
    refine s_keepO (is := [2, 3, 20]) rfl ?_
    first | refine s_gDF rfl ?_ ?_ | refine s_gNDF rfl ?_ ?_ | refine s_gNF rfl ?_ ?_ | refine s_gB rfl ?_ ?_
    · intro h2
      try rw [Decidable.not_not] at h2
      try have h2' := Wrr.of_beq h2
      try have h2' := Wrr.no_beq h2
      try have h2' := Beat.of_beq h2
      try have h2' := Beat.no_beq h2
      refine s_op (o_faC rfl) ?_
      refine s_gT rfl ?_
      refine s_op (o_ldC rfl rfl rfl) ?_
      refine s_gT rfl ?_
      first | refine s_op (o_lenM rfl) ?_ | refine s_op (o_len rfl) ?_ | refine s_op (o_lenL rfl rfl rfl) ?_ | refine s_op (o_lenN rfl) ?_
      refine s_gT rfl ?_
      refine s_op (o_faC rfl) ?_
      refine s_gT rfl ?_
      refine s_op (o_ldC rfl rfl rfl) ?_
      refine s_gT rfl ?_
      first | refine s_op (o_lenM rfl) ?_ | refine s_op (o_len rfl) ?_ | refine s_op (o_lenL rfl rfl rfl) ?_ | refine s_op (o_lenN rfl) ?_
      refine s_gT rfl ?_
      first | refine s_op (o_neq rfl rfl) ?_ | refine s_op (o_bin rfl rfl rfl rfl) ?_
      refine s_op (o_pickF rfl rfl) ?_
      refine s_op (o_mv rfl) ?_
      first | refine s_gDF rfl ?_ ?_ | refine s_gNDF rfl ?_ ?_ | refine s_gNF rfl ?_ ?_ | refine s_gB rfl ?_ ?_
      · intro h3
        try rw [Decidable.not_not] at h3
        try have h3' := Wrr.of_beq h3
        try have h3' := Wrr.no_beq h3
        try have h3' := Beat.of_beq h3
        try have h3' := Beat.no_beq h3
        refine s_op (o_faC rfl) ?_
        refine s_gT rfl ?_
        refine s_op (o_ldC rfl rfl rfl) ?_
        refine s_gT rfl ?_
        first | refine s_op (o_lenM rfl) ?_ | refine s_op (o_len rfl) ?_ | refine s_op (o_lenL rfl rfl rfl) ?_ | refine s_op (o_lenN rfl) ?_
        refine s_gT rfl ?_
        refine s_op (o_faC rfl) ?_
        refine s_gT rfl ?_
        refine s_op (o_ldC rfl rfl rfl) ?_
        refine s_keepO (is := [2, 3, 29, 32, 34]) rfl ?_
        refine s_gT rfl ?_
        first | refine s_op (o_lenM rfl) ?_ | refine s_op (o_len rfl) ?_ | refine s_op (o_lenL rfl rfl rfl) ?_ | refine s_op (o_lenN rfl) ?_
        refine s_gT rfl ?_
        first | refine s_op (o_neq rfl rfl) ?_ | refine s_op (o_bin rfl rfl rfl rfl) ?_
        refine s_op (o_pickF rfl rfl) ?_
        refine s_op (o_mv rfl) ?_
        first | refine s_gDF rfl ?_ ?_ | refine s_gNDF rfl ?_ ?_ | refine s_gNF rfl ?_ ?_ | refine s_gB rfl ?_ ?_
        · intro h4
          try rw [Decidable.not_not] at h4
          try have h4' := Wrr.of_beq h4
          try have h4' := Wrr.no_beq h4
          try have h4' := Beat.of_beq h4
          try have h4' := Beat.no_beq h4
          refine s_op (o_faC rfl) ?_
          refine s_gT rfl ?_
          refine s_op (o_ldC rfl rfl rfl) ?_
          refine s_gT rfl ?_
          refine s_op (o_faC rfl) ?_
          refine s_gT rfl ?_
          refine s_op (o_ldC rfl rfl rfl) ?_
          refine s_gT rfl ?_
          first | refine s_call rfl rfl (c_240 _ _ hs.2.2.2.2.1) ?_ | refine s_callL rfl rfl (by simp) (c_240 _ _ hs.2.2.2.2.1) rfl ?_
          refine s_gT rfl ?_
          refine s_op (o_not rfl) ?_
          refine s_op (o_pickF rfl rfl) ?_
          refine s_op (o_mv rfl) ?_
          first | refine s_gDF rfl ?_ ?_ | refine s_gNDF rfl ?_ ?_ | refine s_gNF rfl ?_ ?_ | refine s_gB rfl ?_ ?_
          · intro h5
            try rw [Decidable.not_not] at h5
            try have h5' := Wrr.of_beq h5
            try have h5' := Wrr.no_beq h5
            try have h5' := Beat.of_beq h5
            try have h5' := Beat.no_beq h5
            refine s_op (o_faC rfl) ?_
            refine s_gT rfl ?_
            refine s_op (o_ldnC rfl rfl rfl) ?_
            refine s_keepO (is := [2, 3, 46, 48]) rfl ?_
            refine s_gT rfl ?_
            refine s_op (o_faC rfl) ?_
            refine s_gT rfl ?_
            refine s_op (o_ldnC rfl rfl rfl) ?_
            refine s_gT rfl ?_
            refine s_op (o_eqs rfl rfl rfl rfl rfl) ?_
            refine s_op (o_pickF rfl rfl) ?_
            refine s_op (o_mv rfl) ?_
            first | refine s_gDF rfl ?_ ?_ | refine s_gNDF rfl ?_ ?_ | refine s_gNF rfl ?_ ?_ | refine s_gB rfl ?_ ?_
            · intro h6
              try rw [Decidable.not_not] at h6
              try have h6' := Wrr.of_beq h6
              try have h6' := Wrr.no_beq h6
              try have h6' := Beat.of_beq h6
              try have h6' := Beat.no_beq h6
              refine s_op (o_faC rfl) ?_
              refine s_gT rfl ?_
              refine s_op (o_ldC rfl rfl rfl) ?_
              refine s_gT rfl ?_
              refine s_op (o_faC rfl) ?_
              refine s_gT rfl ?_
              refine s_op (o_ldC rfl rfl rfl) ?_
              refine s_gT rfl ?_
              first | refine s_op (o_neq rfl rfl) ?_ | refine s_op (o_bin rfl rfl rfl rfl) ?_
              refine s_op (o_pickF rfl rfl) ?_
              refine s_op (o_mv rfl) ?_
              first | refine s_gDF rfl ?_ ?_ | refine s_gNDF rfl ?_ ?_ | refine s_gNF rfl ?_ ?_ | refine s_gB rfl ?_ ?_
              · intro h7
                try rw [Decidable.not_not] at h7
                try have h7' := Wrr.of_beq h7
                try have h7' := Wrr.no_beq h7
                try have h7' := Beat.of_beq h7
                try have h7' := Beat.no_beq h7
                refine s_op (o_faC rfl) ?_
                refine s_gT rfl ?_
                refine s_op (o_ldC rfl rfl rfl) ?_
                refine s_keepO (is := [2, 3, 60, 62]) rfl ?_
                refine s_gT rfl ?_
                refine s_op (o_faC rfl) ?_
                refine s_gT rfl ?_
                refine s_op (o_ldC rfl rfl rfl) ?_
                refine s_gT rfl ?_
                first | refine s_op (o_neq rfl rfl) ?_ | refine s_op (o_bin rfl rfl rfl rfl) ?_
                refine s_op (o_pickF rfl rfl) ?_
                refine s_op (o_mv rfl) ?_
                first | refine s_gDF rfl ?_ ?_ | refine s_gNDF rfl ?_ ?_ | refine s_gNF rfl ?_ ?_ | refine s_gB rfl ?_ ?_
                · intro h8
                  try rw [Decidable.not_not] at h8
                  try have h8' := Wrr.of_beq h8
                  try have h8' := Wrr.no_beq h8
                  try have h8' := Beat.of_beq h8
                  try have h8' := Beat.no_beq h8
                  refine s_op (o_faC rfl) ?_
                  refine s_gT rfl ?_
                  refine s_op (o_ldC rfl rfl rfl) ?_
                  refine s_gT rfl ?_
                  refine s_op (o_faC rfl) ?_
                  refine s_gT rfl ?_
                  refine s_op (o_ldC rfl rfl rfl) ?_
                  refine s_gT rfl ?_
                  first | refine s_op (o_neq rfl rfl) ?_ | refine s_op (o_bin rfl rfl rfl rfl) ?_
                  refine s_op (o_pickF rfl rfl) ?_
                  refine s_op (o_mv rfl) ?_
                  first | refine s_gDF rfl ?_ ?_ | refine s_gNDF rfl ?_ ?_ | refine s_gNF rfl ?_ ?_ | refine s_gB rfl ?_ ?_
                  · intro h9
                    try rw [Decidable.not_not] at h9
                    try have h9' := Wrr.of_beq h9
                    try have h9' := Wrr.no_beq h9
                    try have h9' := Beat.of_beq h9
                    try have h9' := Beat.no_beq h9
                    refine s_op (o_faC rfl) ?_
                    refine s_gT rfl ?_
                    refine s_op (o_ldnC rfl rfl rfl) ?_
                    refine s_keepO (is := [2, 3, 74, 76]) rfl ?_
                    refine s_gT rfl ?_
                    refine s_op (o_faC rfl) ?_
                    refine s_gT rfl ?_
                    refine s_op (o_ldnC rfl rfl rfl) ?_
                    refine s_gT rfl ?_
                    refine s_op (o_eqs rfl rfl rfl rfl rfl) ?_
                    refine s_op (o_pickF rfl rfl) ?_
                    refine s_op (o_mv rfl) ?_
                    first | refine s_gDF rfl ?_ ?_ | refine s_gNDF rfl ?_ ?_ | refine s_gNF rfl ?_ ?_ | refine s_gB rfl ?_ ?_
                    · intro h10
                      try rw [Decidable.not_not] at h10
                      try have h10' := Wrr.of_beq h10
                      try have h10' := Wrr.no_beq h10
                      try have h10' := Beat.of_beq h10
                      try have h10' := Beat.no_beq h10
                      refine s_op (o_faC rfl) ?_
                      refine s_gT rfl ?_
                      refine s_op (o_ldnC rfl rfl rfl) ?_
                      refine s_gT rfl ?_
                      refine s_op (o_faC rfl) ?_
                      refine s_gT rfl ?_
                      refine s_op (o_ldnC rfl rfl rfl) ?_
                      refine s_gT rfl ?_
                      refine s_op (o_eqs rfl rfl rfl rfl rfl) ?_
                      refine s_op (o_pickF rfl rfl) ?_
                      refine s_op (o_mv rfl) ?_
                      first | refine s_gDF rfl ?_ ?_ | refine s_gNDF rfl ?_ ?_ | refine s_gNF rfl ?_ ?_ | refine s_gB rfl ?_ ?_
                      · intro h11
                        try rw [Decidable.not_not] at h11
                        try have h11' := Wrr.of_beq h11
                        try have h11' := Wrr.no_beq h11
                        try have h11' := Beat.of_beq h11
                        try have h11' := Beat.no_beq h11
                        refine s_op (o_faC rfl) ?_
                        refine s_gT rfl ?_
                        refine s_op (o_ldnC rfl rfl rfl) ?_
                        refine s_keepO (is := [2, 3, 88, 90]) rfl ?_
                        refine s_gT rfl ?_
                        refine s_op (o_faC rfl) ?_
                        refine s_gT rfl ?_
                        refine s_op (o_ldnC rfl rfl rfl) ?_
                        refine s_gT rfl ?_
                        first | refine s_call rfl rfl (c_383 x.model y.model hs.2.2.2.2.2.1) ?_ | refine s_callL rfl rfl (by simp) (c_383 x.model y.model hs.2.2.2.2.2.1) rfl ?_
                        refine s_gT rfl ?_
                        refine s_op (o_not rfl) ?_
                        refine s_op (o_pickF rfl rfl) ?_
                        refine s_op (o_mv rfl) ?_
                        first | refine s_gDF rfl ?_ ?_ | refine s_gNDF rfl ?_ ?_ | refine s_gNF rfl ?_ ?_ | refine s_gB rfl ?_ ?_
                        · intro h12
                          try rw [Decidable.not_not] at h12
                          try have h12' := Wrr.of_beq h12
                          try have h12' := Wrr.no_beq h12
                          try have h12' := Beat.of_beq h12
                          try have h12' := Beat.no_beq h12
                          refine s_op (o_faC rfl) ?_
                          refine s_gT rfl ?_
                          refine s_op (o_ldC rfl rfl rfl) ?_
                          refine s_gT rfl ?_
                          refine s_op (o_faC rfl) ?_
                          refine s_gT rfl ?_
                          refine s_op (o_ldC rfl rfl rfl) ?_
                          refine s_gT rfl ?_
                          first | refine s_op (o_neq rfl rfl) ?_ | refine s_op (o_bin rfl rfl rfl rfl) ?_
                          refine s_op (o_pickF rfl rfl) ?_
                          refine s_op (o_mv rfl) ?_
                          first | refine s_gDF rfl ?_ ?_ | refine s_gNDF rfl ?_ ?_ | refine s_gNF rfl ?_ ?_ | refine s_gB rfl ?_ ?_
                          · intro h13
                            try rw [Decidable.not_not] at h13
                            try have h13' := Wrr.of_beq h13
                            try have h13' := Wrr.no_beq h13
                            try have h13' := Beat.of_beq h13
                            try have h13' := Beat.no_beq h13
                            refine s_op (o_faC rfl) ?_
                            refine s_keepO (is := [2, 3, 103, 104]) rfl ?_
                            refine s_gT rfl ?_
                            refine s_op (o_ldC rfl rfl rfl) ?_
                            refine s_gT rfl ?_
                            refine s_op (o_faC rfl) ?_
                            refine s_gT rfl ?_
                            refine s_op (o_ldC rfl rfl rfl) ?_
                            refine s_gT rfl ?_
                            first | refine s_call rfl rfl (c_225 _ _ hs.2.2.2.2.2.2) ?_ | refine s_callL rfl rfl (by simp) (c_225 _ _ hs.2.2.2.2.2.2) rfl ?_
                            refine s_gT rfl ?_
                            refine s_op (o_not rfl) ?_
                            refine s_op (o_pickF rfl rfl) ?_
                            refine s_nilO ?_
                            refine q_seqN ?_
                            refine s_keep [2, 3, 110] rfl ?_
                            first | refine s_condD rfl ?_ ?_ | refine s_condN rfl ?_ ?_ | refine s_condNB rfl ?_ ?_ | refine s_condB rfl ?_ ?_
                            · intro h14
                              try rw [Decidable.not_not] at h14
                              try have h14' := Wrr.of_beq h14
                              try have h14' := Wrr.no_beq h14
                              try have h14' := Beat.of_beq h14
                              try have h14' := Beat.no_beq h14
                              refine S_seq ?_
                              refine s_rg ?_
                              refine s_op (o_mv rfl) ?_
                              refine s_nilO ?_
                              refine q_seqN ?_
                              refine s_keep [4] rfl ?_
                              refine s_ret ?_
                              refine q_seqR ?_
                              refine ret_leaf (.inr rfl) rfl rfl ?_
                              refine congrArg (fun b => V.w (.bool b)) ?_
                              first | exact (decide_eq_false (fun e => ne_at (by assumption) (by assumption) (by assumption) (congrArg Bus.ms e))).symm | exact (decide_eq_false (fun e => ne_at (by assumption) (by assumption) (Bucket.no_beq (by assumption)) (congrArg Bus.buckets e))).symm | (have eb := eq_end hj.2.1 (by omega) hj.2.2; exact (decide_eq_true (Bus.of_parts ⟨by assumption, by assumption, by assumption, by assumption, by assumption, by assumption, by assumption, by assumption, by assumption, by assumption, by assumption, by assumption, by assumption, by assumption⟩)).symm) | (refine (decide_eq_false ?_).symm; clear hs hm hb; rintro rfl; simp_all; done)
                            · intro h14
                              try rw [Decidable.not_not] at h14
                              try have h14' := Wrr.of_beq h14
                              try have h14' := Wrr.no_beq h14
                              try have h14' := Beat.of_beq h14
                              try have h14' := Beat.no_beq h14
                              refine s_skip ?_
                              refine q_seqN ?_
                              refine s_keep [2, 3] rfl ?_
                              refine S_seq ?_
                              refine S_seq ?_
                              refine s_rg ?_
                              refine s_op (o_mv rfl) ?_
                              refine s_nilO ?_
                              refine q_seqN ?_
                              refine s_keep [2, 3, 5] rfl ?_
                              refine S_block ?_
                              refine S_loop0 (ι := Nat) (fun i => i ≤ x.ms.length ∧ x.ms.take i = y.ms.take i ∧ x.ms.length = y.ms.length) (fun i => [(5, .w (.int .i64 (i : Int)))]) (fun i => x.ms.length - i) 0 ⟨by simp, by simp, by omega⟩ rfl ⟨rfl, trivial⟩ (fun _ _ => rfl) rfl ?_
                              intro i hi
                              refine s_keep [2, 3, 5] rfl ?_
                              refine S_seq ?_
                              refine S_seq ?_
                              refine s_rg ?_
                              refine s_op (o_mv rfl) ?_
                              refine s_op (o_faC rfl) ?_
                              refine s_op (o_ldC rfl rfl rfl) ?_
                              first | refine s_op (o_lenM rfl) ?_ | refine s_op (o_len rfl) ?_ | refine s_op (o_lenL rfl rfl rfl) ?_ | refine s_op (o_lenN rfl) ?_
                              first | refine s_op (o_lss rfl rfl) ?_ | refine s_op (o_bin rfl rfl rfl rfl) ?_
                              refine s_nilO ?_
                              refine q_seqN ?_
                              refine s_keep [2, 3, 5, 115] rfl ?_
                              first | refine s_condD rfl ?_ ?_ | refine s_condN rfl ?_ ?_ | refine s_condNB rfl ?_ ?_ | refine s_condB rfl ?_ ?_
                              · intro h15
                                try rw [Decidable.not_not] at h15
                                try have h15' := Wrr.of_beq h15
                                try have h15' := Wrr.no_beq h15
                                try have h15' := Beat.of_beq h15
                                try have h15' := Beat.no_beq h15
                                refine s_skip ?_
                                refine q_seqN ?_
                                refine s_keep [2, 3, 5] rfl ?_
                                refine S_seq ?_
                                refine S_block ?_
                                refine S_seq ?_
                                refine s_rg ?_
                                refine s_op (o_faC rfl) ?_
                                refine s_op (o_ldC rfl rfl rfl) ?_
                                refine s_op (o_mv rfl) ?_
                                refine s_iaM rfl rfl (by omega) ?_
                                intro y16 e16
                                try simp only [Int.toNat_natCast, Int.toNat_zero] at e16
                                refine s_op (o_ldn rfl rfl) ?_
                                refine s_op (o_faC rfl) ?_
                                refine s_op (o_ldC rfl rfl rfl) ?_
                                refine s_op (o_mv rfl) ?_
                                refine s_iaM rfl rfl (by omega) ?_
                                intro y17 e17
                                try simp only [Int.toNat_natCast, Int.toNat_zero] at e17
                                refine s_op (o_ldn rfl rfl) ?_
                                first | refine s_call rfl rfl (c_210 _ _ (hs.2.2.1 _ (List.mem_of_getElem? (by assumption)))) ?_ | refine s_callL rfl rfl (by simp) (c_210 _ _ (hs.2.2.1 _ (List.mem_of_getElem? (by assumption)))) rfl ?_
                                refine s_op (o_not rfl) ?_
                                refine s_nilO ?_
                                refine q_seqN ?_
                                refine s_keep [2, 3, 5, 129] rfl ?_
                                first | refine s_condD rfl ?_ ?_ | refine s_condN rfl ?_ ?_ | refine s_condNB rfl ?_ ?_ | refine s_condB rfl ?_ ?_
                                · intro h18
                                  try rw [Decidable.not_not] at h18
                                  try have h18' := Wrr.of_beq h18
                                  try have h18' := Wrr.no_beq h18
                                  try have h18' := Beat.of_beq h18
                                  try have h18' := Beat.no_beq h18
                                  refine S_seq ?_
                                  refine s_rg ?_
                                  refine s_op (o_mv rfl) ?_
                                  refine s_nilO ?_
                                  refine q_seqN ?_
                                  refine s_keep [4] rfl ?_
                                  refine s_ret ?_
                                  refine q_blkR ?_
                                  refine q_seqR ?_
                                  refine q_loopR ?_
                                  refine q_blkR ?_
                                  refine q_seqR ?_
                                  refine ret_leaf (.inr rfl) rfl rfl ?_
                                  refine congrArg (fun b => V.w (.bool b)) ?_
                                  first | exact (decide_eq_false (fun e => ne_at (by assumption) (by assumption) (by assumption) (congrArg Bus.ms e))).symm | exact (decide_eq_false (fun e => ne_at (by assumption) (by assumption) (Bucket.no_beq (by assumption)) (congrArg Bus.buckets e))).symm | (have eb := eq_end hj.2.1 (by omega) hj.2.2; exact (decide_eq_true (Bus.of_parts ⟨by assumption, by assumption, by assumption, by assumption, by assumption, by assumption, by assumption, by assumption, by assumption, by assumption, by assumption, by assumption, by assumption, by assumption⟩)).symm) | (refine (decide_eq_false ?_).symm; clear hs hm hb; rintro rfl; simp_all; done)
                                · intro h18
                                  try rw [Decidable.not_not] at h18
                                  try have h18' := Wrr.of_beq h18
                                  try have h18' := Wrr.no_beq h18
                                  try have h18' := Beat.of_beq h18
                                  try have h18' := Beat.no_beq h18
                                  refine s_skip ?_
                                  refine q_blkN ?_
                                  refine q_seqN ?_
                                  refine s_keep [2, 3, 5] rfl ?_
                                  refine s_rg ?_
                                  refine s_op (o_mv rfl) ?_
                                  first | refine s_op (o_addn rfl rfl (by omega)) ?_ | refine s_op (o_add rfl rfl) ?_
                                  refine s_op (o_mv rfl) ?_
                                  refine s_nilO ?_
                                  refine q_loopN ?_
                                  exact ⟨i + 1, ⟨by omega, eq_take (by assumption) (by assumption) hi.2.1 (by assumption), hi.2.2⟩, by omega, hasOf ⟨rfl, trivial⟩ rfl⟩
                              · intro h15
                                try rw [Decidable.not_not] at h15
                                try have h15' := Wrr.of_beq h15
                                try have h15' := Wrr.no_beq h15
                                try have h15' := Beat.of_beq h15
                                try have h15' := Beat.no_beq h15
                                refine s_exit ?_
                                refine q_seqX ?_
                                refine q_loopX ?_
                                refine q_blkH ?_
                                refine q_seqN ?_
                                refine s_keep [2, 3] rfl ?_
                                refine S_seq ?_
                                refine S_seq ?_
                                refine s_rg ?_
                                refine s_op (o_mv rfl) ?_
                                refine s_nilO ?_
                                refine q_seqN ?_
                                refine s_keep [2, 3, 6] rfl ?_
                                refine S_block ?_
                                have em := eq_end hi.2.1 (by omega) hi.2.2
                                refine S_loop0 (ι := Nat) (fun j => j ≤ x.buckets.length ∧ x.buckets.take j = y.buckets.take j ∧ x.buckets.length = y.buckets.length) (fun j => [(6, .w (.int .i64 (j : Int)))]) (fun j => x.buckets.length - j) 0 ⟨by simp, by simp, by omega⟩ rfl ⟨rfl, trivial⟩ (fun _ _ => rfl) rfl ?_
                                intro j hj
                                refine s_keep [2, 3, 6] rfl ?_
                                refine S_seq ?_
                                refine S_seq ?_
                                refine s_rg ?_
                                refine s_op (o_mv rfl) ?_
                                refine s_op (o_faC rfl) ?_
                                refine s_op (o_ldC rfl rfl rfl) ?_
                                first | refine s_op (o_lenM rfl) ?_ | refine s_op (o_len rfl) ?_ | refine s_op (o_lenL rfl rfl rfl) ?_ | refine s_op (o_lenN rfl) ?_
                                first | refine s_op (o_lss rfl rfl) ?_ | refine s_op (o_bin rfl rfl rfl rfl) ?_
                                refine s_nilO ?_
                                refine q_seqN ?_
                                refine s_keep [2, 3, 6, 134] rfl ?_
                                first | refine s_condD rfl ?_ ?_ | refine s_condN rfl ?_ ?_ | refine s_condNB rfl ?_ ?_ | refine s_condB rfl ?_ ?_
                                · intro h19
                                  try rw [Decidable.not_not] at h19
                                  try have h19' := Wrr.of_beq h19
                                  try have h19' := Wrr.no_beq h19
                                  try have h19' := Beat.of_beq h19
                                  try have h19' := Beat.no_beq h19
                                  refine s_skip ?_
                                  refine q_seqN ?_
                                  refine s_keep [2, 3, 6] rfl ?_
                                  refine S_seq ?_
                                  refine S_block ?_
                                  refine S_seq ?_
                                  refine s_rg ?_
                                  refine s_op (o_faC rfl) ?_
                                  refine s_op (o_ldC rfl rfl rfl) ?_
                                  refine s_op (o_mv rfl) ?_
                                  refine s_iaM rfl rfl (by omega) ?_
                                  intro y20 e20
                                  try simp only [Int.toNat_natCast, Int.toNat_zero] at e20
                                  refine s_op (o_ldn rfl rfl) ?_
                                  refine s_op (o_faC rfl) ?_
                                  refine s_op (o_ldC rfl rfl rfl) ?_
                                  refine s_op (o_mv rfl) ?_
                                  refine s_iaM rfl rfl (by omega) ?_
                                  intro y21 e21
                                  try simp only [Int.toNat_natCast, Int.toNat_zero] at e21
                                  refine s_op (o_ldn rfl rfl) ?_
                                  refine s_op (o_eqs rfl rfl rfl rfl rfl) ?_
                                  refine s_nilO ?_
                                  refine q_seqN ?_
                                  refine s_keep [2, 3, 6, 147] rfl ?_
                                  first | refine s_condD rfl ?_ ?_ | refine s_condN rfl ?_ ?_ | refine s_condNB rfl ?_ ?_ | refine s_condB rfl ?_ ?_
                                  · intro h22
                                    try rw [Decidable.not_not] at h22
                                    try have h22' := Wrr.of_beq h22
                                    try have h22' := Wrr.no_beq h22
                                    try have h22' := Beat.of_beq h22
                                    try have h22' := Beat.no_beq h22
                                    refine S_seq ?_
                                    refine s_rg ?_
                                    refine s_op (o_mv rfl) ?_
                                    refine s_nilO ?_
                                    refine q_seqN ?_
                                    refine s_keep [4] rfl ?_
                                    refine s_ret ?_
                                    refine q_blkR ?_
                                    refine q_seqR ?_
                                    refine q_loopR ?_
                                    refine q_blkR ?_
                                    refine q_seqR ?_
                                    refine ret_leaf (.inr rfl) rfl rfl ?_
                                    refine congrArg (fun b => V.w (.bool b)) ?_
                                    first | exact (decide_eq_false (fun e => ne_at (by assumption) (by assumption) (by assumption) (congrArg Bus.ms e))).symm | exact (decide_eq_false (fun e => ne_at (by assumption) (by assumption) (Bucket.no_beq (by assumption)) (congrArg Bus.buckets e))).symm | (have eb := eq_end hj.2.1 (by omega) hj.2.2; exact (decide_eq_true (Bus.of_parts ⟨by assumption, by assumption, by assumption, by assumption, by assumption, by assumption, by assumption, by assumption, by assumption, by assumption, by assumption, by assumption, by assumption, by assumption⟩)).symm) | (refine (decide_eq_false ?_).symm; clear hs hm hb; rintro rfl; simp_all; done)
                                  · intro h22
                                    try rw [Decidable.not_not] at h22
                                    try have h22' := Wrr.of_beq h22
                                    try have h22' := Wrr.no_beq h22
                                    try have h22' := Beat.of_beq h22
                                    try have h22' := Beat.no_beq h22
                                    refine s_skip ?_
                                    refine q_blkN ?_
                                    refine q_seqN ?_
                                    refine s_keep [2, 3, 6] rfl ?_
                                    refine s_rg ?_
                                    refine s_op (o_mv rfl) ?_
                                    first | refine s_op (o_addn rfl rfl (by omega)) ?_ | refine s_op (o_add rfl rfl) ?_
                                    refine s_op (o_mv rfl) ?_
                                    refine s_nilO ?_
                                    refine q_loopN ?_
                                    exact ⟨j + 1, ⟨by omega, eq_take (by assumption) (by assumption) hj.2.1 (Bucket.of_beq (by assumption)), hj.2.2⟩, by omega, hasOf ⟨rfl, trivial⟩ rfl⟩
                                · intro h19
                                  try rw [Decidable.not_not] at h19
                                  try have h19' := Wrr.of_beq h19
                                  try have h19' := Wrr.no_beq h19
                                  try have h19' := Beat.of_beq h19
                                  try have h19' := Beat.no_beq h19
                                  refine s_exit ?_
                                  refine q_seqX ?_
                                  refine q_loopX ?_
                                  refine q_blkH ?_
                                  refine q_seqN ?_
                                  refine s_keep [] rfl ?_
                                  refine S_seq ?_
                                  refine s_rg ?_
                                  refine s_op (o_mv rfl) ?_
                                  refine s_nilO ?_
                                  refine q_seqN ?_
                                  refine s_keep [4] rfl ?_
                                  refine s_ret ?_
                                  refine ret_leaf (.inr rfl) rfl rfl ?_
                                  refine congrArg (fun b => V.w (.bool b)) ?_
                                  first | exact (decide_eq_false (fun e => ne_at (by assumption) (by assumption) (by assumption) (congrArg Bus.ms e))).symm | exact (decide_eq_false (fun e => ne_at (by assumption) (by assumption) (Bucket.no_beq (by assumption)) (congrArg Bus.buckets e))).symm | (have eb := eq_end hj.2.1 (by omega) hj.2.2; exact (decide_eq_true (Bus.of_parts ⟨by assumption, by assumption, by assumption, by assumption, by assumption, by assumption, by assumption, by assumption, by assumption, by assumption, by assumption, by assumption, by assumption, by assumption⟩)).symm) | (refine (decide_eq_false ?_).symm; clear hs hm hb; rintro rfl; simp_all; done)
                          · intro h13
                            try rw [Decidable.not_not] at h13
                            try have h13' := Wrr.of_beq h13
                            try have h13' := Wrr.no_beq h13
                            try have h13' := Beat.of_beq h13
                            try have h13' := Beat.no_beq h13
                            refine s_gF rfl ?_
                            refine s_keepO (is := [2, 3, 103, 104]) rfl ?_
                            refine s_gF rfl ?_
                            refine s_gF rfl ?_
                            refine s_gF rfl ?_
                            refine s_gF rfl ?_
                            refine s_gF rfl ?_
                            refine s_op (o_pickT rfl rfl) ?_
                            refine s_nilO ?_
                            refine q_seqN ?_
                            refine s_keep [2, 3, 110] rfl ?_
                            refine s_condT rfl ?_
                            refine S_seq ?_
                            refine s_rg ?_
                            refine s_op (o_mv rfl) ?_
                            refine s_nilO ?_
                            refine q_seqN ?_
                            refine s_keep [4] rfl ?_
                            refine s_ret ?_
                            refine q_seqR ?_
                            refine ret_leaf (.inr rfl) rfl rfl ?_
                            refine congrArg (fun b => V.w (.bool b)) ?_
                            first | exact (decide_eq_false (fun e => ne_at (by assumption) (by assumption) (by assumption) (congrArg Bus.ms e))).symm | exact (decide_eq_false (fun e => ne_at (by assumption) (by assumption) (Bucket.no_beq (by assumption)) (congrArg Bus.buckets e))).symm | (have eb := eq_end hj.2.1 (by omega) hj.2.2; exact (decide_eq_true (Bus.of_parts ⟨by assumption, by assumption, by assumption, by assumption, by assumption, by assumption, by assumption, by assumption, by assumption, by assumption, by assumption, by assumption, by assumption, by assumption⟩)).symm) | (refine (decide_eq_false ?_).symm; clear hs hm hb; rintro rfl; simp_all; done)
                        · intro h12
                          try rw [Decidable.not_not] at h12
                          try have h12' := Wrr.of_beq h12
                          try have h12' := Wrr.no_beq h12
                          try have h12' := Beat.of_beq h12
                          try have h12' := Beat.no_beq h12
                          refine s_gF rfl ?_
                          refine s_gF rfl ?_
                          refine s_gF rfl ?_
                          refine s_gF rfl ?_
                          refine s_gF rfl ?_
                          refine s_op (o_pickT rfl rfl) ?_
                          refine s_op (o_mv rfl) ?_
                          refine s_gF rfl ?_
                          refine s_keepO (is := [2, 3, 103, 104]) rfl ?_
                          refine s_gF rfl ?_
                          refine s_gF rfl ?_
                          refine s_gF rfl ?_
                          refine s_gF rfl ?_
                          refine s_gF rfl ?_
                          refine s_op (o_pickT rfl rfl) ?_
                          refine s_nilO ?_
                          refine q_seqN ?_
                          refine s_keep [2, 3, 110] rfl ?_
                          refine s_condT rfl ?_
                          refine S_seq ?_
                          refine s_rg ?_
                          refine s_op (o_mv rfl) ?_
                          refine s_nilO ?_
                          refine q_seqN ?_
                          refine s_keep [4] rfl ?_
                          refine s_ret ?_
                          refine q_seqR ?_
                          refine ret_leaf (.inr rfl) rfl rfl ?_
                          refine congrArg (fun b => V.w (.bool b)) ?_
                          first | exact (decide_eq_false (fun e => ne_at (by assumption) (by assumption) (by assumption) (congrArg Bus.ms e))).symm | exact (decide_eq_false (fun e => ne_at (by assumption) (by assumption) (Bucket.no_beq (by assumption)) (congrArg Bus.buckets e))).symm | (have eb := eq_end hj.2.1 (by omega) hj.2.2; exact (decide_eq_true (Bus.of_parts ⟨by assumption, by assumption, by assumption, by assumption, by assumption, by assumption, by assumption, by assumption, by assumption, by assumption, by assumption, by assumption, by assumption, by assumption⟩)).symm) | (refine (decide_eq_false ?_).symm; clear hs hm hb; rintro rfl; simp_all; done)
                      · intro h11
                        try rw [Decidable.not_not] at h11
                        try have h11' := Wrr.of_beq h11
                        try have h11' := Wrr.no_beq h11
                        try have h11' := Beat.of_beq h11
                        try have h11' := Beat.no_beq h11
                        refine s_gF rfl ?_
                        refine s_gF rfl ?_
                        refine s_keepO (is := [2, 3, 88, 90]) rfl ?_
                        refine s_gF rfl ?_
                        refine s_gF rfl ?_
                        refine s_gF rfl ?_
                        refine s_gF rfl ?_
                        refine s_op (o_pickT rfl rfl) ?_
                        refine s_op (o_mv rfl) ?_
                        refine s_gF rfl ?_
                        refine s_gF rfl ?_
                        refine s_gF rfl ?_
                        refine s_gF rfl ?_
                        refine s_gF rfl ?_
                        refine s_op (o_pickT rfl rfl) ?_
                        refine s_op (o_mv rfl) ?_
                        refine s_gF rfl ?_
                        refine s_keepO (is := [2, 3, 103, 104]) rfl ?_
                        refine s_gF rfl ?_
                        refine s_gF rfl ?_
                        refine s_gF rfl ?_
                        refine s_gF rfl ?_
                        refine s_gF rfl ?_
                        refine s_op (o_pickT rfl rfl) ?_
                        refine s_nilO ?_
                        refine q_seqN ?_
                        refine s_keep [2, 3, 110] rfl ?_
                        refine s_condT rfl ?_
                        refine S_seq ?_
                        refine s_rg ?_
                        refine s_op (o_mv rfl) ?_
                        refine s_nilO ?_
                        refine q_seqN ?_
                        refine s_keep [4] rfl ?_
                        refine s_ret ?_
                        refine q_seqR ?_
                        refine ret_leaf (.inr rfl) rfl rfl ?_
                        refine congrArg (fun b => V.w (.bool b)) ?_
                        first | exact (decide_eq_false (fun e => ne_at (by assumption) (by assumption) (by assumption) (congrArg Bus.ms e))).symm | exact (decide_eq_false (fun e => ne_at (by assumption) (by assumption) (Bucket.no_beq (by assumption)) (congrArg Bus.buckets e))).symm | (have eb := eq_end hj.2.1 (by omega) hj.2.2; exact (decide_eq_true (Bus.of_parts ⟨by assumption, by assumption, by assumption, by assumption, by assumption, by assumption, by assumption, by assumption, by assumption, by assumption, by assumption, by assumption, by assumption, by assumption⟩)).symm) | (refine (decide_eq_false ?_).symm; clear hs hm hb; rintro rfl; simp_all; done)
                    · intro h10
                      try rw [Decidable.not_not] at h10
                      try have h10' := Wrr.of_beq h10
                      try have h10' := Wrr.no_beq h10
                      try have h10' := Beat.of_beq h10
                      try have h10' := Beat.no_beq h10
                      refine s_gF rfl ?_
                      refine s_gF rfl ?_
                      refine s_gF rfl ?_
                      refine s_gF rfl ?_
                      refine s_gF rfl ?_
                      refine s_op (o_pickT rfl rfl) ?_
                      refine s_op (o_mv rfl) ?_
                      refine s_gF rfl ?_
                      refine s_gF rfl ?_
                      refine s_keepO (is := [2, 3, 88, 90]) rfl ?_
                      refine s_gF rfl ?_
                      refine s_gF rfl ?_
                      refine s_gF rfl ?_
                      refine s_gF rfl ?_
                      refine s_op (o_pickT rfl rfl) ?_
                      refine s_op (o_mv rfl) ?_
                      refine s_gF rfl ?_
                      refine s_gF rfl ?_
                      refine s_gF rfl ?_
                      refine s_gF rfl ?_
                      refine s_gF rfl ?_
                      refine s_op (o_pickT rfl rfl) ?_
                      refine s_op (o_mv rfl) ?_
                      refine s_gF rfl ?_
                      refine s_keepO (is := [2, 3, 103, 104]) rfl ?_
                      refine s_gF rfl ?_
                      refine s_gF rfl ?_
                      refine s_gF rfl ?_
                      refine s_gF rfl ?_
                      refine s_gF rfl ?_
                      refine s_op (o_pickT rfl rfl) ?_
                      refine s_nilO ?_
                      refine q_seqN ?_
                      refine s_keep [2, 3, 110] rfl ?_
                      refine s_condT rfl ?_
                      refine S_seq ?_
                      refine s_rg ?_
                      refine s_op (o_mv rfl) ?_
                      refine s_nilO ?_
                      refine q_seqN ?_
                      refine s_keep [4] rfl ?_
                      refine s_ret ?_
                      refine q_seqR ?_
                      refine ret_leaf (.inr rfl) rfl rfl ?_
                      refine congrArg (fun b => V.w (.bool b)) ?_
                      first | exact (decide_eq_false (fun e => ne_at (by assumption) (by assumption) (by assumption) (congrArg Bus.ms e))).symm | exact (decide_eq_false (fun e => ne_at (by assumption) (by assumption) (Bucket.no_beq (by assumption)) (congrArg Bus.buckets e))).symm | (have eb := eq_end hj.2.1 (by omega) hj.2.2; exact (decide_eq_true (Bus.of_parts ⟨by assumption, by assumption, by assumption, by assumption, by assumption, by assumption, by assumption, by assumption, by assumption, by assumption, by assumption, by assumption, by assumption, by assumption⟩)).symm) | (refine (decide_eq_false ?_).symm; clear hs hm hb; rintro rfl; simp_all; done)
                  · intro h9
                    try rw [Decidable.not_not] at h9
                    try have h9' := Wrr.of_beq h9
                    try have h9' := Wrr.no_beq h9
                    try have h9' := Beat.of_beq h9
                    try have h9' := Beat.no_beq h9
                    refine s_gF rfl ?_
                    refine s_gF rfl ?_
                    refine s_keepO (is := [2, 3, 74, 76]) rfl ?_
                    refine s_gF rfl ?_
                    refine s_gF rfl ?_
                    refine s_gF rfl ?_
                    refine s_op (o_pickT rfl rfl) ?_
                    refine s_op (o_mv rfl) ?_
                    refine s_gF rfl ?_
                    refine s_gF rfl ?_
                    refine s_gF rfl ?_
                    refine s_gF rfl ?_
                    refine s_gF rfl ?_
                    refine s_op (o_pickT rfl rfl) ?_
                    refine s_op (o_mv rfl) ?_
                    refine s_gF rfl ?_
                    refine s_gF rfl ?_
                    refine s_keepO (is := [2, 3, 88, 90]) rfl ?_
                    refine s_gF rfl ?_
                    refine s_gF rfl ?_
                    refine s_gF rfl ?_
                    refine s_gF rfl ?_
                    refine s_op (o_pickT rfl rfl) ?_
                    refine s_op (o_mv rfl) ?_
                    refine s_gF rfl ?_
                    refine s_gF rfl ?_
                    refine s_gF rfl ?_
                    refine s_gF rfl ?_
                    refine s_gF rfl ?_
                    refine s_op (o_pickT rfl rfl) ?_
                    refine s_op (o_mv rfl) ?_
                    refine s_gF rfl ?_
                    refine s_keepO (is := [2, 3, 103, 104]) rfl ?_
                    refine s_gF rfl ?_
                    refine s_gF rfl ?_
                    refine s_gF rfl ?_
                    refine s_gF rfl ?_
                    refine s_gF rfl ?_
                    refine s_op (o_pickT rfl rfl) ?_
                    refine s_nilO ?_
                    refine q_seqN ?_
                    refine s_keep [2, 3, 110] rfl ?_
                    refine s_condT rfl ?_
                    refine S_seq ?_
                    refine s_rg ?_
                    refine s_op (o_mv rfl) ?_
                    refine s_nilO ?_
                    refine q_seqN ?_
                    refine s_keep [4] rfl ?_
                    refine s_ret ?_
                    refine q_seqR ?_
                    refine ret_leaf (.inr rfl) rfl rfl ?_
                    refine congrArg (fun b => V.w (.bool b)) ?_
                    first | exact (decide_eq_false (fun e => ne_at (by assumption) (by assumption) (by assumption) (congrArg Bus.ms e))).symm | exact (decide_eq_false (fun e => ne_at (by assumption) (by assumption) (Bucket.no_beq (by assumption)) (congrArg Bus.buckets e))).symm | (have eb := eq_end hj.2.1 (by omega) hj.2.2; exact (decide_eq_true (Bus.of_parts ⟨by assumption, by assumption, by assumption, by assumption, by assumption, by assumption, by assumption, by assumption, by assumption, by assumption, by assumption, by assumption, by assumption, by assumption⟩)).symm) | (refine (decide_eq_false ?_).symm; clear hs hm hb; rintro rfl; simp_all; done)
                · intro h8
                  try rw [Decidable.not_not] at h8
                  try have h8' := Wrr.of_beq h8
                  try have h8' := Wrr.no_beq h8
                  try have h8' := Beat.of_beq h8
                  try have h8' := Beat.no_beq h8
                  refine s_gF rfl ?_
                  refine s_gF rfl ?_
                  refine s_gF rfl ?_
                  refine s_gF rfl ?_
                  refine s_gF rfl ?_
                  refine s_op (o_pickT rfl rfl) ?_
                  refine s_op (o_mv rfl) ?_
                  refine s_gF rfl ?_
                  refine s_gF rfl ?_
                  refine s_keepO (is := [2, 3, 74, 76]) rfl ?_
                  refine s_gF rfl ?_
                  refine s_gF rfl ?_
                  refine s_gF rfl ?_
                  refine s_op (o_pickT rfl rfl) ?_
                  refine s_op (o_mv rfl) ?_
                  refine s_gF rfl ?_
                  refine s_gF rfl ?_
                  refine s_gF rfl ?_
                  refine s_gF rfl ?_
                  refine s_gF rfl ?_
                  refine s_op (o_pickT rfl rfl) ?_
                  refine s_op (o_mv rfl) ?_
                  refine s_gF rfl ?_
                  refine s_gF rfl ?_
                  refine s_keepO (is := [2, 3, 88, 90]) rfl ?_
                  refine s_gF rfl ?_
                  refine s_gF rfl ?_
                  refine s_gF rfl ?_
                  refine s_gF rfl ?_
                  refine s_op (o_pickT rfl rfl) ?_
                  refine s_op (o_mv rfl) ?_
                  refine s_gF rfl ?_
                  refine s_gF rfl ?_
                  refine s_gF rfl ?_
                  refine s_gF rfl ?_
                  refine s_gF rfl ?_
                  refine s_op (o_pickT rfl rfl) ?_
                  refine s_op (o_mv rfl) ?_
                  refine s_gF rfl ?_
                  refine s_keepO (is := [2, 3, 103, 104]) rfl ?_
                  refine s_gF rfl ?_
                  refine s_gF rfl ?_
                  refine s_gF rfl ?_
                  refine s_gF rfl ?_
                  refine s_gF rfl ?_
                  refine s_op (o_pickT rfl rfl) ?_
                  refine s_nilO ?_
                  refine q_seqN ?_
                  refine s_keep [2, 3, 110] rfl ?_
                  refine s_condT rfl ?_
                  refine S_seq ?_
                  refine s_rg ?_
                  refine s_op (o_mv rfl) ?_
                  refine s_nilO ?_
                  refine q_seqN ?_
                  refine s_keep [4] rfl ?_
                  refine s_ret ?_
                  refine q_seqR ?_
                  refine ret_leaf (.inr rfl) rfl rfl ?_
                  refine congrArg (fun b => V.w (.bool b)) ?_
                  first | exact (decide_eq_false (fun e => ne_at (by assumption) (by assumption) (by assumption) (congrArg Bus.ms e))).symm | exact (decide_eq_false (fun e => ne_at (by assumption) (by assumption) (Bucket.no_beq (by assumption)) (congrArg Bus.buckets e))).symm | (have eb := eq_end hj.2.1 (by omega) hj.2.2; exact (decide_eq_true (Bus.of_parts ⟨by assumption, by assumption, by assumption, by assumption, by assumption, by assumption, by assumption, by assumption, by assumption, by assumption, by assumption, by assumption, by assumption, by assumption⟩)).symm) | (refine (decide_eq_false ?_).symm; clear hs hm hb; rintro rfl; simp_all; done)
              · intro h7
                try rw [Decidable.not_not] at h7
                try have h7' := Wrr.of_beq h7
                try have h7' := Wrr.no_beq h7
                try have h7' := Beat.of_beq h7
                try have h7' := Beat.no_beq h7
                refine s_gF rfl ?_
                refine s_gF rfl ?_
                refine s_keepO (is := [2, 3, 60, 62]) rfl ?_
                refine s_gF rfl ?_
                refine s_gF rfl ?_
                refine s_gF rfl ?_
                refine s_op (o_pickT rfl rfl) ?_
                refine s_op (o_mv rfl) ?_
                refine s_gF rfl ?_
                refine s_gF rfl ?_
                refine s_gF rfl ?_
                refine s_gF rfl ?_
                refine s_gF rfl ?_
                refine s_op (o_pickT rfl rfl) ?_
                refine s_op (o_mv rfl) ?_
                refine s_gF rfl ?_
                refine s_gF rfl ?_
                refine s_keepO (is := [2, 3, 74, 76]) rfl ?_
                refine s_gF rfl ?_
                refine s_gF rfl ?_
                refine s_gF rfl ?_
                refine s_op (o_pickT rfl rfl) ?_
                refine s_op (o_mv rfl) ?_
                refine s_gF rfl ?_
                refine s_gF rfl ?_
                refine s_gF rfl ?_
                refine s_gF rfl ?_
                refine s_gF rfl ?_
                refine s_op (o_pickT rfl rfl) ?_
                refine s_op (o_mv rfl) ?_
                refine s_gF rfl ?_
                refine s_gF rfl ?_
                refine s_keepO (is := [2, 3, 88, 90]) rfl ?_
                refine s_gF rfl ?_
                refine s_gF rfl ?_
                refine s_gF rfl ?_
                refine s_gF rfl ?_
                refine s_op (o_pickT rfl rfl) ?_
                refine s_op (o_mv rfl) ?_
                refine s_gF rfl ?_
                refine s_gF rfl ?_
                refine s_gF rfl ?_
                refine s_gF rfl ?_
                refine s_gF rfl ?_
                refine s_op (o_pickT rfl rfl) ?_
                refine s_op (o_mv rfl) ?_
                refine s_gF rfl ?_
                refine s_keepO (is := [2, 3, 103, 104]) rfl ?_
                refine s_gF rfl ?_
                refine s_gF rfl ?_
                refine s_gF rfl ?_
                refine s_gF rfl ?_
                refine s_gF rfl ?_
                refine s_op (o_pickT rfl rfl) ?_
                refine s_nilO ?_
                refine q_seqN ?_
                refine s_keep [2, 3, 110] rfl ?_
                refine s_condT rfl ?_
                refine S_seq ?_
                refine s_rg ?_
                refine s_op (o_mv rfl) ?_
                refine s_nilO ?_
                refine q_seqN ?_
                refine s_keep [4] rfl ?_
                refine s_ret ?_
                refine q_seqR ?_
                refine ret_leaf (.inr rfl) rfl rfl ?_
                refine congrArg (fun b => V.w (.bool b)) ?_
                first | exact (decide_eq_false (fun e => ne_at (by assumption) (by assumption) (by assumption) (congrArg Bus.ms e))).symm | exact (decide_eq_false (fun e => ne_at (by assumption) (by assumption) (Bucket.no_beq (by assumption)) (congrArg Bus.buckets e))).symm | (have eb := eq_end hj.2.1 (by omega) hj.2.2; exact (decide_eq_true (Bus.of_parts ⟨by assumption, by assumption, by assumption, by assumption, by assumption, by assumption, by assumption, by assumption, by assumption, by assumption, by assumption, by assumption, by assumption, by assumption⟩)).symm) | (refine (decide_eq_false ?_).symm; clear hs hm hb; rintro rfl; simp_all; done)
            · intro h6
              try rw [Decidable.not_not] at h6
              try have h6' := Wrr.of_beq h6
              try have h6' := Wrr.no_beq h6
              try have h6' := Beat.of_beq h6
              try have h6' := Beat.no_beq h6
              refine s_gF rfl ?_
              refine s_gF rfl ?_
              refine s_gF rfl ?_
              refine s_gF rfl ?_
              refine s_gF rfl ?_
              refine s_op (o_pickT rfl rfl) ?_
              refine s_op (o_mv rfl) ?_
              refine s_gF rfl ?_
              refine s_gF rfl ?_
              refine s_keepO (is := [2, 3, 60, 62]) rfl ?_
              refine s_gF rfl ?_
              refine s_gF rfl ?_
              refine s_gF rfl ?_
              refine s_op (o_pickT rfl rfl) ?_
              refine s_op (o_mv rfl) ?_
              refine s_gF rfl ?_
              refine s_gF rfl ?_
              refine s_gF rfl ?_
              refine s_gF rfl ?_
              refine s_gF rfl ?_
              refine s_op (o_pickT rfl rfl) ?_
              refine s_op (o_mv rfl) ?_
              refine s_gF rfl ?_
              refine s_gF rfl ?_
              refine s_keepO (is := [2, 3, 74, 76]) rfl ?_
              refine s_gF rfl ?_
              refine s_gF rfl ?_
              refine s_gF rfl ?_
              refine s_op (o_pickT rfl rfl) ?_
              refine s_op (o_mv rfl) ?_
              refine s_gF rfl ?_
              refine s_gF rfl ?_
              refine s_gF rfl ?_
              refine s_gF rfl ?_
              refine s_gF rfl ?_
              refine s_op (o_pickT rfl rfl) ?_
              refine s_op (o_mv rfl) ?_
              refine s_gF rfl ?_
              refine s_gF rfl ?_
              refine s_keepO (is := [2, 3, 88, 90]) rfl ?_
              refine s_gF rfl ?_
              refine s_gF rfl ?_
              refine s_gF rfl ?_
              refine s_gF rfl ?_
              refine s_op (o_pickT rfl rfl) ?_
              refine s_op (o_mv rfl) ?_
              refine s_gF rfl ?_
              refine s_gF rfl ?_
              refine s_gF rfl ?_
              refine s_gF rfl ?_
              refine s_gF rfl ?_
              refine s_op (o_pickT rfl rfl) ?_
              refine s_op (o_mv rfl) ?_
              refine s_gF rfl ?_
              refine s_keepO (is := [2, 3, 103, 104]) rfl ?_
              refine s_gF rfl ?_
              refine s_gF rfl ?_
              refine s_gF rfl ?_
              refine s_gF rfl ?_
              refine s_gF rfl ?_
              refine s_op (o_pickT rfl rfl) ?_
              refine s_nilO ?_
              refine q_seqN ?_
              refine s_keep [2, 3, 110] rfl ?_
              refine s_condT rfl ?_
              refine S_seq ?_
              refine s_rg ?_
              refine s_op (o_mv rfl) ?_
              refine s_nilO ?_
              refine q_seqN ?_
              refine s_keep [4] rfl ?_
              refine s_ret ?_
              refine q_seqR ?_
              refine ret_leaf (.inr rfl) rfl rfl ?_
              refine congrArg (fun b => V.w (.bool b)) ?_
              first | exact (decide_eq_false (fun e => ne_at (by assumption) (by assumption) (by assumption) (congrArg Bus.ms e))).symm | exact (decide_eq_false (fun e => ne_at (by assumption) (by assumption) (Bucket.no_beq (by assumption)) (congrArg Bus.buckets e))).symm | (have eb := eq_end hj.2.1 (by omega) hj.2.2; exact (decide_eq_true (Bus.of_parts ⟨by assumption, by assumption, by assumption, by assumption, by assumption, by assumption, by assumption, by assumption, by assumption, by assumption, by assumption, by assumption, by assumption, by assumption⟩)).symm) | (refine (decide_eq_false ?_).symm; clear hs hm hb; rintro rfl; simp_all; done)
          · intro h5
            try rw [Decidable.not_not] at h5
            try have h5' := Wrr.of_beq h5
            try have h5' := Wrr.no_beq h5
            try have h5' := Beat.of_beq h5
            try have h5' := Beat.no_beq h5
            refine s_gF rfl ?_
            refine s_gF rfl ?_
            refine s_keepO (is := [2, 3, 46, 48]) rfl ?_
            refine s_gF rfl ?_
            refine s_gF rfl ?_
            refine s_gF rfl ?_
            refine s_op (o_pickT rfl rfl) ?_
            refine s_op (o_mv rfl) ?_
            refine s_gF rfl ?_
            refine s_gF rfl ?_
            refine s_gF rfl ?_
            refine s_gF rfl ?_
            refine s_gF rfl ?_
            refine s_op (o_pickT rfl rfl) ?_
            refine s_op (o_mv rfl) ?_
            refine s_gF rfl ?_
            refine s_gF rfl ?_
            refine s_keepO (is := [2, 3, 60, 62]) rfl ?_
            refine s_gF rfl ?_
            refine s_gF rfl ?_
            refine s_gF rfl ?_
            refine s_op (o_pickT rfl rfl) ?_
            refine s_op (o_mv rfl) ?_
            refine s_gF rfl ?_
            refine s_gF rfl ?_
            refine s_gF rfl ?_
            refine s_gF rfl ?_
            refine s_gF rfl ?_
            refine s_op (o_pickT rfl rfl) ?_
            refine s_op (o_mv rfl) ?_
            refine s_gF rfl ?_
            refine s_gF rfl ?_
            refine s_keepO (is := [2, 3, 74, 76]) rfl ?_
            refine s_gF rfl ?_
            refine s_gF rfl ?_
            refine s_gF rfl ?_
            refine s_op (o_pickT rfl rfl) ?_
            refine s_op (o_mv rfl) ?_
            refine s_gF rfl ?_
            refine s_gF rfl ?_
            refine s_gF rfl ?_
            refine s_gF rfl ?_
            refine s_gF rfl ?_
            refine s_op (o_pickT rfl rfl) ?_
            refine s_op (o_mv rfl) ?_
            refine s_gF rfl ?_
            refine s_gF rfl ?_
            refine s_keepO (is := [2, 3, 88, 90]) rfl ?_
            refine s_gF rfl ?_
            refine s_gF rfl ?_
            refine s_gF rfl ?_
            refine s_gF rfl ?_
            refine s_op (o_pickT rfl rfl) ?_
            refine s_op (o_mv rfl) ?_
            refine s_gF rfl ?_
            refine s_gF rfl ?_
            refine s_gF rfl ?_
            refine s_gF rfl ?_
            refine s_gF rfl ?_
            refine s_op (o_pickT rfl rfl) ?_
            refine s_op (o_mv rfl) ?_
            refine s_gF rfl ?_
            refine s_keepO (is := [2, 3, 103, 104]) rfl ?_
            refine s_gF rfl ?_
            refine s_gF rfl ?_
            refine s_gF rfl ?_
            refine s_gF rfl ?_
            refine s_gF rfl ?_
            refine s_op (o_pickT rfl rfl) ?_
            refine s_nilO ?_
            refine q_seqN ?_
            refine s_keep [2, 3, 110] rfl ?_
            refine s_condT rfl ?_
            refine S_seq ?_
            refine s_rg ?_
            refine s_op (o_mv rfl) ?_
            refine s_nilO ?_
            refine q_seqN ?_
            refine s_keep [4] rfl ?_
            refine s_ret ?_
            refine q_seqR ?_
            refine ret_leaf (.inr rfl) rfl rfl ?_
            refine congrArg (fun b => V.w (.bool b)) ?_
            first | exact (decide_eq_false (fun e => ne_at (by assumption) (by assumption) (by assumption) (congrArg Bus.ms e))).symm | exact (decide_eq_false (fun e => ne_at (by assumption) (by assumption) (Bucket.no_beq (by assumption)) (congrArg Bus.buckets e))).symm | (have eb := eq_end hj.2.1 (by omega) hj.2.2; exact (decide_eq_true (Bus.of_parts ⟨by assumption, by assumption, by assumption, by assumption, by assumption, by assumption, by assumption, by assumption, by assumption, by assumption, by assumption, by assumption, by assumption, by assumption⟩)).symm) | (refine (decide_eq_false ?_).symm; clear hs hm hb; rintro rfl; simp_all; done)
        · intro h4
          try rw [Decidable.not_not] at h4
          try have h4' := Wrr.of_beq h4
          try have h4' := Wrr.no_beq h4
          try have h4' := Beat.of_beq h4
          try have h4' := Beat.no_beq h4
          refine s_gF rfl ?_
          refine s_gF rfl ?_
          refine s_gF rfl ?_
          refine s_gF rfl ?_
          refine s_gF rfl ?_
          refine s_gF rfl ?_
          refine s_op (o_pickT rfl rfl) ?_
          refine s_op (o_mv rfl) ?_
          refine s_gF rfl ?_
          refine s_gF rfl ?_
          refine s_keepO (is := [2, 3, 46, 48]) rfl ?_
          refine s_gF rfl ?_
          refine s_gF rfl ?_
          refine s_gF rfl ?_
          refine s_op (o_pickT rfl rfl) ?_
          refine s_op (o_mv rfl) ?_
          refine s_gF rfl ?_
          refine s_gF rfl ?_
          refine s_gF rfl ?_
          refine s_gF rfl ?_
          refine s_gF rfl ?_
          refine s_op (o_pickT rfl rfl) ?_
          refine s_op (o_mv rfl) ?_
          refine s_gF rfl ?_
          refine s_gF rfl ?_
          refine s_keepO (is := [2, 3, 60, 62]) rfl ?_
          refine s_gF rfl ?_
          refine s_gF rfl ?_
          refine s_gF rfl ?_
          refine s_op (o_pickT rfl rfl) ?_
          refine s_op (o_mv rfl) ?_
          refine s_gF rfl ?_
          refine s_gF rfl ?_
          refine s_gF rfl ?_
          refine s_gF rfl ?_
          refine s_gF rfl ?_
          refine s_op (o_pickT rfl rfl) ?_
          refine s_op (o_mv rfl) ?_
          refine s_gF rfl ?_
          refine s_gF rfl ?_
          refine s_keepO (is := [2, 3, 74, 76]) rfl ?_
          refine s_gF rfl ?_
          refine s_gF rfl ?_
          refine s_gF rfl ?_
          refine s_op (o_pickT rfl rfl) ?_
          refine s_op (o_mv rfl) ?_
          refine s_gF rfl ?_
          refine s_gF rfl ?_
          refine s_gF rfl ?_
          refine s_gF rfl ?_
          refine s_gF rfl ?_
          refine s_op (o_pickT rfl rfl) ?_
          refine s_op (o_mv rfl) ?_
          refine s_gF rfl ?_
          refine s_gF rfl ?_
          refine s_keepO (is := [2, 3, 88, 90]) rfl ?_
          refine s_gF rfl ?_
          refine s_gF rfl ?_
          refine s_gF rfl ?_
          refine s_gF rfl ?_
          refine s_op (o_pickT rfl rfl) ?_
          refine s_op (o_mv rfl) ?_
          refine s_gF rfl ?_
          refine s_gF rfl ?_
          refine s_gF rfl ?_
          refine s_gF rfl ?_
          refine s_gF rfl ?_
          refine s_op (o_pickT rfl rfl) ?_
          refine s_op (o_mv rfl) ?_
          refine s_gF rfl ?_
          refine s_keepO (is := [2, 3, 103, 104]) rfl ?_
          refine s_gF rfl ?_
          refine s_gF rfl ?_
          refine s_gF rfl ?_
          refine s_gF rfl ?_
          refine s_gF rfl ?_
          refine s_op (o_pickT rfl rfl) ?_
          refine s_nilO ?_
          refine q_seqN ?_
          refine s_keep [2, 3, 110] rfl ?_
          refine s_condT rfl ?_
          refine S_seq ?_
          refine s_rg ?_
          refine s_op (o_mv rfl) ?_
          refine s_nilO ?_
          refine q_seqN ?_
          refine s_keep [4] rfl ?_
          refine s_ret ?_
          refine q_seqR ?_
          refine ret_leaf (.inr rfl) rfl rfl ?_
          refine congrArg (fun b => V.w (.bool b)) ?_
          first | exact (decide_eq_false (fun e => ne_at (by assumption) (by assumption) (by assumption) (congrArg Bus.ms e))).symm | exact (decide_eq_false (fun e => ne_at (by assumption) (by assumption) (Bucket.no_beq (by assumption)) (congrArg Bus.buckets e))).symm | (have eb := eq_end hj.2.1 (by omega) hj.2.2; exact (decide_eq_true (Bus.of_parts ⟨by assumption, by assumption, by assumption, by assumption, by assumption, by assumption, by assumption, by assumption, by assumption, by assumption, by assumption, by assumption, by assumption, by assumption⟩)).symm) | (refine (decide_eq_false ?_).symm; clear hs hm hb; rintro rfl; simp_all; done)
      · intro h3
        try rw [Decidable.not_not] at h3
        try have h3' := Wrr.of_beq h3
        try have h3' := Wrr.no_beq h3
        try have h3' := Beat.of_beq h3
        try have h3' := Beat.no_beq h3
        refine s_gF rfl ?_
        refine s_gF rfl ?_
        refine s_gF rfl ?_
        refine s_gF rfl ?_
        refine s_gF rfl ?_
        refine s_keepO (is := [2, 3, 29, 32, 34]) rfl ?_
        refine s_gF rfl ?_
        refine s_gF rfl ?_
        refine s_op (o_pickT rfl rfl) ?_
        refine s_op (o_mv rfl) ?_
        refine s_gF rfl ?_
        refine s_gF rfl ?_
        refine s_gF rfl ?_
        refine s_gF rfl ?_
        refine s_gF rfl ?_
        refine s_gF rfl ?_
        refine s_op (o_pickT rfl rfl) ?_
        refine s_op (o_mv rfl) ?_
        refine s_gF rfl ?_
        refine s_gF rfl ?_
        refine s_keepO (is := [2, 3, 46, 48]) rfl ?_
        refine s_gF rfl ?_
        refine s_gF rfl ?_
        refine s_gF rfl ?_
        refine s_op (o_pickT rfl rfl) ?_
        refine s_op (o_mv rfl) ?_
        refine s_gF rfl ?_
        refine s_gF rfl ?_
        refine s_gF rfl ?_
        refine s_gF rfl ?_
        refine s_gF rfl ?_
        refine s_op (o_pickT rfl rfl) ?_
        refine s_op (o_mv rfl) ?_
        refine s_gF rfl ?_
        refine s_gF rfl ?_
        refine s_keepO (is := [2, 3, 60, 62]) rfl ?_
        refine s_gF rfl ?_
        refine s_gF rfl ?_
        refine s_gF rfl ?_
        refine s_op (o_pickT rfl rfl) ?_
        refine s_op (o_mv rfl) ?_
        refine s_gF rfl ?_
        refine s_gF rfl ?_
        refine s_gF rfl ?_
        refine s_gF rfl ?_
        refine s_gF rfl ?_
        refine s_op (o_pickT rfl rfl) ?_
        refine s_op (o_mv rfl) ?_
        refine s_gF rfl ?_
        refine s_gF rfl ?_
        refine s_keepO (is := [2, 3, 74, 76]) rfl ?_
        refine s_gF rfl ?_
        refine s_gF rfl ?_
        refine s_gF rfl ?_
        refine s_op (o_pickT rfl rfl) ?_
        refine s_op (o_mv rfl) ?_
        refine s_gF rfl ?_
        refine s_gF rfl ?_
        refine s_gF rfl ?_
        refine s_gF rfl ?_
        refine s_gF rfl ?_
        refine s_op (o_pickT rfl rfl) ?_
        refine s_op (o_mv rfl) ?_
        refine s_gF rfl ?_
        refine s_gF rfl ?_
        refine s_keepO (is := [2, 3, 88, 90]) rfl ?_
        refine s_gF rfl ?_
        refine s_gF rfl ?_
        refine s_gF rfl ?_
        refine s_gF rfl ?_
        refine s_op (o_pickT rfl rfl) ?_
        refine s_op (o_mv rfl) ?_
        refine s_gF rfl ?_
        refine s_gF rfl ?_
        refine s_gF rfl ?_
        refine s_gF rfl ?_
        refine s_gF rfl ?_
        refine s_op (o_pickT rfl rfl) ?_
        refine s_op (o_mv rfl) ?_
        refine s_gF rfl ?_
        refine s_keepO (is := [2, 3, 103, 104]) rfl ?_
        refine s_gF rfl ?_
        refine s_gF rfl ?_
        refine s_gF rfl ?_
        refine s_gF rfl ?_
        refine s_gF rfl ?_
        refine s_op (o_pickT rfl rfl) ?_
        refine s_nilO ?_
        refine q_seqN ?_
        refine s_keep [2, 3, 110] rfl ?_
        refine s_condT rfl ?_
        refine S_seq ?_
        refine s_rg ?_
        refine s_op (o_mv rfl) ?_
        refine s_nilO ?_
        refine q_seqN ?_
        refine s_keep [4] rfl ?_
        refine s_ret ?_
        refine q_seqR ?_
        refine ret_leaf (.inr rfl) rfl rfl ?_
        refine congrArg (fun b => V.w (.bool b)) ?_
        first | exact (decide_eq_false (fun e => ne_at (by assumption) (by assumption) (by assumption) (congrArg Bus.ms e))).symm | exact (decide_eq_false (fun e => ne_at (by assumption) (by assumption) (Bucket.no_beq (by assumption)) (congrArg Bus.buckets e))).symm | (have eb := eq_end hj.2.1 (by omega) hj.2.2; exact (decide_eq_true (Bus.of_parts ⟨by assumption, by assumption, by assumption, by assumption, by assumption, by assumption, by assumption, by assumption, by assumption, by assumption, by assumption, by assumption, by assumption, by assumption⟩)).symm) | (refine (decide_eq_false ?_).symm; clear hs hm hb; rintro rfl; simp_all; done)
    · intro h2
      try rw [Decidable.not_not] at h2
      try have h2' := Wrr.of_beq h2
      try have h2' := Wrr.no_beq h2
      try have h2' := Beat.of_beq h2
      try have h2' := Beat.no_beq h2
      refine s_gF rfl ?_
      refine s_gF rfl ?_
      refine s_gF rfl ?_
      refine s_gF rfl ?_
      refine s_gF rfl ?_
      refine s_gF rfl ?_
      refine s_gF rfl ?_
      refine s_op (o_pickT rfl rfl) ?_
      refine s_op (o_mv rfl) ?_
      refine s_gF rfl ?_
      refine s_gF rfl ?_
      refine s_gF rfl ?_
      refine s_gF rfl ?_
      refine s_gF rfl ?_
      refine s_keepO (is := [2, 3, 29, 32, 34]) rfl ?_
      refine s_gF rfl ?_
      refine s_gF rfl ?_
      refine s_op (o_pickT rfl rfl) ?_
      refine s_op (o_mv rfl) ?_
      refine s_gF rfl ?_
      refine s_gF rfl ?_
      refine s_gF rfl ?_
      refine s_gF rfl ?_
      refine s_gF rfl ?_
      refine s_gF rfl ?_
      refine s_op (o_pickT rfl rfl) ?_
      refine s_op (o_mv rfl) ?_
      refine s_gF rfl ?_
      refine s_gF rfl ?_
      refine s_keepO (is := [2, 3, 46, 48]) rfl ?_
      refine s_gF rfl ?_
      refine s_gF rfl ?_
      refine s_gF rfl ?_
      refine s_op (o_pickT rfl rfl) ?_
      refine s_op (o_mv rfl) ?_
      refine s_gF rfl ?_
      refine s_gF rfl ?_
      refine s_gF rfl ?_
      refine s_gF rfl ?_
      refine s_gF rfl ?_
      refine s_op (o_pickT rfl rfl) ?_
      refine s_op (o_mv rfl) ?_
      refine s_gF rfl ?_
      refine s_gF rfl ?_
      refine s_keepO (is := [2, 3, 60, 62]) rfl ?_
      refine s_gF rfl ?_
      refine s_gF rfl ?_
      refine s_gF rfl ?_
      refine s_op (o_pickT rfl rfl) ?_
      refine s_op (o_mv rfl) ?_
      refine s_gF rfl ?_
      refine s_gF rfl ?_
      refine s_gF rfl ?_
      refine s_gF rfl ?_
      refine s_gF rfl ?_
      refine s_op (o_pickT rfl rfl) ?_
      refine s_op (o_mv rfl) ?_
      refine s_gF rfl ?_
      refine s_gF rfl ?_
      refine s_keepO (is := [2, 3, 74, 76]) rfl ?_
      refine s_gF rfl ?_
      refine s_gF rfl ?_
      refine s_gF rfl ?_
      refine s_op (o_pickT rfl rfl) ?_
      refine s_op (o_mv rfl) ?_
      refine s_gF rfl ?_
      refine s_gF rfl ?_
      refine s_gF rfl ?_
      refine s_gF rfl ?_
      refine s_gF rfl ?_
      refine s_op (o_pickT rfl rfl) ?_
      refine s_op (o_mv rfl) ?_
      refine s_gF rfl ?_
      refine s_gF rfl ?_
      refine s_keepO (is := [2, 3, 88, 90]) rfl ?_
      refine s_gF rfl ?_
      refine s_gF rfl ?_
      refine s_gF rfl ?_
      refine s_gF rfl ?_
      refine s_op (o_pickT rfl rfl) ?_
      refine s_op (o_mv rfl) ?_
      refine s_gF rfl ?_
      refine s_gF rfl ?_
      refine s_gF rfl ?_
      refine s_gF rfl ?_
      refine s_gF rfl ?_
      refine s_op (o_pickT rfl rfl) ?_
      refine s_op (o_mv rfl) ?_
      refine s_gF rfl ?_
      refine s_keepO (is := [2, 3, 103, 104]) rfl ?_
      refine s_gF rfl ?_
      refine s_gF rfl ?_
      refine s_gF rfl ?_
      refine s_gF rfl ?_
      refine s_gF rfl ?_
      refine s_op (o_pickT rfl rfl) ?_
      refine s_nilO ?_
      refine q_seqN ?_
      refine s_keep [2, 3, 110] rfl ?_
      refine s_condT rfl ?_
      refine S_seq ?_
      refine s_rg ?_
      refine s_op (o_mv rfl) ?_
      refine s_nilO ?_
      refine q_seqN ?_
      refine s_keep [4] rfl ?_
      refine s_ret ?_
      refine q_seqR ?_
      refine ret_leaf (.inr rfl) rfl rfl ?_
      refine congrArg (fun b => V.w (.bool b)) ?_
      first | exact (decide_eq_false (fun e => ne_at (by assumption) (by assumption) (by assumption) (congrArg Bus.ms e))).symm | exact (decide_eq_false (fun e => ne_at (by assumption) (by assumption) (Bucket.no_beq (by assumption)) (congrArg Bus.buckets e))).symm | (have eb := eq_end hj.2.1 (by omega) hj.2.2; exact (decide_eq_true (Bus.of_parts ⟨by assumption, by assumption, by assumption, by assumption, by assumption, by assumption, by assumption, by assumption, by assumption, by assumption, by assumption, by assumption, by assumption, by assumption⟩)).symm) | (refine (decide_eq_false ?_).symm; clear hs hm hb; rintro rfl; simp_all; done)
  · intro h1
    try rw [Decidable.not_not] at h1
    try have h1' := Wrr.of_beq h1
    try have h1' := Wrr.no_beq h1
    try have h1' := Beat.of_beq h1
    try have h1' := Beat.no_beq h1
    refine s_gF rfl ?_
    refine s_gF rfl ?_
    refine s_gF rfl ?_
    refine s_gF rfl ?_
    refine s_gF rfl ?_
    refine s_op (o_pickT rfl rfl) ?_
    refine s_op (o_mv rfl) ?_
    refine s_keepO (is := [2, 3, 20]) rfl ?_
    refine s_gF rfl ?_
    refine s_gF rfl ?_
    refine s_gF rfl ?_
    refine s_gF rfl ?_
    refine s_gF rfl ?_
    refine s_gF rfl ?_
    refine s_gF rfl ?_
    refine s_op (o_pickT rfl rfl) ?_
    refine s_op (o_mv rfl) ?_
    refine s_gF rfl ?_
    refine s_gF rfl ?_
    refine s_gF rfl ?_
    refine s_gF rfl ?_
    refine s_gF rfl ?_
    refine s_keepO (is := [2, 3, 29, 32, 34]) rfl ?_
    refine s_gF rfl ?_
    refine s_gF rfl ?_
    refine s_op (o_pickT rfl rfl) ?_
    refine s_op (o_mv rfl) ?_
    refine s_gF rfl ?_
    refine s_gF rfl ?_
    refine s_gF rfl ?_
    refine s_gF rfl ?_
    refine s_gF rfl ?_
    refine s_gF rfl ?_
    refine s_op (o_pickT rfl rfl) ?_
    refine s_op (o_mv rfl) ?_
    refine s_gF rfl ?_
    refine s_gF rfl ?_
    refine s_keepO (is := [2, 3, 46, 48]) rfl ?_
    refine s_gF rfl ?_
    refine s_gF rfl ?_
    refine s_gF rfl ?_
    refine s_op (o_pickT rfl rfl) ?_
    refine s_op (o_mv rfl) ?_
    refine s_gF rfl ?_
    refine s_gF rfl ?_
    refine s_gF rfl ?_
    refine s_gF rfl ?_
    refine s_gF rfl ?_
    refine s_op (o_pickT rfl rfl) ?_
    refine s_op (o_mv rfl) ?_
    refine s_gF rfl ?_
    refine s_gF rfl ?_
    refine s_keepO (is := [2, 3, 60, 62]) rfl ?_
    refine s_gF rfl ?_
    refine s_gF rfl ?_
    refine s_gF rfl ?_
    refine s_op (o_pickT rfl rfl) ?_
    refine s_op (o_mv rfl) ?_
    refine s_gF rfl ?_
    refine s_gF rfl ?_
    refine s_gF rfl ?_
    refine s_gF rfl ?_
    refine s_gF rfl ?_
    refine s_op (o_pickT rfl rfl) ?_
    refine s_op (o_mv rfl) ?_
    refine s_gF rfl ?_
    refine s_gF rfl ?_
    refine s_keepO (is := [2, 3, 74, 76]) rfl ?_
    refine s_gF rfl ?_
    refine s_gF rfl ?_
    refine s_gF rfl ?_
    refine s_op (o_pickT rfl rfl) ?_
    refine s_op (o_mv rfl) ?_
    refine s_gF rfl ?_
    refine s_gF rfl ?_
    refine s_gF rfl ?_
    refine s_gF rfl ?_
    refine s_gF rfl ?_
    refine s_op (o_pickT rfl rfl) ?_
    refine s_op (o_mv rfl) ?_
    refine s_gF rfl ?_
    refine s_gF rfl ?_
    refine s_keepO (is := [2, 3, 88, 90]) rfl ?_
    refine s_gF rfl ?_
    refine s_gF rfl ?_
    refine s_gF rfl ?_
    refine s_gF rfl ?_
    refine s_op (o_pickT rfl rfl) ?_
    refine s_op (o_mv rfl) ?_
    refine s_gF rfl ?_
    refine s_gF rfl ?_
    refine s_gF rfl ?_
    refine s_gF rfl ?_
    refine s_gF rfl ?_
    refine s_op (o_pickT rfl rfl) ?_
    refine s_op (o_mv rfl) ?_
    refine s_gF rfl ?_
    refine s_keepO (is := [2, 3, 103, 104]) rfl ?_
    refine s_gF rfl ?_
    refine s_gF rfl ?_
    refine s_gF rfl ?_
    refine s_gF rfl ?_
    refine s_gF rfl ?_
    refine s_op (o_pickT rfl rfl) ?_
    refine s_nilO ?_
    refine q_seqN ?_
    refine s_keep [2, 3, 110] rfl ?_
    refine s_condT rfl ?_
    refine S_seq ?_
    refine s_rg ?_
    refine s_op (o_mv rfl) ?_
    refine s_nilO ?_
    refine q_seqN ?_
    refine s_keep [4] rfl ?_
    refine s_ret ?_
    refine q_seqR ?_
    refine ret_leaf (.inr rfl) rfl rfl ?_
    refine congrArg (fun b => V.w (.bool b)) ?_
    first | exact (decide_eq_false (fun e => ne_at (by assumption) (by assumption) (by assumption) (congrArg Bus.ms e))).symm | exact (decide_eq_false (fun e => ne_at (by assumption) (by assumption) (Bucket.no_beq (by assumption)) (congrArg Bus.buckets e))).symm | (have eb := eq_end hj.2.1 (by omega) hj.2.2; exact (decide_eq_true (Bus.of_parts ⟨by assumption, by assumption, by assumption, by assumption, by assumption, by assumption, by assumption, by assumption, by assumption, by assumption, by assumption, by assumption, by assumption, by assumption⟩)).symm) | (refine (decide_eq_false ?_).symm; clear hs hm hb; rintro rfl; simp_all; done)

theorem c_350 (x : Bus) (hwx : x.wf) (y : Bus) (hwy : y.wf) : CV prg 350 [.agg x.r, .agg y.r] (fun res => res = .w (.bool true)) := by
  refine cv_in g350 ?_
  refine s_keep [0, 1] rfl ?_
  refine S_seq ?_
  refine s_rg ?_
  refine s_op (o_box rfl rfl rfl) ?_
  refine s_op (o_box rfl rfl rfl) ?_
  refine s_op (o_mv rfl) ?_
  refine s_nilO ?_
  refine q_seqN ?_
  refine s_keep [2, 3] rfl ?_
  refine S_seq ?_
  refine s_rg ?_
  refine s_op (o_mv rfl) ?_
  refine s_nilO ?_
  refine q_seqN ?_
  refine s_keep [2, 3, 5] rfl ?_
  refine S_seq ?_
  refine s_rg ?_
  refine s_op (o_ldnC rfl rfl rfl) ?_
  refine s_op (o_mv rfl) ?_
  first | refine s_call rfl rfl (c_144 _ _ (by (try unfold room at *); omega) (by assumption)) ?_ | refine s_callL rfl rfl (by simp) (c_144 _ _ (by (try unfold room at *); omega) (by assumption)) rfl ?_
  refine s_op (o_mv rfl) ?_
  refine s_nilO ?_
  refine q_seqN ?_
  refine s_keep [2, 3, 5] rfl ?_
  refine S_seq ?_
  refine S_seq ?_
  refine s_rg ?_
  refine s_op (o_mv rfl) ?_
  first | refine s_op (o_lss rfl rfl) ?_ | refine s_op (o_bin rfl rfl rfl rfl) ?_
  refine s_nilO ?_
  refine q_seqN ?_
  refine s_keep [2, 3, 5, 14] rfl ?_
  first | refine s_condD rfl ?_ ?_ | refine s_condN rfl ?_ ?_ | refine s_condNB rfl ?_ ?_ | refine s_condB rfl ?_ ?_
  · intro h1
    try rw [Decidable.not_not] at h1
    try have hsx : x.small := Bus.small_of (by (try unfold room at *); omega)
    try rw [decide_eq_true (rfl : x = x)] at h1
    try have hsy : y.small := Bus.small_of (by (try unfold room at *); omega)
    try rw [decide_eq_true (rfl : y = y)] at h1
    refine S_seq ?_
    refine s_rg ?_
    refine s_op (o_mv rfl) ?_
    refine s_nilO ?_
    refine q_seqN ?_
    refine s_keep [4] rfl ?_
    refine s_ret ?_
    refine q_seqR ?_
    refine ret_leaf (.inr rfl) rfl rfl ?_
    refine congrArg (fun b => V.w (.bool b)) ?_
    simp_all
  · intro h1
    try rw [Decidable.not_not] at h1
    try have hsx : x.small := Bus.small_of (by (try unfold room at *); omega)
    try rw [decide_eq_true (rfl : x = x)] at h1
    try have hsy : y.small := Bus.small_of (by (try unfold room at *); omega)
    try rw [decide_eq_true (rfl : y = y)] at h1
    refine s_skip ?_
    refine q_seqN ?_
    refine s_keep [2, 3, 5] rfl ?_
    refine S_seq ?_
    refine s_rg ?_
    refine s_op (o_ldnC rfl rfl rfl) ?_
    refine s_op (o_mv rfl) ?_
    first | refine s_call rfl rfl (c_144 _ _ (by (try unfold room at *); omega) (by assumption)) ?_ | refine s_callL rfl rfl (by simp) (c_144 _ _ (by (try unfold room at *); omega) (by assumption)) rfl ?_
    refine s_op (o_mv rfl) ?_
    refine s_nilO ?_
    refine q_seqN ?_
    refine s_keep [2, 3, 5] rfl ?_
    refine S_seq ?_
    refine S_seq ?_
    refine s_rg ?_
    refine s_op (o_mv rfl) ?_
    first | refine s_op (o_lss rfl rfl) ?_ | refine s_op (o_bin rfl rfl rfl rfl) ?_
    refine s_nilO ?_
    refine q_seqN ?_
    refine s_keep [2, 3, 19] rfl ?_
    first | refine s_condD rfl ?_ ?_ | refine s_condN rfl ?_ ?_ | refine s_condNB rfl ?_ ?_ | refine s_condB rfl ?_ ?_
    · intro h2
      try rw [Decidable.not_not] at h2
      try have hsx : x.small := Bus.small_of (by (try unfold room at *); omega)
      try rw [decide_eq_true (rfl : x = x)] at h2
      try have hsy : y.small := Bus.small_of (by (try unfold room at *); omega)
      try rw [decide_eq_true (rfl : y = y)] at h2
      refine S_seq ?_
      refine s_rg ?_
      refine s_op (o_mv rfl) ?_
      refine s_nilO ?_
      refine q_seqN ?_
      refine s_keep [4] rfl ?_
      refine s_ret ?_
      refine q_seqR ?_
      refine ret_leaf (.inr rfl) rfl rfl ?_
      refine congrArg (fun b => V.w (.bool b)) ?_
      simp_all
    · intro h2
      try rw [Decidable.not_not] at h2
      try have hsx : x.small := Bus.small_of (by (try unfold room at *); omega)
      try rw [decide_eq_true (rfl : x = x)] at h2
      try have hsy : y.small := Bus.small_of (by (try unfold room at *); omega)
      try rw [decide_eq_true (rfl : y = y)] at h2
      refine s_skip ?_
      refine q_seqN ?_
      refine s_keep [2, 3] rfl ?_
      refine S_seq ?_
      refine s_rg ?_
      refine s_op (o_ldnC rfl rfl rfl) ?_
      first | refine s_call rfl rfl (c_158 _ (by assumption)) ?_ | refine s_callL rfl rfl (by simp) (c_158 _ (by assumption)) rfl ?_
      refine s_op (o_ldnC rfl rfl rfl) ?_
      first | refine s_call rfl rfl (c_158 _ (by assumption)) ?_ | refine s_callL rfl rfl (by simp) (c_158 _ (by assumption)) rfl ?_
      first | refine s_call rfl rfl (c_366 _ _ (by assumption)) ?_ | refine s_callL rfl rfl (by simp) (c_366 _ _ (by assumption)) rfl ?_
      refine s_op (o_mv rfl) ?_
      refine s_nilO ?_
      refine q_seqN ?_
      refine s_keep [2, 3, 6] rfl ?_
      refine S_seq ?_
      refine s_rg ?_
      refine s_op (o_ldnC rfl rfl rfl) ?_
      first | refine s_call rfl rfl (c_158 _ (by assumption)) ?_ | refine s_callL rfl rfl (by simp) (c_158 _ (by assumption)) rfl ?_
      refine s_op (o_new rfl rfl) ?_
      refine s_opN (o_stnC rfl rfl rfl rfl rfl rfl rfl) ?_
      refine s_nilO ?_
      refine q_seqN ?_
      refine s_keep [2, 3, 6, 7] rfl ?_
      refine S_seq ?_
      refine s_rg ?_
      refine s_op (o_ldnC rfl rfl rfl) ?_
      first | refine s_call rfl rfl (c_158 _ (by assumption)) ?_ | refine s_callL rfl rfl (by simp) (c_158 _ (by assumption)) rfl ?_
      refine s_op (o_new rfl rfl) ?_
      refine s_opN (o_stnC rfl rfl rfl rfl rfl rfl rfl) ?_
      refine s_nilO ?_
      refine q_seqN ?_
      refine s_keep [2, 3, 6, 7, 8] rfl ?_
      refine S_seq ?_
      refine s_rg ?_
      refine s_op (o_ldnC rfl rfl rfl) ?_
      refine s_op (o_ldnC rfl rfl rfl) ?_
      first | refine s_call rfl rfl (c_367 _ _ (by assumption)) ?_ | refine s_callL rfl rfl (by simp) (c_367 _ _ (by assumption)) rfl ?_
      refine s_op (o_mv rfl) ?_
      refine s_nilO ?_
      refine q_seqN ?_
      refine s_keep [2, 3, 6, 7, 8, 9] rfl ?_
      refine S_seq ?_
      refine S_seq ?_
      refine s_rg ?_
      refine s_op (o_mv rfl) ?_
      refine s_op (o_mv rfl) ?_
      refine s_op (o_eqb rfl rfl) ?_
      refine s_nilO ?_
      refine q_seqN ?_
      refine s_keep [2, 3, 7, 8, 34] rfl ?_
      first | refine s_condD rfl ?_ ?_ | refine s_condN rfl ?_ ?_ | refine s_condNB rfl ?_ ?_ | refine s_condB rfl ?_ ?_
      · intro h3
        try rw [Decidable.not_not] at h3
        try have hsx : x.small := Bus.small_of (by (try unfold room at *); omega)
        try rw [decide_eq_true (rfl : x = x)] at h3
        try have hsy : y.small := Bus.small_of (by (try unfold room at *); omega)
        try rw [decide_eq_true (rfl : y = y)] at h3
        refine S_seq ?_
        refine s_rg ?_
        refine s_op (o_mv rfl) ?_
        refine s_nilO ?_
        refine q_seqN ?_
        refine s_keep [4] rfl ?_
        refine s_ret ?_
        refine q_seqR ?_
        refine ret_leaf (.inr rfl) rfl rfl ?_
        refine congrArg (fun b => V.w (.bool b)) ?_
        simp_all
      · intro h3
        try rw [Decidable.not_not] at h3
        try have hsx : x.small := Bus.small_of (by (try unfold room at *); omega)
        try rw [decide_eq_true (rfl : x = x)] at h3
        try have hsy : y.small := Bus.small_of (by (try unfold room at *); omega)
        try rw [decide_eq_true (rfl : y = y)] at h3
        refine s_skip ?_
        refine q_seqN ?_
        refine s_keep [2, 3, 7, 8] rfl ?_
        refine S_seq ?_
        refine S_seq ?_
        refine s_rg ?_
        refine s_op (o_ldnC rfl rfl rfl) ?_
        refine s_op (o_ldnC rfl rfl rfl) ?_
        first | refine s_call rfl rfl (c_158 _ (by assumption)) ?_ | refine s_callL rfl rfl (by simp) (c_158 _ (by assumption)) rfl ?_
        first | refine s_call rfl rfl (c_127 _ _ (by assumption)) ?_ | refine s_callL rfl rfl (by simp) (c_127 _ _ (by assumption)) rfl ?_
        refine s_op (o_not rfl) ?_
        refine s_nilO ?_
        refine q_seqN ?_
        refine s_keep [3, 8, 39] rfl ?_
        first | refine s_condD rfl ?_ ?_ | refine s_condN rfl ?_ ?_ | refine s_condNB rfl ?_ ?_ | refine s_condB rfl ?_ ?_
        · intro h4
          try rw [Decidable.not_not] at h4
          try have hsx : x.small := Bus.small_of (by (try unfold room at *); omega)
          try rw [decide_eq_true (rfl : x = x)] at h4
          try have hsy : y.small := Bus.small_of (by (try unfold room at *); omega)
          try rw [decide_eq_true (rfl : y = y)] at h4
          refine S_seq ?_
          refine s_rg ?_
          refine s_op (o_mv rfl) ?_
          refine s_nilO ?_
          refine q_seqN ?_
          refine s_keep [4] rfl ?_
          refine s_ret ?_
          refine q_seqR ?_
          refine ret_leaf (.inr rfl) rfl rfl ?_
          refine congrArg (fun b => V.w (.bool b)) ?_
          simp_all
        · intro h4
          try rw [Decidable.not_not] at h4
          try have hsx : x.small := Bus.small_of (by (try unfold room at *); omega)
          try rw [decide_eq_true (rfl : x = x)] at h4
          try have hsy : y.small := Bus.small_of (by (try unfold room at *); omega)
          try rw [decide_eq_true (rfl : y = y)] at h4
          refine s_skip ?_
          refine q_seqN ?_
          refine s_keep [3, 8] rfl ?_
          refine S_seq ?_
          refine S_seq ?_
          refine s_rg ?_
          refine s_op (o_ldnC rfl rfl rfl) ?_
          refine s_op (o_ldnC rfl rfl rfl) ?_
          first | refine s_call rfl rfl (c_158 _ (by assumption)) ?_ | refine s_callL rfl rfl (by simp) (c_158 _ (by assumption)) rfl ?_
          first | refine s_call rfl rfl (c_127 _ _ (by assumption)) ?_ | refine s_callL rfl rfl (by simp) (c_127 _ _ (by assumption)) rfl ?_
          refine s_op (o_not rfl) ?_
          refine s_nilO ?_
          refine q_seqN ?_
          refine s_keep [44] rfl ?_
          first | refine s_condD rfl ?_ ?_ | refine s_condN rfl ?_ ?_ | refine s_condNB rfl ?_ ?_ | refine s_condB rfl ?_ ?_
          · intro h5
            try rw [Decidable.not_not] at h5
            try have hsx : x.small := Bus.small_of (by (try unfold room at *); omega)
            try rw [decide_eq_true (rfl : x = x)] at h5
            try have hsy : y.small := Bus.small_of (by (try unfold room at *); omega)
            try rw [decide_eq_true (rfl : y = y)] at h5
            refine S_seq ?_
            refine s_rg ?_
            refine s_op (o_mv rfl) ?_
            refine s_nilO ?_
            refine q_seqN ?_
            refine s_keep [4] rfl ?_
            refine s_ret ?_
            refine q_seqR ?_
            refine ret_leaf (.inr rfl) rfl rfl ?_
            refine congrArg (fun b => V.w (.bool b)) ?_
            simp_all
          · intro h5
            try rw [Decidable.not_not] at h5
            try have hsx : x.small := Bus.small_of (by (try unfold room at *); omega)
            try rw [decide_eq_true (rfl : x = x)] at h5
            try have hsy : y.small := Bus.small_of (by (try unfold room at *); omega)
            try rw [decide_eq_true (rfl : y = y)] at h5
            refine s_skip ?_
            refine q_seqN ?_
            refine s_keep [] rfl ?_
            refine S_seq ?_
            refine s_rg ?_
            refine s_op (o_mv rfl) ?_
            refine s_nilO ?_
            refine q_seqN ?_
            refine s_keep [4] rfl ?_
            refine s_ret ?_
            refine ret_leaf (.inr rfl) rfl rfl ?_
            refine congrArg (fun b => V.w (.bool b)) ?_
            simp_all

end Go.Proofs.Ytdialnejieoelaa.AL
