/- What functions do with plain data, each by the form of its code. Printed by program. -/
import Derived.Test.YtojdedadgddhgaaSpec0
import Derived.Test.YtojdedadgddhgaaIrSameMst
namespace Go.Proofs.Ytojdedadgddhgaa.AL
open Go
set_option linter.unusedVariables false
set_option linter.unusedSimpArgs false
set_option maxRecDepth 4096

def Req.small (x : Req) : Prop := x.data.length ≤ 1048576

def Req.sz (x : Req) : Nat := x.data.length

theorem Req.small_of {x : Req} (h : x.sz ≤ 1048576) : x.small := by unfold Req.small; unfold Req.sz at h; omega

def Mst.small (x : Mst) : Prop := x.queue.length ≤ 1048576 ∧ (∀ y, y ∈ x.queue → Req.small y)

def Mst.sz (x : Mst) : Nat := x.queue.length + sumL Req.sz x.queue

theorem Mst.small_of {x : Mst} (h : x.sz ≤ 1048576) : x.small := ⟨by unfold Mst.sz at h; omega, fun y hy => Req.small_of (by have := sumL_mem Req.sz hy; unfold Mst.sz at h; omega)⟩

theorem c_132 (xs ys : List Int) (hl : xs.length ≤ 1048576) : CV prg 132 [.sl 1 (xs.map iR), .sl 1 (ys.map iR)] (fun v => v = .w (.bool (decide (xs = ys)))) := by
  refine cv_in g132 ?_
  refine s_keep [0, 1] rfl ?_
  refine S_seq ?_
  refine s_rg ?_
  refine s_op (o_mv rfl) ?_
  refine s_nilO ?_
  refine q_seqN ?_
  refine s_keep [0, 1] rfl ?_
  refine S_seq ?_
  refine S_seq ?_
  refine s_rg ?_
  refine s_op (o_mv rfl) ?_
  first | refine s_op (o_lenM rfl) ?_ | refine s_op (o_len rfl) ?_
  refine s_op (o_mv rfl) ?_
  first | refine s_op (o_lenM rfl) ?_ | refine s_op (o_len rfl) ?_
  first | refine s_op (o_neq rfl rfl) ?_ | refine s_op (o_bin rfl rfl rfl rfl) ?_
  refine s_nilO ?_
  refine q_seqN ?_
  refine s_keep [0, 1, 10] rfl ?_
  first | refine s_condD rfl ?_ ?_ | refine s_condN rfl ?_ ?_ | refine s_condNB rfl ?_ ?_ | refine s_condB rfl ?_ ?_
  · intro h1
    try rw [Decidable.not_not] at h1
    refine S_seq ?_
    refine s_rg ?_
    refine s_op (o_mv rfl) ?_
    refine s_nilO ?_
    refine q_seqN ?_
    refine s_keep [4] rfl ?_
    refine s_ret ?_
    refine q_seqR ?_
    refine ret_leaf (.inr rfl) rfl rfl ?_
    refine congrArg (fun b => V.w (.bool b)) ?_
    first | exact (decide_eq_false (ne_at (by assumption) (by assumption) (by assumption))).symm | exact (decide_eq_true (eq_end hi.2.1 (by omega) hi.2.2)).symm | exact (decide_eq_false (fun e => by subst e; simp_all)).symm
  · intro h1
    try rw [Decidable.not_not] at h1
    refine s_skip ?_
    refine q_seqN ?_
    refine s_keep [0, 1] rfl ?_
    refine S_seq ?_
    refine S_seq ?_
    refine s_rg ?_
    refine s_op (o_mv rfl) ?_
    refine s_nilO ?_
    refine q_seqN ?_
    refine s_keep [0, 1, 5] rfl ?_
    refine S_block ?_
    refine S_loop0 (ι := Nat) (fun i => i ≤ xs.length ∧ xs.take i = ys.take i ∧ xs.length = ys.length) (fun i => [(5, .w (.int .i64 (i : Int)))]) (fun i => xs.length - i) 0 ⟨by simp, by simp, by omega⟩ rfl ⟨rfl, trivial⟩ (fun _ _ => rfl) rfl ?_
    intro i hi
    refine s_keep [0, 1, 5] rfl ?_
    refine S_seq ?_
    refine S_seq ?_
    refine s_rg ?_
    refine s_op (o_mv rfl) ?_
    refine s_op (o_mv rfl) ?_
    first | refine s_op (o_lenM rfl) ?_ | refine s_op (o_len rfl) ?_
    first | refine s_op (o_lss rfl rfl) ?_ | refine s_op (o_bin rfl rfl rfl rfl) ?_
    refine s_nilO ?_
    refine q_seqN ?_
    refine s_keep [0, 1, 5, 14] rfl ?_
    first | refine s_condD rfl ?_ ?_ | refine s_condN rfl ?_ ?_ | refine s_condNB rfl ?_ ?_ | refine s_condB rfl ?_ ?_
    · intro h2
      try rw [Decidable.not_not] at h2
      refine s_skip ?_
      refine q_seqN ?_
      refine s_keep [0, 1, 5] rfl ?_
      refine S_seq ?_
      refine S_block ?_
      refine S_seq ?_
      refine s_rg ?_
      refine s_op (o_mv rfl) ?_
      refine s_op (o_mv rfl) ?_
      refine s_iaM rfl rfl (by omega) ?_
      intro y3 e3
      try simp only [Int.toNat_natCast] at e3
      refine s_op (o_ld rfl rfl) ?_
      refine s_op (o_mv rfl) ?_
      refine s_op (o_mv rfl) ?_
      refine s_iaM rfl rfl (by omega) ?_
      intro y4 e4
      try simp only [Int.toNat_natCast] at e4
      refine s_op (o_ld rfl rfl) ?_
      first | refine s_op (o_neq rfl rfl) ?_ | refine s_op (o_bin rfl rfl rfl rfl) ?_
      refine s_nilO ?_
      refine q_seqN ?_
      refine s_keep [0, 1, 5, 25] rfl ?_
      first | refine s_condD rfl ?_ ?_ | refine s_condN rfl ?_ ?_ | refine s_condNB rfl ?_ ?_ | refine s_condB rfl ?_ ?_
      · intro h5
        try rw [Decidable.not_not] at h5
        refine S_seq ?_
        refine s_rg ?_
        refine s_op (o_mv rfl) ?_
        refine s_nilO ?_
        refine q_seqN ?_
        refine s_keep [4] rfl ?_
        refine s_ret ?_
        refine q_blkR ?_
        refine q_seqR ?_
        refine q_loopR ?_
        refine q_blkR ?_
        refine q_seqR ?_
        refine ret_leaf (.inr rfl) rfl rfl ?_
        refine congrArg (fun b => V.w (.bool b)) ?_
        first | exact (decide_eq_false (ne_at (by assumption) (by assumption) (by assumption))).symm | exact (decide_eq_true (eq_end hi.2.1 (by omega) hi.2.2)).symm | exact (decide_eq_false (fun e => by subst e; simp_all)).symm
      · intro h5
        try rw [Decidable.not_not] at h5
        refine s_skip ?_
        refine q_blkN ?_
        refine q_seqN ?_
        refine s_keep [0, 1, 5] rfl ?_
        refine s_rg ?_
        refine s_op (o_mv rfl) ?_
        first | refine s_op (o_addn rfl rfl (by omega)) ?_ | refine s_op (o_add rfl rfl) ?_
        refine s_op (o_mv rfl) ?_
        refine s_nilO ?_
        refine q_loopN ?_
        refine ⟨i + 1, ⟨by omega, eq_take (by assumption) (by assumption) hi.2.1 ?_, hi.2.2⟩, by omega, hasOf ⟨rfl, trivial⟩ rfl⟩
        assumption
    · intro h2
      try rw [Decidable.not_not] at h2
      refine s_exit ?_
      refine q_seqX ?_
      refine q_loopX ?_
      refine q_blkH ?_
      refine q_seqN ?_
      refine s_keep [] rfl ?_
      refine S_seq ?_
      refine s_rg ?_
      refine s_op (o_mv rfl) ?_
      refine s_nilO ?_
      refine q_seqN ?_
      refine s_keep [4] rfl ?_
      refine s_ret ?_
      refine ret_leaf (.inr rfl) rfl rfl ?_
      refine congrArg (fun b => V.w (.bool b)) ?_
      first | exact (decide_eq_false (ne_at (by assumption) (by assumption) (by assumption))).symm | exact (decide_eq_true (eq_end hi.2.1 (by omega) hi.2.2)).symm | exact (decide_eq_false (fun e => by subst e; simp_all)).symm

theorem c_138 (x y : Req) (hs : x.small) : CV prg 138 [.agg x.r, .agg y.r] (fun v => v = .w (.bool (decide (x = y)))) := by
  refine cv_in g138 ?_
  refine s_keep [0, 1] rfl ?_
  refine S_seq ?_
  refine s_rg ?_
  refine s_op (o_box rfl rfl rfl) ?_
  refine s_op (o_box rfl rfl rfl) ?_
  refine s_op (o_mv rfl) ?_
  refine s_nilO ?_
  refine q_seqN ?_
  refine s_keep [2, 3] rfl ?_
  refine S_seq ?_
  refine S_seq ?_
  refine s_rg ?_
  refine s_op (o_faC rfl) ?_
  refine s_op (o_ldC rfl rfl rfl) ?_
  refine s_op (o_faC rfl) ?_
  refine s_op (o_ldC rfl rfl rfl) ?_
  refine s_op (o_eqb rfl rfl) ?_
  refine s_nilO ?_
  refine q_seqN ?_
  refine s_keep [2, 3, 9] rfl ?_
  first | refine s_condD rfl ?_ ?_ | refine s_condN rfl ?_ ?_ | refine s_condNB rfl ?_ ?_ | refine s_condB rfl ?_ ?_
  · intro h1
    try rw [Decidable.not_not] at h1
    refine S_seq ?_
    refine s_rg ?_
    refine s_op (o_mv rfl) ?_
    refine s_nilO ?_
    refine q_seqN ?_
    refine s_keep [4] rfl ?_
    refine s_ret ?_
    refine q_seqR ?_
    refine ret_leaf (.inr rfl) rfl rfl ?_
    refine congrArg (fun b => V.w (.bool b)) ?_
    cases x; cases y; simp_all
  · intro h1
    try rw [Decidable.not_not] at h1
    refine s_skip ?_
    refine q_seqN ?_
    refine s_keep [2, 3] rfl ?_
    refine S_seq ?_
    refine S_seq ?_
    refine s_rg ?_
    refine s_op (o_faC rfl) ?_
    refine s_op (o_ldC rfl rfl rfl) ?_
    refine s_op (o_faC rfl) ?_
    refine s_op (o_ldC rfl rfl rfl) ?_
    first | refine s_op (o_neq rfl rfl) ?_ | refine s_op (o_bin rfl rfl rfl rfl) ?_
    refine s_nilO ?_
    refine q_seqN ?_
    refine s_keep [2, 3, 14] rfl ?_
    first | refine s_condD rfl ?_ ?_ | refine s_condN rfl ?_ ?_ | refine s_condNB rfl ?_ ?_ | refine s_condB rfl ?_ ?_
    · intro h2
      try rw [Decidable.not_not] at h2
      refine S_seq ?_
      refine s_rg ?_
      refine s_op (o_mv rfl) ?_
      refine s_nilO ?_
      refine q_seqN ?_
      refine s_keep [4] rfl ?_
      refine s_ret ?_
      refine q_seqR ?_
      refine ret_leaf (.inr rfl) rfl rfl ?_
      refine congrArg (fun b => V.w (.bool b)) ?_
      cases x; cases y; simp_all
    · intro h2
      try rw [Decidable.not_not] at h2
      refine s_skip ?_
      refine q_seqN ?_
      refine s_keep [2, 3] rfl ?_
      refine S_seq ?_
      refine S_seq ?_
      refine s_rg ?_
      refine s_op (o_faC rfl) ?_
      refine s_op (o_ldC rfl rfl rfl) ?_
      refine s_op (o_faC rfl) ?_
      refine s_op (o_ldC rfl rfl rfl) ?_
      first | refine s_op (o_neq rfl rfl) ?_ | refine s_op (o_bin rfl rfl rfl rfl) ?_
      refine s_nilO ?_
      refine q_seqN ?_
      refine s_keep [2, 3, 19] rfl ?_
      first | refine s_condD rfl ?_ ?_ | refine s_condN rfl ?_ ?_ | refine s_condNB rfl ?_ ?_ | refine s_condB rfl ?_ ?_
      · intro h3
        try rw [Decidable.not_not] at h3
        refine S_seq ?_
        refine s_rg ?_
        refine s_op (o_mv rfl) ?_
        refine s_nilO ?_
        refine q_seqN ?_
        refine s_keep [4] rfl ?_
        refine s_ret ?_
        refine q_seqR ?_
        refine ret_leaf (.inr rfl) rfl rfl ?_
        refine congrArg (fun b => V.w (.bool b)) ?_
        cases x; cases y; simp_all
      · intro h3
        try rw [Decidable.not_not] at h3
        refine s_skip ?_
        refine q_seqN ?_
        refine s_keep [2, 3] rfl ?_
        refine S_seq ?_
        refine S_seq ?_
        refine s_rg ?_
        refine s_op (o_faC rfl) ?_
        refine s_op (o_ldC rfl rfl rfl) ?_
        refine s_op (o_faC rfl) ?_
        refine s_op (o_ldC rfl rfl rfl) ?_
        first | refine s_op (o_neq rfl rfl) ?_ | refine s_op (o_bin rfl rfl rfl rfl) ?_
        refine s_nilO ?_
        refine q_seqN ?_
        refine s_keep [2, 3, 24] rfl ?_
        first | refine s_condD rfl ?_ ?_ | refine s_condN rfl ?_ ?_ | refine s_condNB rfl ?_ ?_ | refine s_condB rfl ?_ ?_
        · intro h4
          try rw [Decidable.not_not] at h4
          refine S_seq ?_
          refine s_rg ?_
          refine s_op (o_mv rfl) ?_
          refine s_nilO ?_
          refine q_seqN ?_
          refine s_keep [4] rfl ?_
          refine s_ret ?_
          refine q_seqR ?_
          refine ret_leaf (.inr rfl) rfl rfl ?_
          refine congrArg (fun b => V.w (.bool b)) ?_
          cases x; cases y; simp_all
        · intro h4
          try rw [Decidable.not_not] at h4
          refine s_skip ?_
          refine q_seqN ?_
          refine s_keep [2, 3] rfl ?_
          refine S_seq ?_
          refine S_seq ?_
          refine s_rg ?_
          refine s_op (o_faC rfl) ?_
          refine s_op (o_ldC rfl rfl rfl) ?_
          refine s_op (o_faC rfl) ?_
          refine s_op (o_ldC rfl rfl rfl) ?_
          refine s_op (o_eqb rfl rfl) ?_
          refine s_nilO ?_
          refine q_seqN ?_
          refine s_keep [2, 3, 29] rfl ?_
          first | refine s_condD rfl ?_ ?_ | refine s_condN rfl ?_ ?_ | refine s_condNB rfl ?_ ?_ | refine s_condB rfl ?_ ?_
          · intro h5
            try rw [Decidable.not_not] at h5
            refine S_seq ?_
            refine s_rg ?_
            refine s_op (o_mv rfl) ?_
            refine s_nilO ?_
            refine q_seqN ?_
            refine s_keep [4] rfl ?_
            refine s_ret ?_
            refine q_seqR ?_
            refine ret_leaf (.inr rfl) rfl rfl ?_
            refine congrArg (fun b => V.w (.bool b)) ?_
            cases x; cases y; simp_all
          · intro h5
            try rw [Decidable.not_not] at h5
            refine s_skip ?_
            refine q_seqN ?_
            refine s_keep [2, 3] rfl ?_
            refine S_seq ?_
            refine S_seq ?_
            refine s_rg ?_
            refine s_op (o_faC rfl) ?_
            refine s_op (o_ldC rfl rfl rfl) ?_
            refine s_op (o_faC rfl) ?_
            refine s_op (o_ldC rfl rfl rfl) ?_
            first | refine s_call rfl rfl (c_132 _ _ hs) ?_ | refine s_callL rfl rfl (by simp) (c_132 _ _ hs) rfl ?_
            refine s_op (o_not rfl) ?_
            refine s_nilO ?_
            refine q_seqN ?_
            refine s_keep [35] rfl ?_
            first | refine s_condD rfl ?_ ?_ | refine s_condN rfl ?_ ?_ | refine s_condNB rfl ?_ ?_ | refine s_condB rfl ?_ ?_
            · intro h6
              try rw [Decidable.not_not] at h6
              refine S_seq ?_
              refine s_rg ?_
              refine s_op (o_mv rfl) ?_
              refine s_nilO ?_
              refine q_seqN ?_
              refine s_keep [4] rfl ?_
              refine s_ret ?_
              refine q_seqR ?_
              refine ret_leaf (.inr rfl) rfl rfl ?_
              refine congrArg (fun b => V.w (.bool b)) ?_
              cases x; cases y; simp_all
            · intro h6
              try rw [Decidable.not_not] at h6
              refine s_skip ?_
              refine q_seqN ?_
              refine s_keep [] rfl ?_
              refine S_seq ?_
              refine s_rg ?_
              refine s_op (o_mv rfl) ?_
              refine s_nilO ?_
              refine q_seqN ?_
              refine s_keep [4] rfl ?_
              refine s_ret ?_
              refine ret_leaf (.inr rfl) rfl rfl ?_
              refine congrArg (fun b => V.w (.bool b)) ?_
              cases x; cases y; simp_all

theorem c_139 (xs ys : List Req) (hl : xs.length ≤ 1048576) (hx : ∀ y, y ∈ xs → Req.small y) : CV prg 139 [.sl 6 (xs.map Req.r), .sl 6 (ys.map Req.r)] (fun v => v = .w (.bool (decide (xs = ys)))) := by
  refine cv_in g139 ?_
  refine s_keep [0, 1] rfl ?_
  refine S_seq ?_
  refine s_rg ?_
  refine s_op (o_mv rfl) ?_
  refine s_nilO ?_
  refine q_seqN ?_
  refine s_keep [0, 1] rfl ?_
  refine S_seq ?_
  refine S_seq ?_
  refine s_rg ?_
  refine s_op (o_mv rfl) ?_
  first | refine s_op (o_lenM rfl) ?_ | refine s_op (o_len rfl) ?_
  refine s_op (o_mv rfl) ?_
  first | refine s_op (o_lenM rfl) ?_ | refine s_op (o_len rfl) ?_
  first | refine s_op (o_neq rfl rfl) ?_ | refine s_op (o_bin rfl rfl rfl rfl) ?_
  refine s_nilO ?_
  refine q_seqN ?_
  refine s_keep [0, 1, 10] rfl ?_
  first | refine s_condD rfl ?_ ?_ | refine s_condN rfl ?_ ?_ | refine s_condNB rfl ?_ ?_ | refine s_condB rfl ?_ ?_
  · intro h1
    try rw [Decidable.not_not] at h1
    refine S_seq ?_
    refine s_rg ?_
    refine s_op (o_mv rfl) ?_
    refine s_nilO ?_
    refine q_seqN ?_
    refine s_keep [4] rfl ?_
    refine s_ret ?_
    refine q_seqR ?_
    refine ret_leaf (.inr rfl) rfl rfl ?_
    refine congrArg (fun b => V.w (.bool b)) ?_
    first | exact (decide_eq_false (ne_at (by assumption) (by assumption) (by assumption))).symm | exact (decide_eq_true (eq_end hi.2.1 (by omega) hi.2.2)).symm | exact (decide_eq_false (fun e => by subst e; simp_all)).symm
  · intro h1
    try rw [Decidable.not_not] at h1
    refine s_skip ?_
    refine q_seqN ?_
    refine s_keep [0, 1] rfl ?_
    refine S_seq ?_
    refine S_seq ?_
    refine s_rg ?_
    refine s_op (o_mv rfl) ?_
    refine s_nilO ?_
    refine q_seqN ?_
    refine s_keep [0, 1, 5] rfl ?_
    refine S_block ?_
    refine S_loop0 (ι := Nat) (fun i => i ≤ xs.length ∧ xs.take i = ys.take i ∧ xs.length = ys.length) (fun i => [(5, .w (.int .i64 (i : Int)))]) (fun i => xs.length - i) 0 ⟨by simp, by simp, by omega⟩ rfl ⟨rfl, trivial⟩ (fun _ _ => rfl) rfl ?_
    intro i hi
    refine s_keep [0, 1, 5] rfl ?_
    refine S_seq ?_
    refine S_seq ?_
    refine s_rg ?_
    refine s_op (o_mv rfl) ?_
    refine s_op (o_mv rfl) ?_
    first | refine s_op (o_lenM rfl) ?_ | refine s_op (o_len rfl) ?_
    first | refine s_op (o_lss rfl rfl) ?_ | refine s_op (o_bin rfl rfl rfl rfl) ?_
    refine s_nilO ?_
    refine q_seqN ?_
    refine s_keep [0, 1, 5, 14] rfl ?_
    first | refine s_condD rfl ?_ ?_ | refine s_condN rfl ?_ ?_ | refine s_condNB rfl ?_ ?_ | refine s_condB rfl ?_ ?_
    · intro h2
      try rw [Decidable.not_not] at h2
      refine s_skip ?_
      refine q_seqN ?_
      refine s_keep [0, 1, 5] rfl ?_
      refine S_seq ?_
      refine S_block ?_
      refine S_seq ?_
      refine s_rg ?_
      refine s_op (o_mv rfl) ?_
      refine s_op (o_mv rfl) ?_
      refine s_iaM rfl rfl (by omega) ?_
      intro y3 e3
      try simp only [Int.toNat_natCast] at e3
      refine s_op (o_ldn rfl rfl) ?_
      refine s_op (o_mv rfl) ?_
      refine s_op (o_mv rfl) ?_
      refine s_iaM rfl rfl (by omega) ?_
      intro y4 e4
      try simp only [Int.toNat_natCast] at e4
      refine s_op (o_ldn rfl rfl) ?_
      first | refine s_call rfl rfl (c_138 _ _ (hx _ (List.mem_of_getElem? (by assumption)))) ?_ | refine s_callL rfl rfl (by simp) (c_138 _ _ (hx _ (List.mem_of_getElem? (by assumption)))) rfl ?_
      refine s_op (o_not rfl) ?_
      refine s_nilO ?_
      refine q_seqN ?_
      refine s_keep [0, 1, 5, 26] rfl ?_
      first | refine s_condD rfl ?_ ?_ | refine s_condN rfl ?_ ?_ | refine s_condNB rfl ?_ ?_ | refine s_condB rfl ?_ ?_
      · intro h5
        try rw [Decidable.not_not] at h5
        refine S_seq ?_
        refine s_rg ?_
        refine s_op (o_mv rfl) ?_
        refine s_nilO ?_
        refine q_seqN ?_
        refine s_keep [4] rfl ?_
        refine s_ret ?_
        refine q_blkR ?_
        refine q_seqR ?_
        refine q_loopR ?_
        refine q_blkR ?_
        refine q_seqR ?_
        refine ret_leaf (.inr rfl) rfl rfl ?_
        refine congrArg (fun b => V.w (.bool b)) ?_
        first | exact (decide_eq_false (ne_at (by assumption) (by assumption) (by assumption))).symm | exact (decide_eq_true (eq_end hi.2.1 (by omega) hi.2.2)).symm | exact (decide_eq_false (fun e => by subst e; simp_all)).symm
      · intro h5
        try rw [Decidable.not_not] at h5
        refine s_skip ?_
        refine q_blkN ?_
        refine q_seqN ?_
        refine s_keep [0, 1, 5] rfl ?_
        refine s_rg ?_
        refine s_op (o_mv rfl) ?_
        first | refine s_op (o_addn rfl rfl (by omega)) ?_ | refine s_op (o_add rfl rfl) ?_
        refine s_op (o_mv rfl) ?_
        refine s_nilO ?_
        refine q_loopN ?_
        refine ⟨i + 1, ⟨by omega, eq_take (by assumption) (by assumption) hi.2.1 ?_, hi.2.2⟩, by omega, hasOf ⟨rfl, trivial⟩ rfl⟩
        assumption
    · intro h2
      try rw [Decidable.not_not] at h2
      refine s_exit ?_
      refine q_seqX ?_
      refine q_loopX ?_
      refine q_blkH ?_
      refine q_seqN ?_
      refine s_keep [] rfl ?_
      refine S_seq ?_
      refine s_rg ?_
      refine s_op (o_mv rfl) ?_
      refine s_nilO ?_
      refine q_seqN ?_
      refine s_keep [4] rfl ?_
      refine s_ret ?_
      refine ret_leaf (.inr rfl) rfl rfl ?_
      refine congrArg (fun b => V.w (.bool b)) ?_
      first | exact (decide_eq_false (ne_at (by assumption) (by assumption) (by assumption))).symm | exact (decide_eq_true (eq_end hi.2.1 (by omega) hi.2.2)).symm | exact (decide_eq_false (fun e => by subst e; simp_all)).symm

theorem c_163 (xs : List Int) (hl : xs.length ≤ 1048576) : CV prg 163 [.sl 1 (xs.map iR)] (fun v => v = .sl 1 (xs.map iR)) := by
  refine cv_in g163 ?_
  refine s_keep [0] rfl ?_
  refine S_seq ?_
  refine s_rg ?_
  refine s_op (o_mv rfl) ?_
  refine s_nilO ?_
  refine q_seqN ?_
  refine s_keep [0] rfl ?_
  refine S_seq ?_
  refine s_rg ?_
  refine s_op (o_mv rfl) ?_
  first | refine s_op (o_lenM rfl) ?_ | refine s_op (o_len rfl) ?_
  refine s_op (o_mk rfl rfl rfl rfl ⟨by omega, by unfold roomy; omega, by unfold roomy; omega⟩ rfl) ?_
  refine s_op (o_mv rfl) ?_
  refine s_nilO ?_
  refine q_seqN ?_
  refine s_keep [0, 3] rfl ?_
  refine S_seq ?_
  refine S_seq ?_
  refine s_rg ?_
  refine s_op (o_mv rfl) ?_
  refine s_nilO ?_
  refine q_seqN ?_
  refine s_keep [0, 3, 4] rfl ?_
  refine S_block ?_
  refine S_loop (ι := Nat) (fun i => i ≤ xs.length) (fun i => [(4, .w (.int .i64 (i : Int)))]) (fun i => [.arr 1 (tabV iR [.w (.int .i64 0)] xs i)]) (fun i => xs.length - i) 1 0 (by simp) rfl (hasOf ⟨rfl, trivial⟩ (by rw [tabV_zero]; rfl)) rfl (fun _ _ => rfl) (fun _ _ => ⟨rfl, rfl⟩) ?_
  intro i hi
  refine s_keep [0, 3, 4] rfl ?_
  refine S_seq ?_
  refine S_seq ?_
  refine s_rg ?_
  refine s_op (o_mv rfl) ?_
  refine s_op (o_mv rfl) ?_
  first | refine s_op (o_lenM rfl) ?_ | refine s_op (o_len rfl) ?_
  first | refine s_op (o_lss rfl rfl) ?_ | refine s_op (o_bin rfl rfl rfl rfl) ?_
  refine s_nilO ?_
  refine q_seqN ?_
  refine s_keep [0, 3, 4, 11] rfl ?_
  first | refine s_condD rfl ?_ ?_ | refine s_condN rfl ?_ ?_ | refine s_condNB rfl ?_ ?_ | refine s_condB rfl ?_ ?_
  · intro h1
    try rw [Decidable.not_not] at h1
    refine s_skip ?_
    refine q_seqN ?_
    refine s_keep [0, 3, 4] rfl ?_
    refine S_seq ?_
    refine S_block ?_
    refine s_rg ?_
    refine s_op (o_mv rfl) ?_
    refine s_op (o_mv rfl) ?_
    refine s_op (o_mv rfl) ?_
    refine s_op (o_mv rfl) ?_
    refine s_iaM rfl rfl (by first | omega | (rw [List.length_replicate]; omega)) ?_
    intro y2 e2
    try simp only [Int.toNat_natCast] at e2
    refine s_op (o_ld rfl rfl) ?_
    refine s_op (o_iaL rfl rfl (by rw [tabV_len _ _ _ _ (by omega), List.length_replicate]; rfl) rfl (by first | omega | (rw [List.length_replicate]; omega))) ?_
    refine s_opN (o_stA rfl rfl rfl rfl (by rw [tabV_len _ _ _ _ (by omega), List.length_replicate]; rfl) (by rw [Int.toNat_natCast]; exact tabV_at _ _ (by omega)) rfl rfl) ?_
    refine s_nilO ?_
    refine q_blkN ?_
    refine q_seqN ?_
    refine s_keep [0, 3, 4] rfl ?_
    refine s_rg ?_
    refine s_op (o_mv rfl) ?_
    first | refine s_op (o_addn rfl rfl (by omega)) ?_ | refine s_op (o_add rfl rfl) ?_
    refine s_op (o_mv rfl) ?_
    refine s_nilO ?_
    refine q_loopN ?_
    refine ⟨i + 1, by omega, by omega, hasOf ⟨rfl, trivial⟩ ?_⟩
    rw [← tabV_set iR [.w (.int .i64 0)] (by assumption)]; rfl
  · intro h1
    try rw [Decidable.not_not] at h1
    refine s_exit ?_
    refine q_seqX ?_
    refine q_loopX ?_
    refine q_blkH ?_
    refine q_seqN ?_
    refine s_keep [3] rfl ?_
    refine S_seq ?_
    refine s_rg ?_
    refine s_op (o_mv rfl) ?_
    refine s_op (o_mv rfl) ?_
    refine s_nilO ?_
    refine q_seqN ?_
    refine s_keep [2] rfl ?_
    refine s_ret ?_
    refine ret_leafA (.inr rfl) rfl rfl (by rw [tabV_len _ _ _ _ (by omega), List.length_replicate]; rfl) ?_
    rw [tabV_end _ _ _ (by omega)]

theorem c_169 (x : Req) (hs : x.small) : CV prg 169 [.agg x.r] (fun v => v = .agg x.r) := by
  refine cv_in g169 ?_
  refine s_keep [0] rfl ?_
  refine S_seq ?_
  refine s_rg ?_
  refine s_op (o_box rfl rfl rfl) ?_
  refine s_op (o_new rfl rfl) ?_
  refine s_nilO ?_
  refine q_seqN ?_
  refine s_keep [1, 2] rfl ?_
  refine S_seq ?_
  refine s_rg ?_
  refine s_op (o_new rfl rfl) ?_
  refine s_nilO ?_
  refine q_seqN ?_
  refine s_keep [1, 2, 3] rfl ?_
  refine S_seq ?_
  refine s_rg ?_
  refine s_op (o_faC rfl) ?_
  refine s_op (o_ldC rfl rfl rfl) ?_
  refine s_op (o_faC rfl) ?_
  refine s_opN (o_stC rfl rfl rfl rfl rfl rfl) ?_
  refine s_nilO ?_
  refine q_seqN ?_
  refine s_keep [1, 2, 3] rfl ?_
  refine S_seq ?_
  refine s_rg ?_
  refine s_op (o_faC rfl) ?_
  refine s_op (o_ldC rfl rfl rfl) ?_
  refine s_op (o_faC rfl) ?_
  refine s_opN (o_stC rfl rfl rfl rfl rfl rfl) ?_
  refine s_nilO ?_
  refine q_seqN ?_
  refine s_keep [1, 2, 3] rfl ?_
  refine S_seq ?_
  refine s_rg ?_
  refine s_op (o_faC rfl) ?_
  refine s_op (o_ldC rfl rfl rfl) ?_
  refine s_op (o_faC rfl) ?_
  refine s_opN (o_stC rfl rfl rfl rfl rfl rfl) ?_
  refine s_nilO ?_
  refine q_seqN ?_
  refine s_keep [1, 2, 3] rfl ?_
  refine S_seq ?_
  refine s_rg ?_
  refine s_op (o_faC rfl) ?_
  refine s_op (o_ldC rfl rfl rfl) ?_
  refine s_op (o_faC rfl) ?_
  refine s_opN (o_stC rfl rfl rfl rfl rfl rfl) ?_
  refine s_nilO ?_
  refine q_seqN ?_
  refine s_keep [1, 2, 3] rfl ?_
  refine S_seq ?_
  refine s_rg ?_
  refine s_op (o_faC rfl) ?_
  refine s_op (o_ldC rfl rfl rfl) ?_
  refine s_op (o_faC rfl) ?_
  refine s_opN (o_stC rfl rfl rfl rfl rfl rfl) ?_
  refine s_nilO ?_
  refine q_seqN ?_
  refine s_keep [1, 2, 3] rfl ?_
  refine S_seq ?_
  refine s_rg ?_
  refine s_op (o_faC rfl) ?_
  refine s_op (o_ldC rfl rfl rfl) ?_
  first | refine s_call rfl rfl (c_163 _ hs) ?_ | refine s_callL rfl rfl (by simp) (c_163 _ hs) rfl ?_
  refine s_op (o_faC rfl) ?_
  refine s_opN (o_stC rfl rfl rfl rfl rfl rfl) ?_
  refine s_nilO ?_
  refine q_seqN ?_
  refine s_keep [2, 3] rfl ?_
  refine S_seq ?_
  refine s_rg ?_
  refine s_op (o_ldnC rfl rfl rfl) ?_
  refine s_opN (o_stnC rfl rfl rfl rfl rfl rfl rfl) ?_
  refine s_nilO ?_
  refine q_seqN ?_
  refine s_keep [2] rfl ?_
  refine s_ret ?_
  refine ret_leaf (.inr rfl) rfl rfl ?_
  rfl

theorem c_170 (xs : List Req) (hl : xs.length ≤ 1048576) (hx : ∀ y, y ∈ xs → Req.small y) : CV prg 170 [.sl 6 (xs.map Req.r)] (fun v => v = .sl 6 (xs.map Req.r)) := by
  refine cv_in g170 ?_
  refine s_keep [0] rfl ?_
  refine S_seq ?_
  refine s_rg ?_
  refine s_op (o_mv rfl) ?_
  refine s_nilO ?_
  refine q_seqN ?_
  refine s_keep [0] rfl ?_
  refine S_seq ?_
  refine s_rg ?_
  refine s_op (o_mv rfl) ?_
  first | refine s_op (o_lenM rfl) ?_ | refine s_op (o_len rfl) ?_
  refine s_op (o_mk rfl rfl rfl rfl ⟨by omega, by unfold roomy; omega, by unfold roomy; omega⟩ rfl) ?_
  refine s_op (o_mv rfl) ?_
  refine s_nilO ?_
  refine q_seqN ?_
  refine s_keep [0, 3] rfl ?_
  refine S_seq ?_
  refine S_seq ?_
  refine s_rg ?_
  refine s_op (o_mv rfl) ?_
  refine s_nilO ?_
  refine q_seqN ?_
  refine s_keep [0, 3, 4] rfl ?_
  refine S_block ?_
  refine S_loop (ι := Nat) (fun i => i ≤ xs.length) (fun i => [(4, .w (.int .i64 (i : Int)))]) (fun i => [.arr 6 (tabV Req.r [.w (.bool false), .w (.int .i64 0), .w (.int .i64 0), .w (.int .i64 0), .w (.bool false), .w (.slice none 0 0)] xs i)]) (fun i => xs.length - i) 1 0 (by simp) rfl (hasOf ⟨rfl, trivial⟩ (by rw [tabV_zero]; rfl)) rfl (fun _ _ => rfl) (fun _ _ => ⟨rfl, rfl⟩) ?_
  intro i hi
  refine s_keep [0, 3, 4] rfl ?_
  refine S_seq ?_
  refine S_seq ?_
  refine s_rg ?_
  refine s_op (o_mv rfl) ?_
  refine s_op (o_mv rfl) ?_
  first | refine s_op (o_lenM rfl) ?_ | refine s_op (o_len rfl) ?_
  first | refine s_op (o_lss rfl rfl) ?_ | refine s_op (o_bin rfl rfl rfl rfl) ?_
  refine s_nilO ?_
  refine q_seqN ?_
  refine s_keep [0, 3, 4, 11] rfl ?_
  first | refine s_condD rfl ?_ ?_ | refine s_condN rfl ?_ ?_ | refine s_condNB rfl ?_ ?_ | refine s_condB rfl ?_ ?_
  · intro h1
    try rw [Decidable.not_not] at h1
    refine s_skip ?_
    refine q_seqN ?_
    refine s_keep [0, 3, 4] rfl ?_
    refine S_seq ?_
    refine S_block ?_
    refine s_rg ?_
    refine s_op (o_mv rfl) ?_
    refine s_op (o_mv rfl) ?_
    refine s_op (o_mv rfl) ?_
    refine s_op (o_mv rfl) ?_
    refine s_iaM rfl rfl (by first | omega | (rw [List.length_replicate]; omega)) ?_
    intro y2 e2
    try simp only [Int.toNat_natCast] at e2
    refine s_op (o_ldn rfl rfl) ?_
    first | refine s_call rfl rfl (c_169 _ (hx _ (List.mem_of_getElem? (by assumption)))) ?_ | refine s_callL rfl rfl (by simp) (c_169 _ (hx _ (List.mem_of_getElem? (by assumption)))) rfl ?_
    refine s_op (o_iaL rfl rfl (by rw [tabV_len _ _ _ _ (by omega), List.length_replicate]; rfl) rfl (by first | omega | (rw [List.length_replicate]; omega))) ?_
    refine s_opN (o_stnA rfl rfl rfl rfl rfl (by rw [tabV_len _ _ _ _ (by omega), List.length_replicate]; rfl) (by rw [Int.toNat_natCast]; exact tabV_at _ _ (by omega)) rfl rfl) ?_
    refine s_nilO ?_
    refine q_blkN ?_
    refine q_seqN ?_
    refine s_keep [0, 3, 4] rfl ?_
    refine s_rg ?_
    refine s_op (o_mv rfl) ?_
    first | refine s_op (o_addn rfl rfl (by omega)) ?_ | refine s_op (o_add rfl rfl) ?_
    refine s_op (o_mv rfl) ?_
    refine s_nilO ?_
    refine q_loopN ?_
    refine ⟨i + 1, by omega, by omega, hasOf ⟨rfl, trivial⟩ ?_⟩
    rw [← tabV_set Req.r [.w (.bool false), .w (.int .i64 0), .w (.int .i64 0), .w (.int .i64 0), .w (.bool false), .w (.slice none 0 0)] (by assumption)]; rfl
  · intro h1
    try rw [Decidable.not_not] at h1
    refine s_exit ?_
    refine q_seqX ?_
    refine q_loopX ?_
    refine q_blkH ?_
    refine q_seqN ?_
    refine s_keep [3] rfl ?_
    refine S_seq ?_
    refine s_rg ?_
    refine s_op (o_mv rfl) ?_
    refine s_op (o_mv rfl) ?_
    refine s_nilO ?_
    refine q_seqN ?_
    refine s_keep [2] rfl ?_
    refine s_ret ?_
    refine ret_leafA (.inr rfl) rfl rfl (by rw [tabV_len _ _ _ _ (by omega), List.length_replicate]; rfl) ?_
    rw [tabV_end _ _ _ (by omega)]

theorem c_148 (xs : List Int) (left : Int) (h : -1 ≤ left ∧ left ≤ 1048576) (hl : xs.length ≤ 140737488355328) : CV prg 148 [.sl 1 (xs.map iR), .w (.int .i64 left)] (fun v => v = .w (.int .i64 (room left xs.length))) := by
  refine cv_in g148 ?_
  refine s_keep [0, 1] rfl ?_
  refine S_seq ?_
  refine s_rg ?_
  refine s_op (o_mv rfl) ?_
  refine s_nilO ?_
  refine q_seqN ?_
  refine s_keep [0, 1] rfl ?_
  refine S_seq ?_
  refine s_rg ?_
  refine s_op (o_mv rfl) ?_
  refine s_op (o_mv rfl) ?_
  first | refine s_op (o_lenM rfl) ?_ | refine s_op (o_len rfl) ?_
  first | refine s_op (o_subn rfl rfl (by omega)) ?_ | refine s_op (o_sub rfl rfl) ?_
  refine s_op (o_mv rfl) ?_
  refine s_nilO ?_
  refine q_seqN ?_
  refine s_keep [1] rfl ?_
  refine S_seq ?_
  refine S_seq ?_
  refine s_rg ?_
  refine s_op (o_mv rfl) ?_
  first | refine s_op (o_lss rfl rfl) ?_ | refine s_op (o_bin rfl rfl rfl rfl) ?_
  refine s_nilO ?_
  refine q_seqN ?_
  refine s_keep [1, 10] rfl ?_
  first | refine s_condD rfl ?_ ?_ | refine s_condN rfl ?_ ?_ | refine s_condNB rfl ?_ ?_ | refine s_condB rfl ?_ ?_
  · intro h1
    try rw [Decidable.not_not] at h1
    refine S_seq ?_
    refine s_rg ?_
    refine s_op (o_mv rfl) ?_
    refine s_nilO ?_
    refine q_seqN ?_
    refine s_keep [4] rfl ?_
    refine s_ret ?_
    refine q_seqR ?_
    refine ret_leaf (.inr rfl) rfl rfl ?_
    refine congrArg (fun b => V.w (.int .i64 b)) ?_
    (try unfold room); omega
  · intro h1
    try rw [Decidable.not_not] at h1
    refine s_skip ?_
    refine q_seqN ?_
    refine s_keep [1] rfl ?_
    refine S_seq ?_
    refine s_rg ?_
    refine s_op (o_mv rfl) ?_
    refine s_op (o_mv rfl) ?_
    refine s_nilO ?_
    refine q_seqN ?_
    refine s_keep [4] rfl ?_
    refine s_ret ?_
    refine ret_leaf (.inr rfl) rfl rfl ?_
    refine congrArg (fun b => V.w (.int .i64 b)) ?_
    (try unfold room); omega

theorem c_153 (x : Req) (left : Int) (h : -1 ≤ left ∧ left ≤ 1048576) (hw : x.wf) : CV prg 153 [.agg x.r, .w (.int .i64 left)] (fun v => v = .w (.int .i64 (room left x.sz))) := by
  refine cv_in g153 ?_
  refine s_keep [0, 1] rfl ?_
  refine S_seq ?_
  refine s_rg ?_
  refine s_op (o_box rfl rfl rfl) ?_
  refine s_op (o_mv rfl) ?_
  refine s_nilO ?_
  refine q_seqN ?_
  refine s_keep [1, 2] rfl ?_
  refine S_seq ?_
  refine s_rg ?_
  refine s_op (o_faC rfl) ?_
  refine s_op (o_ldC rfl rfl rfl) ?_
  refine s_op (o_mv rfl) ?_
  first | refine s_call rfl rfl (c_148 _ _ (by (try unfold room at *); omega) hw.2.2.2.1) ?_ | refine s_callL rfl rfl (by simp) (c_148 _ _ (by (try unfold room at *); omega) hw.2.2.2.1) rfl ?_
  refine s_op (o_mv rfl) ?_
  refine s_nilO ?_
  refine q_seqN ?_
  refine s_keep [1] rfl ?_
  refine S_seq ?_
  refine S_seq ?_
  refine s_rg ?_
  refine s_op (o_mv rfl) ?_
  first | refine s_op (o_lss rfl rfl) ?_ | refine s_op (o_bin rfl rfl rfl rfl) ?_
  refine s_nilO ?_
  refine q_seqN ?_
  refine s_keep [1, 10] rfl ?_
  first | refine s_condD rfl ?_ ?_ | refine s_condN rfl ?_ ?_ | refine s_condNB rfl ?_ ?_ | refine s_condB rfl ?_ ?_
  · intro h1
    try rw [Decidable.not_not] at h1
    refine S_seq ?_
    refine s_rg ?_
    refine s_op (o_mv rfl) ?_
    refine s_nilO ?_
    refine q_seqN ?_
    refine s_keep [4] rfl ?_
    refine s_ret ?_
    refine q_seqR ?_
    refine ret_leaf (.inr rfl) rfl rfl ?_
    refine congrArg (fun b => V.w (.int .i64 b)) ?_
    unfold Req.sz; (try unfold room at *); omega
  · intro h1
    try rw [Decidable.not_not] at h1
    refine s_skip ?_
    refine q_seqN ?_
    refine s_keep [1] rfl ?_
    refine S_seq ?_
    refine s_rg ?_
    refine s_op (o_mv rfl) ?_
    refine s_op (o_mv rfl) ?_
    refine s_nilO ?_
    refine q_seqN ?_
    refine s_keep [4] rfl ?_
    refine s_ret ?_
    refine ret_leaf (.inr rfl) rfl rfl ?_
    refine congrArg (fun b => V.w (.int .i64 b)) ?_
    unfold Req.sz; (try unfold room at *); omega

theorem c_154 (xs : List Req) (left : Int) (h : -1 ≤ left ∧ left ≤ 1048576) (hl : xs.length ≤ 140737488355328) (hw : ∀ y, y ∈ xs → Req.wf y) : CV prg 154 [.sl 6 (xs.map Req.r), .w (.int .i64 left)] (fun v => v = .w (.int .i64 (room left (xs.length + sumL Req.sz xs)))) := by
  refine cv_in g154 ?_
  refine s_keep [0, 1] rfl ?_
  refine S_seq ?_
  refine s_rg ?_
  refine s_op (o_mv rfl) ?_
  refine s_nilO ?_
  refine q_seqN ?_
  refine s_keep [0, 1] rfl ?_
  refine S_seq ?_
  refine s_rg ?_
  refine s_op (o_mv rfl) ?_
  refine s_op (o_mv rfl) ?_
  first | refine s_op (o_lenM rfl) ?_ | refine s_op (o_len rfl) ?_
  first | refine s_op (o_subn rfl rfl (by omega)) ?_ | refine s_op (o_sub rfl rfl) ?_
  refine s_op (o_mv rfl) ?_
  refine s_nilO ?_
  refine q_seqN ?_
  refine s_keep [0, 1] rfl ?_
  refine S_seq ?_
  refine S_seq ?_
  refine s_rg ?_
  refine s_op (o_mv rfl) ?_
  first | refine s_op (o_lss rfl rfl) ?_ | refine s_op (o_bin rfl rfl rfl rfl) ?_
  refine s_nilO ?_
  refine q_seqN ?_
  refine s_keep [0, 1, 11] rfl ?_
  first | refine s_condD rfl ?_ ?_ | refine s_condN rfl ?_ ?_ | refine s_condNB rfl ?_ ?_ | refine s_condB rfl ?_ ?_
  · intro h1
    try rw [Decidable.not_not] at h1
    refine S_seq ?_
    refine s_rg ?_
    refine s_op (o_mv rfl) ?_
    refine s_nilO ?_
    refine q_seqN ?_
    refine s_keep [4] rfl ?_
    refine s_ret ?_
    refine q_seqR ?_
    refine ret_leaf (.inr rfl) rfl rfl ?_
    refine congrArg (fun b => V.w (.int .i64 b)) ?_
    first | ((try unfold room); omega) | (have hst := sumL_take Req.sz (by assumption : xs[i]? = some _); have hs2 := sumL_le Req.sz xs (i + 1); (try unfold room at *); omega) | (rw [sumL_end _ (by omega)] at *; (try unfold room); omega)
  · intro h1
    try rw [Decidable.not_not] at h1
    refine s_skip ?_
    refine q_seqN ?_
    refine s_keep [0, 1] rfl ?_
    refine S_seq ?_
    refine S_seq ?_
    refine s_rg ?_
    refine s_op (o_mv rfl) ?_
    refine s_nilO ?_
    refine q_seqN ?_
    refine s_keep [0, 1, 5] rfl ?_
    refine S_block ?_
    refine S_loop0 (ι := Nat) (fun i => i ≤ xs.length ∧ 0 ≤ left - xs.length - sumL Req.sz (xs.take i)) (fun i => [(5, .w (.int .i64 (i : Int))), (1, .w (.int .i64 (left - xs.length - sumL Req.sz (xs.take i))))]) (fun i => xs.length - i) 0 ⟨by simp, by simp [sumL]; omega⟩ rfl ⟨rfl, by simp [sumL, look]; rfl, trivial⟩ (fun _ _ => rfl) rfl ?_
    intro i hi
    have hsl := sumL_le Req.sz xs i
    refine s_keep [0, 1, 5] rfl ?_
    refine S_seq ?_
    refine S_seq ?_
    refine s_rg ?_
    refine s_op (o_mv rfl) ?_
    refine s_op (o_mv rfl) ?_
    first | refine s_op (o_lenM rfl) ?_ | refine s_op (o_len rfl) ?_
    first | refine s_op (o_lss rfl rfl) ?_ | refine s_op (o_bin rfl rfl rfl rfl) ?_
    refine s_nilO ?_
    refine q_seqN ?_
    refine s_keep [0, 1, 5, 15] rfl ?_
    first | refine s_condD rfl ?_ ?_ | refine s_condN rfl ?_ ?_ | refine s_condNB rfl ?_ ?_ | refine s_condB rfl ?_ ?_
    · intro h2
      try rw [Decidable.not_not] at h2
      refine s_skip ?_
      refine q_seqN ?_
      refine s_keep [0, 1, 5] rfl ?_
      refine S_seq ?_
      refine S_block ?_
      refine S_seq ?_
      refine s_rg ?_
      refine s_op (o_mv rfl) ?_
      refine s_op (o_mv rfl) ?_
      refine s_iaM rfl rfl (by simp at *; omega) ?_
      intro y3 e3
      try simp only [Int.toNat_natCast] at e3
      refine s_op (o_ldn rfl rfl) ?_
      refine s_op (o_mv rfl) ?_
      first | refine s_call rfl rfl (c_153 _ _ (by omega) (hw _ (List.mem_of_getElem? (by assumption)))) ?_ | refine s_callL rfl rfl (by simp) (c_153 _ _ (by omega) (hw _ (List.mem_of_getElem? (by assumption)))) rfl ?_
      refine s_op (o_mv rfl) ?_
      refine s_nilO ?_
      refine q_seqN ?_
      refine s_keep [0, 1, 5] rfl ?_
      refine S_seq ?_
      refine s_rg ?_
      refine s_op (o_mv rfl) ?_
      first | refine s_op (o_lss rfl rfl) ?_ | refine s_op (o_bin rfl rfl rfl rfl) ?_
      refine s_nilO ?_
      refine q_seqN ?_
      refine s_keep [0, 1, 5, 25] rfl ?_
      first | refine s_condD rfl ?_ ?_ | refine s_condN rfl ?_ ?_ | refine s_condNB rfl ?_ ?_ | refine s_condB rfl ?_ ?_
      · intro h4
        try rw [Decidable.not_not] at h4
        refine S_seq ?_
        refine s_rg ?_
        refine s_op (o_mv rfl) ?_
        refine s_nilO ?_
        refine q_seqN ?_
        refine s_keep [4] rfl ?_
        refine s_ret ?_
        refine q_blkR ?_
        refine q_seqR ?_
        refine q_loopR ?_
        refine q_blkR ?_
        refine q_seqR ?_
        refine ret_leaf (.inr rfl) rfl rfl ?_
        refine congrArg (fun b => V.w (.int .i64 b)) ?_
        first | ((try unfold room); omega) | (have hst := sumL_take Req.sz (by assumption : xs[i]? = some _); have hs2 := sumL_le Req.sz xs (i + 1); (try unfold room at *); omega) | (rw [sumL_end _ (by omega)] at *; (try unfold room); omega)
      · intro h4
        try rw [Decidable.not_not] at h4
        refine s_skip ?_
        refine q_blkN ?_
        refine q_seqN ?_
        refine s_keep [0, 1, 5] rfl ?_
        refine s_rg ?_
        refine s_op (o_mv rfl) ?_
        first | refine s_op (o_addn rfl rfl (by omega)) ?_ | refine s_op (o_add rfl rfl) ?_
        refine s_op (o_mv rfl) ?_
        refine s_nilO ?_
        refine q_loopN ?_
        have hst := sumL_take Req.sz (by assumption : xs[i]? = some _)
        refine ⟨i + 1, ⟨by omega, by (try unfold room at *); omega⟩, by omega, hasOf ⟨rfl, ?_, trivial⟩ rfl⟩
        refine congrArg (fun b => some (V.w (.int .i64 b))) ?_
        (try unfold room at *); omega
    · intro h2
      try rw [Decidable.not_not] at h2
      refine s_exit ?_
      refine q_seqX ?_
      refine q_loopX ?_
      refine q_blkH ?_
      refine q_seqN ?_
      refine s_keep [1] rfl ?_
      refine S_seq ?_
      refine s_rg ?_
      refine s_op (o_mv rfl) ?_
      refine s_op (o_mv rfl) ?_
      refine s_nilO ?_
      refine q_seqN ?_
      refine s_keep [4] rfl ?_
      refine s_ret ?_
      refine ret_leaf (.inr rfl) rfl rfl ?_
      refine congrArg (fun b => V.w (.int .i64 b)) ?_
      first | ((try unfold room); omega) | (have hst := sumL_take Req.sz (by assumption : xs[i]? = some _); have hs2 := sumL_le Req.sz xs (i + 1); (try unfold room at *); omega) | (rw [sumL_end _ (by omega)] at *; (try unfold room); omega)

theorem c_136 (x y : Mst) (hs : x.small) : CV prg 136 [.agg x.r, .agg y.r] (fun v => v = .w (.bool (decide (x = y)))) := by
  refine cv_in g136 ?_
  refine s_keep [0, 1] rfl ?_
  refine S_seq ?_
  refine s_rg ?_
  refine s_op (o_box rfl rfl rfl) ?_
  refine s_op (o_box rfl rfl rfl) ?_
  refine s_op (o_mv rfl) ?_
  refine s_nilO ?_
  refine q_seqN ?_
  refine s_keep [2, 3] rfl ?_
  refine S_seq ?_
  refine S_seq ?_
  refine s_rg ?_
  refine s_op (o_faC rfl) ?_
  refine s_op (o_ldC rfl rfl rfl) ?_
  refine s_op (o_faC rfl) ?_
  refine s_op (o_ldC rfl rfl rfl) ?_
  first | refine s_call rfl rfl (c_139 _ _ hs.1 hs.2) ?_ | refine s_callL rfl rfl (by simp) (c_139 _ _ hs.1 hs.2) rfl ?_
  refine s_op (o_not rfl) ?_
  refine s_nilO ?_
  refine q_seqN ?_
  refine s_keep [2, 3, 10] rfl ?_
  first | refine s_condD rfl ?_ ?_ | refine s_condN rfl ?_ ?_ | refine s_condNB rfl ?_ ?_ | refine s_condB rfl ?_ ?_
  · intro h1
    try rw [Decidable.not_not] at h1
    refine S_seq ?_
    refine s_rg ?_
    refine s_op (o_mv rfl) ?_
    refine s_nilO ?_
    refine q_seqN ?_
    refine s_keep [4] rfl ?_
    refine s_ret ?_
    refine q_seqR ?_
    refine ret_leaf (.inr rfl) rfl rfl ?_
    refine congrArg (fun b => V.w (.bool b)) ?_
    cases x; cases y; simp_all
  · intro h1
    try rw [Decidable.not_not] at h1
    refine s_skip ?_
    refine q_seqN ?_
    refine s_keep [2, 3] rfl ?_
    refine S_seq ?_
    refine S_seq ?_
    refine s_rg ?_
    refine s_op (o_faC rfl) ?_
    refine s_op (o_ldC rfl rfl rfl) ?_
    refine s_op (o_faC rfl) ?_
    refine s_op (o_ldC rfl rfl rfl) ?_
    first | refine s_op (o_neq rfl rfl) ?_ | refine s_op (o_bin rfl rfl rfl rfl) ?_
    refine s_nilO ?_
    refine q_seqN ?_
    refine s_keep [2, 3, 15] rfl ?_
    first | refine s_condD rfl ?_ ?_ | refine s_condN rfl ?_ ?_ | refine s_condNB rfl ?_ ?_ | refine s_condB rfl ?_ ?_
    · intro h2
      try rw [Decidable.not_not] at h2
      refine S_seq ?_
      refine s_rg ?_
      refine s_op (o_mv rfl) ?_
      refine s_nilO ?_
      refine q_seqN ?_
      refine s_keep [4] rfl ?_
      refine s_ret ?_
      refine q_seqR ?_
      refine ret_leaf (.inr rfl) rfl rfl ?_
      refine congrArg (fun b => V.w (.bool b)) ?_
      cases x; cases y; simp_all
    · intro h2
      try rw [Decidable.not_not] at h2
      refine s_skip ?_
      refine q_seqN ?_
      refine s_keep [2, 3] rfl ?_
      refine S_seq ?_
      refine S_seq ?_
      refine s_rg ?_
      refine s_op (o_faC rfl) ?_
      refine s_op (o_ldC rfl rfl rfl) ?_
      refine s_op (o_faC rfl) ?_
      refine s_op (o_ldC rfl rfl rfl) ?_
      first | refine s_op (o_neq rfl rfl) ?_ | refine s_op (o_bin rfl rfl rfl rfl) ?_
      refine s_nilO ?_
      refine q_seqN ?_
      refine s_keep [2, 3, 20] rfl ?_
      first | refine s_condD rfl ?_ ?_ | refine s_condN rfl ?_ ?_ | refine s_condNB rfl ?_ ?_ | refine s_condB rfl ?_ ?_
      · intro h3
        try rw [Decidable.not_not] at h3
        refine S_seq ?_
        refine s_rg ?_
        refine s_op (o_mv rfl) ?_
        refine s_nilO ?_
        refine q_seqN ?_
        refine s_keep [4] rfl ?_
        refine s_ret ?_
        refine q_seqR ?_
        refine ret_leaf (.inr rfl) rfl rfl ?_
        refine congrArg (fun b => V.w (.bool b)) ?_
        cases x; cases y; simp_all
      · intro h3
        try rw [Decidable.not_not] at h3
        refine s_skip ?_
        refine q_seqN ?_
        refine s_keep [2, 3] rfl ?_
        refine S_seq ?_
        refine S_seq ?_
        refine s_rg ?_
        refine s_op (o_faC rfl) ?_
        refine s_op (o_ldC rfl rfl rfl) ?_
        refine s_op (o_faC rfl) ?_
        refine s_op (o_ldC rfl rfl rfl) ?_
        first | refine s_op (o_neq rfl rfl) ?_ | refine s_op (o_bin rfl rfl rfl rfl) ?_
        refine s_nilO ?_
        refine q_seqN ?_
        refine s_keep [2, 3, 25] rfl ?_
        first | refine s_condD rfl ?_ ?_ | refine s_condN rfl ?_ ?_ | refine s_condNB rfl ?_ ?_ | refine s_condB rfl ?_ ?_
        · intro h4
          try rw [Decidable.not_not] at h4
          refine S_seq ?_
          refine s_rg ?_
          refine s_op (o_mv rfl) ?_
          refine s_nilO ?_
          refine q_seqN ?_
          refine s_keep [4] rfl ?_
          refine s_ret ?_
          refine q_seqR ?_
          refine ret_leaf (.inr rfl) rfl rfl ?_
          refine congrArg (fun b => V.w (.bool b)) ?_
          cases x; cases y; simp_all
        · intro h4
          try rw [Decidable.not_not] at h4
          refine s_skip ?_
          refine q_seqN ?_
          refine s_keep [2, 3] rfl ?_
          refine S_seq ?_
          refine S_seq ?_
          refine s_rg ?_
          refine s_op (o_faC rfl) ?_
          refine s_op (o_ldC rfl rfl rfl) ?_
          refine s_op (o_faC rfl) ?_
          refine s_op (o_ldC rfl rfl rfl) ?_
          refine s_op (o_eqb rfl rfl) ?_
          refine s_nilO ?_
          refine q_seqN ?_
          refine s_keep [2, 3, 30] rfl ?_
          first | refine s_condD rfl ?_ ?_ | refine s_condN rfl ?_ ?_ | refine s_condNB rfl ?_ ?_ | refine s_condB rfl ?_ ?_
          · intro h5
            try rw [Decidable.not_not] at h5
            refine S_seq ?_
            refine s_rg ?_
            refine s_op (o_mv rfl) ?_
            refine s_nilO ?_
            refine q_seqN ?_
            refine s_keep [4] rfl ?_
            refine s_ret ?_
            refine q_seqR ?_
            refine ret_leaf (.inr rfl) rfl rfl ?_
            refine congrArg (fun b => V.w (.bool b)) ?_
            cases x; cases y; simp_all
          · intro h5
            try rw [Decidable.not_not] at h5
            refine s_skip ?_
            refine q_seqN ?_
            refine s_keep [2, 3] rfl ?_
            refine S_seq ?_
            refine S_seq ?_
            refine s_rg ?_
            refine s_op (o_faC rfl) ?_
            refine s_op (o_ldC rfl rfl rfl) ?_
            refine s_op (o_faC rfl) ?_
            refine s_op (o_ldC rfl rfl rfl) ?_
            refine s_op (o_eqb rfl rfl) ?_
            refine s_nilO ?_
            refine q_seqN ?_
            refine s_keep [35] rfl ?_
            first | refine s_condD rfl ?_ ?_ | refine s_condN rfl ?_ ?_ | refine s_condNB rfl ?_ ?_ | refine s_condB rfl ?_ ?_
            · intro h6
              try rw [Decidable.not_not] at h6
              refine S_seq ?_
              refine s_rg ?_
              refine s_op (o_mv rfl) ?_
              refine s_nilO ?_
              refine q_seqN ?_
              refine s_keep [4] rfl ?_
              refine s_ret ?_
              refine q_seqR ?_
              refine ret_leaf (.inr rfl) rfl rfl ?_
              refine congrArg (fun b => V.w (.bool b)) ?_
              cases x; cases y; simp_all
            · intro h6
              try rw [Decidable.not_not] at h6
              refine s_skip ?_
              refine q_seqN ?_
              refine s_keep [] rfl ?_
              refine S_seq ?_
              refine s_rg ?_
              refine s_op (o_mv rfl) ?_
              refine s_nilO ?_
              refine q_seqN ?_
              refine s_keep [4] rfl ?_
              refine s_ret ?_
              refine ret_leaf (.inr rfl) rfl rfl ?_
              refine congrArg (fun b => V.w (.bool b)) ?_
              cases x; cases y; simp_all

theorem c_167 (x : Mst) (hs : x.small) : CV prg 167 [.agg x.r] (fun v => v = .agg x.r) := by
  refine cv_in g167 ?_
  refine s_keep [0] rfl ?_
  refine S_seq ?_
  refine s_rg ?_
  refine s_op (o_box rfl rfl rfl) ?_
  refine s_op (o_new rfl rfl) ?_
  refine s_nilO ?_
  refine q_seqN ?_
  refine s_keep [1, 2] rfl ?_
  refine S_seq ?_
  refine s_rg ?_
  refine s_op (o_new rfl rfl) ?_
  refine s_nilO ?_
  refine q_seqN ?_
  refine s_keep [1, 2, 3] rfl ?_
  refine S_seq ?_
  refine s_rg ?_
  refine s_op (o_faC rfl) ?_
  refine s_op (o_ldC rfl rfl rfl) ?_
  first | refine s_call rfl rfl (c_170 _ hs.1 hs.2) ?_ | refine s_callL rfl rfl (by simp) (c_170 _ hs.1 hs.2) rfl ?_
  refine s_op (o_faC rfl) ?_
  refine s_opN (o_stC rfl rfl rfl rfl rfl rfl) ?_
  refine s_nilO ?_
  refine q_seqN ?_
  refine s_keep [1, 2, 3] rfl ?_
  refine S_seq ?_
  refine s_rg ?_
  refine s_op (o_faC rfl) ?_
  refine s_op (o_ldC rfl rfl rfl) ?_
  refine s_op (o_faC rfl) ?_
  refine s_opN (o_stC rfl rfl rfl rfl rfl rfl) ?_
  refine s_nilO ?_
  refine q_seqN ?_
  refine s_keep [1, 2, 3] rfl ?_
  refine S_seq ?_
  refine s_rg ?_
  refine s_op (o_faC rfl) ?_
  refine s_op (o_ldC rfl rfl rfl) ?_
  refine s_op (o_faC rfl) ?_
  refine s_opN (o_stC rfl rfl rfl rfl rfl rfl) ?_
  refine s_nilO ?_
  refine q_seqN ?_
  refine s_keep [1, 2, 3] rfl ?_
  refine S_seq ?_
  refine s_rg ?_
  refine s_op (o_faC rfl) ?_
  refine s_op (o_ldC rfl rfl rfl) ?_
  refine s_op (o_faC rfl) ?_
  refine s_opN (o_stC rfl rfl rfl rfl rfl rfl) ?_
  refine s_nilO ?_
  refine q_seqN ?_
  refine s_keep [1, 2, 3] rfl ?_
  refine S_seq ?_
  refine s_rg ?_
  refine s_op (o_faC rfl) ?_
  refine s_op (o_ldC rfl rfl rfl) ?_
  refine s_op (o_faC rfl) ?_
  refine s_opN (o_stC rfl rfl rfl rfl rfl rfl) ?_
  refine s_nilO ?_
  refine q_seqN ?_
  refine s_keep [1, 2, 3] rfl ?_
  refine S_seq ?_
  refine s_rg ?_
  refine s_op (o_faC rfl) ?_
  refine s_op (o_ldC rfl rfl rfl) ?_
  refine s_op (o_faC rfl) ?_
  refine s_opN (o_stC rfl rfl rfl rfl rfl rfl) ?_
  refine s_nilO ?_
  refine q_seqN ?_
  refine s_keep [2, 3] rfl ?_
  refine S_seq ?_
  refine s_rg ?_
  refine s_op (o_ldnC rfl rfl rfl) ?_
  refine s_opN (o_stnC rfl rfl rfl rfl rfl rfl rfl) ?_
  refine s_nilO ?_
  refine q_seqN ?_
  refine s_keep [2] rfl ?_
  refine s_ret ?_
  refine ret_leaf (.inr rfl) rfl rfl ?_
  rfl

theorem c_151 (x : Mst) (left : Int) (h : -1 ≤ left ∧ left ≤ 1048576) (hw : x.wf) : CV prg 151 [.agg x.r, .w (.int .i64 left)] (fun v => v = .w (.int .i64 (room left x.sz))) := by
  refine cv_in g151 ?_
  refine s_keep [0, 1] rfl ?_
  refine S_seq ?_
  refine s_rg ?_
  refine s_op (o_box rfl rfl rfl) ?_
  refine s_op (o_mv rfl) ?_
  refine s_nilO ?_
  refine q_seqN ?_
  refine s_keep [1, 2] rfl ?_
  refine S_seq ?_
  refine s_rg ?_
  refine s_op (o_faC rfl) ?_
  refine s_op (o_ldC rfl rfl rfl) ?_
  refine s_op (o_mv rfl) ?_
  first | refine s_call rfl rfl (c_154 _ _ (by (try unfold room at *); omega) hw.1.1 hw.1.2) ?_ | refine s_callL rfl rfl (by simp) (c_154 _ _ (by (try unfold room at *); omega) hw.1.1 hw.1.2) rfl ?_
  refine s_op (o_mv rfl) ?_
  refine s_nilO ?_
  refine q_seqN ?_
  refine s_keep [1] rfl ?_
  refine S_seq ?_
  refine S_seq ?_
  refine s_rg ?_
  refine s_op (o_mv rfl) ?_
  first | refine s_op (o_lss rfl rfl) ?_ | refine s_op (o_bin rfl rfl rfl rfl) ?_
  refine s_nilO ?_
  refine q_seqN ?_
  refine s_keep [1, 10] rfl ?_
  first | refine s_condD rfl ?_ ?_ | refine s_condN rfl ?_ ?_ | refine s_condNB rfl ?_ ?_ | refine s_condB rfl ?_ ?_
  · intro h1
    try rw [Decidable.not_not] at h1
    refine S_seq ?_
    refine s_rg ?_
    refine s_op (o_mv rfl) ?_
    refine s_nilO ?_
    refine q_seqN ?_
    refine s_keep [4] rfl ?_
    refine s_ret ?_
    refine q_seqR ?_
    refine ret_leaf (.inr rfl) rfl rfl ?_
    refine congrArg (fun b => V.w (.int .i64 b)) ?_
    unfold Mst.sz; (try unfold room at *); omega
  · intro h1
    try rw [Decidable.not_not] at h1
    refine s_skip ?_
    refine q_seqN ?_
    refine s_keep [1] rfl ?_
    refine S_seq ?_
    refine s_rg ?_
    refine s_op (o_mv rfl) ?_
    refine s_op (o_mv rfl) ?_
    refine s_nilO ?_
    refine q_seqN ?_
    refine s_keep [4] rfl ?_
    refine s_ret ?_
    refine ret_leaf (.inr rfl) rfl rfl ?_
    refine congrArg (fun b => V.w (.int .i64 b)) ?_
    unfold Mst.sz; (try unfold room at *); omega

theorem c_240 (xs ys : List Int) (hl : xs.length ≤ 1048576) : CV prg 240 [.sl 1 (xs.map iR), .sl 1 (ys.map iR)] (fun v => v = .w (.bool (decide (xs = ys)))) := by
  refine cv_in g240 ?_
  refine s_keep [0, 1] rfl ?_
  refine S_seq ?_
  refine s_rg ?_
  refine s_op (o_mv rfl) ?_
  refine s_nilO ?_
  refine q_seqN ?_
  refine s_keep [0, 1] rfl ?_
  refine S_seq ?_
  refine S_seq ?_
  refine s_rg ?_
  refine s_op (o_mv rfl) ?_
  first | refine s_op (o_lenM rfl) ?_ | refine s_op (o_len rfl) ?_
  refine s_op (o_mv rfl) ?_
  first | refine s_op (o_lenM rfl) ?_ | refine s_op (o_len rfl) ?_
  first | refine s_op (o_neq rfl rfl) ?_ | refine s_op (o_bin rfl rfl rfl rfl) ?_
  refine s_nilO ?_
  refine q_seqN ?_
  refine s_keep [0, 1, 10] rfl ?_
  first | refine s_condD rfl ?_ ?_ | refine s_condN rfl ?_ ?_ | refine s_condNB rfl ?_ ?_ | refine s_condB rfl ?_ ?_
  · intro h1
    try rw [Decidable.not_not] at h1
    refine S_seq ?_
    refine s_rg ?_
    refine s_op (o_mv rfl) ?_
    refine s_nilO ?_
    refine q_seqN ?_
    refine s_keep [4] rfl ?_
    refine s_ret ?_
    refine q_seqR ?_
    refine ret_leaf (.inr rfl) rfl rfl ?_
    refine congrArg (fun b => V.w (.bool b)) ?_
    first | exact (decide_eq_false (ne_at (by assumption) (by assumption) (by assumption))).symm | exact (decide_eq_true (eq_end hi.2.1 (by omega) hi.2.2)).symm | exact (decide_eq_false (fun e => by subst e; simp_all)).symm
  · intro h1
    try rw [Decidable.not_not] at h1
    refine s_skip ?_
    refine q_seqN ?_
    refine s_keep [0, 1] rfl ?_
    refine S_seq ?_
    refine S_seq ?_
    refine s_rg ?_
    refine s_op (o_mv rfl) ?_
    refine s_nilO ?_
    refine q_seqN ?_
    refine s_keep [0, 1, 5] rfl ?_
    refine S_block ?_
    refine S_loop0 (ι := Nat) (fun i => i ≤ xs.length ∧ xs.take i = ys.take i ∧ xs.length = ys.length) (fun i => [(5, .w (.int .i64 (i : Int)))]) (fun i => xs.length - i) 0 ⟨by simp, by simp, by omega⟩ rfl ⟨rfl, trivial⟩ (fun _ _ => rfl) rfl ?_
    intro i hi
    refine s_keep [0, 1, 5] rfl ?_
    refine S_seq ?_
    refine S_seq ?_
    refine s_rg ?_
    refine s_op (o_mv rfl) ?_
    refine s_op (o_mv rfl) ?_
    first | refine s_op (o_lenM rfl) ?_ | refine s_op (o_len rfl) ?_
    first | refine s_op (o_lss rfl rfl) ?_ | refine s_op (o_bin rfl rfl rfl rfl) ?_
    refine s_nilO ?_
    refine q_seqN ?_
    refine s_keep [0, 1, 5, 14] rfl ?_
    first | refine s_condD rfl ?_ ?_ | refine s_condN rfl ?_ ?_ | refine s_condNB rfl ?_ ?_ | refine s_condB rfl ?_ ?_
    · intro h2
      try rw [Decidable.not_not] at h2
      refine s_skip ?_
      refine q_seqN ?_
      refine s_keep [0, 1, 5] rfl ?_
      refine S_seq ?_
      refine S_block ?_
      refine S_seq ?_
      refine s_rg ?_
      refine s_op (o_mv rfl) ?_
      refine s_op (o_mv rfl) ?_
      refine s_iaM rfl rfl (by omega) ?_
      intro y3 e3
      try simp only [Int.toNat_natCast] at e3
      refine s_op (o_ld rfl rfl) ?_
      refine s_op (o_mv rfl) ?_
      refine s_op (o_mv rfl) ?_
      refine s_iaM rfl rfl (by omega) ?_
      intro y4 e4
      try simp only [Int.toNat_natCast] at e4
      refine s_op (o_ld rfl rfl) ?_
      first | refine s_op (o_neq rfl rfl) ?_ | refine s_op (o_bin rfl rfl rfl rfl) ?_
      refine s_nilO ?_
      refine q_seqN ?_
      refine s_keep [0, 1, 5, 25] rfl ?_
      first | refine s_condD rfl ?_ ?_ | refine s_condN rfl ?_ ?_ | refine s_condNB rfl ?_ ?_ | refine s_condB rfl ?_ ?_
      · intro h5
        try rw [Decidable.not_not] at h5
        refine S_seq ?_
        refine s_rg ?_
        refine s_op (o_mv rfl) ?_
        refine s_nilO ?_
        refine q_seqN ?_
        refine s_keep [4] rfl ?_
        refine s_ret ?_
        refine q_blkR ?_
        refine q_seqR ?_
        refine q_loopR ?_
        refine q_blkR ?_
        refine q_seqR ?_
        refine ret_leaf (.inr rfl) rfl rfl ?_
        refine congrArg (fun b => V.w (.bool b)) ?_
        first | exact (decide_eq_false (ne_at (by assumption) (by assumption) (by assumption))).symm | exact (decide_eq_true (eq_end hi.2.1 (by omega) hi.2.2)).symm | exact (decide_eq_false (fun e => by subst e; simp_all)).symm
      · intro h5
        try rw [Decidable.not_not] at h5
        refine s_skip ?_
        refine q_blkN ?_
        refine q_seqN ?_
        refine s_keep [0, 1, 5] rfl ?_
        refine s_rg ?_
        refine s_op (o_mv rfl) ?_
        first | refine s_op (o_addn rfl rfl (by omega)) ?_ | refine s_op (o_add rfl rfl) ?_
        refine s_op (o_mv rfl) ?_
        refine s_nilO ?_
        refine q_loopN ?_
        exact ⟨i + 1, ⟨by omega, eq_take (by assumption) (by assumption) hi.2.1 (by assumption), hi.2.2⟩, by omega, hasOf ⟨rfl, trivial⟩ rfl⟩
    · intro h2
      try rw [Decidable.not_not] at h2
      refine s_exit ?_
      refine q_seqX ?_
      refine q_loopX ?_
      refine q_blkH ?_
      refine q_seqN ?_
      refine s_keep [] rfl ?_
      refine S_seq ?_
      refine s_rg ?_
      refine s_op (o_mv rfl) ?_
      refine s_nilO ?_
      refine q_seqN ?_
      refine s_keep [4] rfl ?_
      refine s_ret ?_
      refine ret_leaf (.inr rfl) rfl rfl ?_
      refine congrArg (fun b => V.w (.bool b)) ?_
      first | exact (decide_eq_false (ne_at (by assumption) (by assumption) (by assumption))).symm | exact (decide_eq_true (eq_end hi.2.1 (by omega) hi.2.2)).symm | exact (decide_eq_false (fun e => by subst e; simp_all)).symm

theorem c_264 (xs ys : List Int) (hl : xs.length ≤ 1048576) : CV prg 264 [.sl 1 (xs.map iR), .sl 1 (ys.map iR)] (fun v => v = .w (.bool (decide (xs = ys)))) := by
  refine cv_in g264 ?_
  refine s_keep [0, 1] rfl ?_
  refine S_seq ?_
  refine s_rg ?_
  refine s_op (o_mv rfl) ?_
  refine s_nilO ?_
  refine q_seqN ?_
  refine s_keep [0, 1] rfl ?_
  refine S_seq ?_
  refine S_seq ?_
  refine s_rg ?_
  refine s_op (o_mv rfl) ?_
  first | refine s_op (o_lenM rfl) ?_ | refine s_op (o_len rfl) ?_
  refine s_op (o_mv rfl) ?_
  first | refine s_op (o_lenM rfl) ?_ | refine s_op (o_len rfl) ?_
  first | refine s_op (o_neq rfl rfl) ?_ | refine s_op (o_bin rfl rfl rfl rfl) ?_
  refine s_nilO ?_
  refine q_seqN ?_
  refine s_keep [0, 1, 10] rfl ?_
  first | refine s_condD rfl ?_ ?_ | refine s_condN rfl ?_ ?_ | refine s_condNB rfl ?_ ?_ | refine s_condB rfl ?_ ?_
  · intro h1
    try rw [Decidable.not_not] at h1
    refine S_seq ?_
    refine s_rg ?_
    refine s_op (o_mv rfl) ?_
    refine s_nilO ?_
    refine q_seqN ?_
    refine s_keep [4] rfl ?_
    refine s_ret ?_
    refine q_seqR ?_
    refine ret_leaf (.inr rfl) rfl rfl ?_
    refine congrArg (fun b => V.w (.bool b)) ?_
    first | exact (decide_eq_false (ne_at (by assumption) (by assumption) (by assumption))).symm | exact (decide_eq_true (eq_end hi.2.1 (by omega) hi.2.2)).symm | exact (decide_eq_false (fun e => by subst e; simp_all)).symm
  · intro h1
    try rw [Decidable.not_not] at h1
    refine s_skip ?_
    refine q_seqN ?_
    refine s_keep [0, 1] rfl ?_
    refine S_seq ?_
    refine S_seq ?_
    refine s_rg ?_
    refine s_op (o_mv rfl) ?_
    first | refine s_op (o_lenM rfl) ?_ | refine s_op (o_len rfl) ?_
    refine s_op (o_mv rfl) ?_
    refine s_nilO ?_
    refine q_seqN ?_
    refine s_keep [0, 1, 12, 13] rfl ?_
    refine S_block ?_
    refine S_loop0 (ι := Nat) (fun i => i ≤ xs.length ∧ xs.take i = ys.take i ∧ xs.length = ys.length) (fun i => [(13, .w (.int .i64 (i : Int)))]) (fun i => xs.length - i) 0 ⟨by simp, by simp, by omega⟩ rfl ⟨rfl, trivial⟩ (fun _ _ => rfl) rfl ?_
    intro i hi
    refine s_keep [0, 1, 12, 13] rfl ?_
    refine S_seq ?_
    refine s_rg ?_
    first | refine s_op (o_lss rfl rfl) ?_ | refine s_op (o_bin rfl rfl rfl rfl) ?_
    refine s_nilO ?_
    refine q_seqN ?_
    refine s_keep [0, 1, 12, 13, 14] rfl ?_
    refine S_seq ?_
    first | refine s_condD rfl ?_ ?_ | refine s_condN rfl ?_ ?_ | refine s_condNB rfl ?_ ?_ | refine s_condB rfl ?_ ?_
    · intro h2
      try rw [Decidable.not_not] at h2
      refine s_skip ?_
      refine q_seqN ?_
      refine s_keep [0, 1, 12, 13] rfl ?_
      refine S_seq ?_
      refine S_block ?_
      refine S_seq ?_
      refine s_rg ?_
      refine s_op (o_mv rfl) ?_
      refine s_op (o_mv rfl) ?_
      refine s_nilO ?_
      refine q_seqN ?_
      refine s_keep [0, 1, 5, 12, 13] rfl ?_
      refine S_seq ?_
      refine s_rg ?_
      refine s_op (o_mv rfl) ?_
      refine s_op (o_mv rfl) ?_
      refine s_iaM rfl rfl (by omega) ?_
      intro y3 e3
      try simp only [Int.toNat_natCast] at e3
      refine s_op (o_ld rfl rfl) ?_
      refine s_op (o_mv rfl) ?_
      refine s_op (o_mv rfl) ?_
      refine s_iaM rfl rfl (by omega) ?_
      intro y4 e4
      try simp only [Int.toNat_natCast] at e4
      refine s_op (o_ld rfl rfl) ?_
      first | refine s_op (o_neq rfl rfl) ?_ | refine s_op (o_bin rfl rfl rfl rfl) ?_
      refine s_nilO ?_
      refine q_seqN ?_
      refine s_keep [0, 1, 12, 13, 24] rfl ?_
      first | refine s_condD rfl ?_ ?_ | refine s_condN rfl ?_ ?_ | refine s_condNB rfl ?_ ?_ | refine s_condB rfl ?_ ?_
      · intro h5
        try rw [Decidable.not_not] at h5
        refine S_seq ?_
        refine s_rg ?_
        refine s_op (o_mv rfl) ?_
        refine s_nilO ?_
        refine q_seqN ?_
        refine s_keep [4] rfl ?_
        refine s_ret ?_
        refine q_blkR ?_
        refine q_seqR ?_
        refine q_loopR ?_
        refine q_blkR ?_
        refine q_seqR ?_
        refine ret_leaf (.inr rfl) rfl rfl ?_
        refine congrArg (fun b => V.w (.bool b)) ?_
        first | exact (decide_eq_false (ne_at (by assumption) (by assumption) (by assumption))).symm | exact (decide_eq_true (eq_end hi.2.1 (by omega) hi.2.2)).symm | exact (decide_eq_false (fun e => by subst e; simp_all)).symm
      · intro h5
        try rw [Decidable.not_not] at h5
        refine s_skip ?_
        refine q_blkN ?_
        refine q_seqN ?_
        refine s_keep [0, 1, 12, 13] rfl ?_
        refine s_rg ?_
        first | refine s_op (o_addn rfl rfl (by omega)) ?_ | refine s_op (o_add rfl rfl) ?_
        refine s_op (o_mv rfl) ?_
        refine s_nilO ?_
        refine q_loopN ?_
        exact ⟨i + 1, ⟨by omega, eq_take (by assumption) (by assumption) hi.2.1 (by assumption), hi.2.2⟩, by omega, hasOf ⟨rfl, trivial⟩ rfl⟩
    · intro h2
      try rw [Decidable.not_not] at h2
      refine s_exit ?_
      refine q_seqX ?_
      refine q_loopX ?_
      refine q_blkH ?_
      refine q_seqN ?_
      refine s_keep [] rfl ?_
      refine S_seq ?_
      refine s_rg ?_
      refine s_op (o_mv rfl) ?_
      refine s_nilO ?_
      refine q_seqN ?_
      refine s_keep [4] rfl ?_
      refine s_ret ?_
      refine ret_leaf (.inr rfl) rfl rfl ?_
      refine congrArg (fun b => V.w (.bool b)) ?_
      first | exact (decide_eq_false (ne_at (by assumption) (by assumption) (by assumption))).symm | exact (decide_eq_true (eq_end hi.2.1 (by omega) hi.2.2)).symm | exact (decide_eq_false (fun e => by subst e; simp_all)).symm

theorem c_71 (x y : Req) (hs : x.small) : CV prg 71 [.agg x.r, .agg y.r] (fun v => v = .w (.bool (decide (x = y)))) := by
  refine cv_in g71 ?_
  refine s_keep [0, 1] rfl ?_
  refine S_seq ?_
  refine s_rg ?_
  refine s_op (o_box rfl rfl rfl) ?_
  refine s_op (o_box rfl rfl rfl) ?_
  refine s_op (o_mv rfl) ?_
  refine s_nilO ?_
  refine q_seqN ?_
  refine s_keep [2, 3] rfl ?_
  refine S_seq ?_
  refine s_rg ?_
  refine s_op (o_faC rfl) ?_
  refine s_op (o_ldC rfl rfl rfl) ?_
  refine s_op (o_faC rfl) ?_
  refine s_op (o_ldC rfl rfl rfl) ?_
  refine s_op (o_eqb rfl rfl) ?_
  refine s_op (o_mv rfl) ?_
  first | refine s_gDT rfl ?_ ?_ | refine s_gNDT rfl ?_ ?_ | refine s_gNT rfl ?_ ?_ | refine s_gB rfl ?_ ?_
  · intro h1
    try rw [Decidable.not_not] at h1
    refine s_op (o_faC rfl) ?_
    refine s_gT rfl ?_
    refine s_op (o_ldC rfl rfl rfl) ?_
    refine s_gT rfl ?_
    refine s_op (o_faC rfl) ?_
    refine s_gT rfl ?_
    refine s_op (o_ldC rfl rfl rfl) ?_
    refine s_gT rfl ?_
    first | refine s_op (o_eql rfl rfl) ?_ | refine s_op (o_bin rfl rfl rfl rfl) ?_
    refine s_op (o_pickT rfl rfl) ?_
    refine s_op (o_mv rfl) ?_
    first | refine s_gDT rfl ?_ ?_ | refine s_gNDT rfl ?_ ?_ | refine s_gNT rfl ?_ ?_ | refine s_gB rfl ?_ ?_
    · intro h2
      try rw [Decidable.not_not] at h2
      refine s_op (o_faC rfl) ?_
      refine s_keepO (is := [2, 3, 17, 18]) rfl ?_
      refine s_gT rfl ?_
      refine s_op (o_ldC rfl rfl rfl) ?_
      refine s_gT rfl ?_
      refine s_op (o_faC rfl) ?_
      refine s_gT rfl ?_
      refine s_op (o_ldC rfl rfl rfl) ?_
      refine s_gT rfl ?_
      first | refine s_op (o_eql rfl rfl) ?_ | refine s_op (o_bin rfl rfl rfl rfl) ?_
      refine s_op (o_pickT rfl rfl) ?_
      refine s_op (o_mv rfl) ?_
      first | refine s_gDT rfl ?_ ?_ | refine s_gNDT rfl ?_ ?_ | refine s_gNT rfl ?_ ?_ | refine s_gB rfl ?_ ?_
      · intro h3
        try rw [Decidable.not_not] at h3
        refine s_op (o_faC rfl) ?_
        refine s_gT rfl ?_
        refine s_op (o_ldC rfl rfl rfl) ?_
        refine s_gT rfl ?_
        refine s_op (o_faC rfl) ?_
        refine s_gT rfl ?_
        refine s_op (o_ldC rfl rfl rfl) ?_
        refine s_gT rfl ?_
        first | refine s_op (o_eql rfl rfl) ?_ | refine s_op (o_bin rfl rfl rfl rfl) ?_
        refine s_op (o_pickT rfl rfl) ?_
        refine s_op (o_mv rfl) ?_
        first | refine s_gDT rfl ?_ ?_ | refine s_gNDT rfl ?_ ?_ | refine s_gNT rfl ?_ ?_ | refine s_gB rfl ?_ ?_
        · intro h4
          try rw [Decidable.not_not] at h4
          refine s_op (o_faC rfl) ?_
          refine s_keepO (is := [2, 3, 31, 32]) rfl ?_
          refine s_gT rfl ?_
          refine s_op (o_ldC rfl rfl rfl) ?_
          refine s_gT rfl ?_
          refine s_op (o_faC rfl) ?_
          refine s_gT rfl ?_
          refine s_op (o_ldC rfl rfl rfl) ?_
          refine s_gT rfl ?_
          refine s_op (o_eqb rfl rfl) ?_
          refine s_op (o_pickT rfl rfl) ?_
          refine s_op (o_mv rfl) ?_
          first | refine s_gDT rfl ?_ ?_ | refine s_gNDT rfl ?_ ?_ | refine s_gNT rfl ?_ ?_ | refine s_gB rfl ?_ ?_
          · intro h5
            try rw [Decidable.not_not] at h5
            refine s_op (o_faC rfl) ?_
            refine s_gT rfl ?_
            refine s_op (o_ldC rfl rfl rfl) ?_
            refine s_gT rfl ?_
            refine s_op (o_faC rfl) ?_
            refine s_gT rfl ?_
            refine s_op (o_ldC rfl rfl rfl) ?_
            refine s_gT rfl ?_
            first | refine s_call rfl rfl (c_264 _ _ hs) ?_ | refine s_callL rfl rfl (by simp) (c_264 _ _ hs) rfl ?_
            refine s_op (o_pickT rfl rfl) ?_
            refine s_op (o_mv rfl) ?_
            refine s_nilO ?_
            refine q_seqN ?_
            refine s_keep [4] rfl ?_
            refine s_ret ?_
            refine ret_leaf (.inr rfl) rfl rfl ?_
            refine congrArg (fun b => V.w (.bool b)) ?_
            cases x; cases y; simp_all [bbeq]
          · intro h5
            try rw [Decidable.not_not] at h5
            refine s_gF rfl ?_
            refine s_gF rfl ?_
            refine s_gF rfl ?_
            refine s_gF rfl ?_
            refine s_gF rfl ?_
            refine s_op (o_pickF rfl rfl) ?_
            refine s_op (o_mv rfl) ?_
            refine s_nilO ?_
            refine q_seqN ?_
            refine s_keep [4] rfl ?_
            refine s_ret ?_
            refine ret_leaf (.inr rfl) rfl rfl ?_
            refine congrArg (fun b => V.w (.bool b)) ?_
            cases x; cases y; simp_all [bbeq]
        · intro h4
          try rw [Decidable.not_not] at h4
          refine s_gF rfl ?_
          refine s_keepO (is := [2, 3, 31, 32]) rfl ?_
          refine s_gF rfl ?_
          refine s_gF rfl ?_
          refine s_gF rfl ?_
          refine s_gF rfl ?_
          refine s_op (o_pickF rfl rfl) ?_
          refine s_op (o_mv rfl) ?_
          refine s_gF rfl ?_
          refine s_gF rfl ?_
          refine s_gF rfl ?_
          refine s_gF rfl ?_
          refine s_gF rfl ?_
          refine s_op (o_pickF rfl rfl) ?_
          refine s_op (o_mv rfl) ?_
          refine s_nilO ?_
          refine q_seqN ?_
          refine s_keep [4] rfl ?_
          refine s_ret ?_
          refine ret_leaf (.inr rfl) rfl rfl ?_
          refine congrArg (fun b => V.w (.bool b)) ?_
          cases x; cases y; simp_all [bbeq]
      · intro h3
        try rw [Decidable.not_not] at h3
        refine s_gF rfl ?_
        refine s_gF rfl ?_
        refine s_gF rfl ?_
        refine s_gF rfl ?_
        refine s_gF rfl ?_
        refine s_op (o_pickF rfl rfl) ?_
        refine s_op (o_mv rfl) ?_
        refine s_gF rfl ?_
        refine s_keepO (is := [2, 3, 31, 32]) rfl ?_
        refine s_gF rfl ?_
        refine s_gF rfl ?_
        refine s_gF rfl ?_
        refine s_gF rfl ?_
        refine s_op (o_pickF rfl rfl) ?_
        refine s_op (o_mv rfl) ?_
        refine s_gF rfl ?_
        refine s_gF rfl ?_
        refine s_gF rfl ?_
        refine s_gF rfl ?_
        refine s_gF rfl ?_
        refine s_op (o_pickF rfl rfl) ?_
        refine s_op (o_mv rfl) ?_
        refine s_nilO ?_
        refine q_seqN ?_
        refine s_keep [4] rfl ?_
        refine s_ret ?_
        refine ret_leaf (.inr rfl) rfl rfl ?_
        refine congrArg (fun b => V.w (.bool b)) ?_
        cases x; cases y; simp_all [bbeq]
    · intro h2
      try rw [Decidable.not_not] at h2
      refine s_gF rfl ?_
      refine s_keepO (is := [2, 3, 17, 18]) rfl ?_
      refine s_gF rfl ?_
      refine s_gF rfl ?_
      refine s_gF rfl ?_
      refine s_gF rfl ?_
      refine s_op (o_pickF rfl rfl) ?_
      refine s_op (o_mv rfl) ?_
      refine s_gF rfl ?_
      refine s_gF rfl ?_
      refine s_gF rfl ?_
      refine s_gF rfl ?_
      refine s_gF rfl ?_
      refine s_op (o_pickF rfl rfl) ?_
      refine s_op (o_mv rfl) ?_
      refine s_gF rfl ?_
      refine s_keepO (is := [2, 3, 31, 32]) rfl ?_
      refine s_gF rfl ?_
      refine s_gF rfl ?_
      refine s_gF rfl ?_
      refine s_gF rfl ?_
      refine s_op (o_pickF rfl rfl) ?_
      refine s_op (o_mv rfl) ?_
      refine s_gF rfl ?_
      refine s_gF rfl ?_
      refine s_gF rfl ?_
      refine s_gF rfl ?_
      refine s_gF rfl ?_
      refine s_op (o_pickF rfl rfl) ?_
      refine s_op (o_mv rfl) ?_
      refine s_nilO ?_
      refine q_seqN ?_
      refine s_keep [4] rfl ?_
      refine s_ret ?_
      refine ret_leaf (.inr rfl) rfl rfl ?_
      refine congrArg (fun b => V.w (.bool b)) ?_
      cases x; cases y; simp_all [bbeq]
  · intro h1
    try rw [Decidable.not_not] at h1
    refine s_gF rfl ?_
    refine s_gF rfl ?_
    refine s_gF rfl ?_
    refine s_gF rfl ?_
    refine s_gF rfl ?_
    refine s_op (o_pickF rfl rfl) ?_
    refine s_op (o_mv rfl) ?_
    refine s_gF rfl ?_
    refine s_keepO (is := [2, 3, 17, 18]) rfl ?_
    refine s_gF rfl ?_
    refine s_gF rfl ?_
    refine s_gF rfl ?_
    refine s_gF rfl ?_
    refine s_op (o_pickF rfl rfl) ?_
    refine s_op (o_mv rfl) ?_
    refine s_gF rfl ?_
    refine s_gF rfl ?_
    refine s_gF rfl ?_
    refine s_gF rfl ?_
    refine s_gF rfl ?_
    refine s_op (o_pickF rfl rfl) ?_
    refine s_op (o_mv rfl) ?_
    refine s_gF rfl ?_
    refine s_keepO (is := [2, 3, 31, 32]) rfl ?_
    refine s_gF rfl ?_
    refine s_gF rfl ?_
    refine s_gF rfl ?_
    refine s_gF rfl ?_
    refine s_op (o_pickF rfl rfl) ?_
    refine s_op (o_mv rfl) ?_
    refine s_gF rfl ?_
    refine s_gF rfl ?_
    refine s_gF rfl ?_
    refine s_gF rfl ?_
    refine s_gF rfl ?_
    refine s_op (o_pickF rfl rfl) ?_
    refine s_op (o_mv rfl) ?_
    refine s_nilO ?_
    refine q_seqN ?_
    refine s_keep [4] rfl ?_
    refine s_ret ?_
    refine ret_leaf (.inr rfl) rfl rfl ?_
    refine congrArg (fun b => V.w (.bool b)) ?_
    cases x; cases y; simp_all [bbeq]

theorem c_211 (x y : Req) (hs : x.small) : CV prg 211 [.agg x.r, .agg y.r] (fun v => v = .w (.bool (decide (x = y)))) := by
  refine cv_in g211 ?_
  refine s_keep [0, 1] rfl ?_
  refine S_seq ?_
  refine s_rg ?_
  refine s_op (o_box rfl rfl rfl) ?_
  refine s_op (o_box rfl rfl rfl) ?_
  refine s_op (o_mv rfl) ?_
  refine s_nilO ?_
  refine q_seqN ?_
  refine s_keep [2, 3] rfl ?_
  refine S_seq ?_
  refine s_rg ?_
  refine s_op (o_faC rfl) ?_
  refine s_op (o_ldC rfl rfl rfl) ?_
  refine s_op (o_faC rfl) ?_
  refine s_op (o_ldC rfl rfl rfl) ?_
  refine s_op (o_eqb rfl rfl) ?_
  refine s_op (o_mv rfl) ?_
  first | refine s_gDT rfl ?_ ?_ | refine s_gNDT rfl ?_ ?_ | refine s_gNT rfl ?_ ?_ | refine s_gB rfl ?_ ?_
  · intro h1
    try rw [Decidable.not_not] at h1
    refine s_op (o_faC rfl) ?_
    refine s_gT rfl ?_
    refine s_op (o_ldC rfl rfl rfl) ?_
    refine s_gT rfl ?_
    refine s_op (o_faC rfl) ?_
    refine s_gT rfl ?_
    refine s_op (o_ldC rfl rfl rfl) ?_
    refine s_gT rfl ?_
    first | refine s_op (o_eql rfl rfl) ?_ | refine s_op (o_bin rfl rfl rfl rfl) ?_
    refine s_op (o_pickT rfl rfl) ?_
    refine s_op (o_mv rfl) ?_
    first | refine s_gDT rfl ?_ ?_ | refine s_gNDT rfl ?_ ?_ | refine s_gNT rfl ?_ ?_ | refine s_gB rfl ?_ ?_
    · intro h2
      try rw [Decidable.not_not] at h2
      refine s_op (o_faC rfl) ?_
      refine s_keepO (is := [2, 3, 17, 18]) rfl ?_
      refine s_gT rfl ?_
      refine s_op (o_ldC rfl rfl rfl) ?_
      refine s_gT rfl ?_
      refine s_op (o_faC rfl) ?_
      refine s_gT rfl ?_
      refine s_op (o_ldC rfl rfl rfl) ?_
      refine s_gT rfl ?_
      first | refine s_op (o_eql rfl rfl) ?_ | refine s_op (o_bin rfl rfl rfl rfl) ?_
      refine s_op (o_pickT rfl rfl) ?_
      refine s_op (o_mv rfl) ?_
      first | refine s_gDT rfl ?_ ?_ | refine s_gNDT rfl ?_ ?_ | refine s_gNT rfl ?_ ?_ | refine s_gB rfl ?_ ?_
      · intro h3
        try rw [Decidable.not_not] at h3
        refine s_op (o_faC rfl) ?_
        refine s_gT rfl ?_
        refine s_op (o_ldC rfl rfl rfl) ?_
        refine s_gT rfl ?_
        refine s_op (o_faC rfl) ?_
        refine s_gT rfl ?_
        refine s_op (o_ldC rfl rfl rfl) ?_
        refine s_gT rfl ?_
        first | refine s_op (o_eql rfl rfl) ?_ | refine s_op (o_bin rfl rfl rfl rfl) ?_
        refine s_op (o_pickT rfl rfl) ?_
        refine s_op (o_mv rfl) ?_
        first | refine s_gDT rfl ?_ ?_ | refine s_gNDT rfl ?_ ?_ | refine s_gNT rfl ?_ ?_ | refine s_gB rfl ?_ ?_
        · intro h4
          try rw [Decidable.not_not] at h4
          refine s_op (o_faC rfl) ?_
          refine s_keepO (is := [2, 3, 31, 32]) rfl ?_
          refine s_gT rfl ?_
          refine s_op (o_ldC rfl rfl rfl) ?_
          refine s_gT rfl ?_
          refine s_op (o_faC rfl) ?_
          refine s_gT rfl ?_
          refine s_op (o_ldC rfl rfl rfl) ?_
          refine s_gT rfl ?_
          refine s_op (o_eqb rfl rfl) ?_
          refine s_op (o_pickT rfl rfl) ?_
          refine s_op (o_mv rfl) ?_
          first | refine s_gDT rfl ?_ ?_ | refine s_gNDT rfl ?_ ?_ | refine s_gNT rfl ?_ ?_ | refine s_gB rfl ?_ ?_
          · intro h5
            try rw [Decidable.not_not] at h5
            refine s_op (o_faC rfl) ?_
            refine s_gT rfl ?_
            refine s_op (o_ldC rfl rfl rfl) ?_
            refine s_gT rfl ?_
            refine s_op (o_faC rfl) ?_
            refine s_gT rfl ?_
            refine s_op (o_ldC rfl rfl rfl) ?_
            refine s_gT rfl ?_
            first | refine s_call rfl rfl (c_240 _ _ hs) ?_ | refine s_callL rfl rfl (by simp) (c_240 _ _ hs) rfl ?_
            refine s_op (o_pickT rfl rfl) ?_
            refine s_op (o_mv rfl) ?_
            refine s_nilO ?_
            refine q_seqN ?_
            refine s_keep [4] rfl ?_
            refine s_ret ?_
            refine ret_leaf (.inr rfl) rfl rfl ?_
            refine congrArg (fun b => V.w (.bool b)) ?_
            cases x; cases y; simp_all [bbeq]
          · intro h5
            try rw [Decidable.not_not] at h5
            refine s_gF rfl ?_
            refine s_gF rfl ?_
            refine s_gF rfl ?_
            refine s_gF rfl ?_
            refine s_gF rfl ?_
            refine s_op (o_pickF rfl rfl) ?_
            refine s_op (o_mv rfl) ?_
            refine s_nilO ?_
            refine q_seqN ?_
            refine s_keep [4] rfl ?_
            refine s_ret ?_
            refine ret_leaf (.inr rfl) rfl rfl ?_
            refine congrArg (fun b => V.w (.bool b)) ?_
            cases x; cases y; simp_all [bbeq]
        · intro h4
          try rw [Decidable.not_not] at h4
          refine s_gF rfl ?_
          refine s_keepO (is := [2, 3, 31, 32]) rfl ?_
          refine s_gF rfl ?_
          refine s_gF rfl ?_
          refine s_gF rfl ?_
          refine s_gF rfl ?_
          refine s_op (o_pickF rfl rfl) ?_
          refine s_op (o_mv rfl) ?_
          refine s_gF rfl ?_
          refine s_gF rfl ?_
          refine s_gF rfl ?_
          refine s_gF rfl ?_
          refine s_gF rfl ?_
          refine s_op (o_pickF rfl rfl) ?_
          refine s_op (o_mv rfl) ?_
          refine s_nilO ?_
          refine q_seqN ?_
          refine s_keep [4] rfl ?_
          refine s_ret ?_
          refine ret_leaf (.inr rfl) rfl rfl ?_
          refine congrArg (fun b => V.w (.bool b)) ?_
          cases x; cases y; simp_all [bbeq]
      · intro h3
        try rw [Decidable.not_not] at h3
        refine s_gF rfl ?_
        refine s_gF rfl ?_
        refine s_gF rfl ?_
        refine s_gF rfl ?_
        refine s_gF rfl ?_
        refine s_op (o_pickF rfl rfl) ?_
        refine s_op (o_mv rfl) ?_
        refine s_gF rfl ?_
        refine s_keepO (is := [2, 3, 31, 32]) rfl ?_
        refine s_gF rfl ?_
        refine s_gF rfl ?_
        refine s_gF rfl ?_
        refine s_gF rfl ?_
        refine s_op (o_pickF rfl rfl) ?_
        refine s_op (o_mv rfl) ?_
        refine s_gF rfl ?_
        refine s_gF rfl ?_
        refine s_gF rfl ?_
        refine s_gF rfl ?_
        refine s_gF rfl ?_
        refine s_op (o_pickF rfl rfl) ?_
        refine s_op (o_mv rfl) ?_
        refine s_nilO ?_
        refine q_seqN ?_
        refine s_keep [4] rfl ?_
        refine s_ret ?_
        refine ret_leaf (.inr rfl) rfl rfl ?_
        refine congrArg (fun b => V.w (.bool b)) ?_
        cases x; cases y; simp_all [bbeq]
    · intro h2
      try rw [Decidable.not_not] at h2
      refine s_gF rfl ?_
      refine s_keepO (is := [2, 3, 17, 18]) rfl ?_
      refine s_gF rfl ?_
      refine s_gF rfl ?_
      refine s_gF rfl ?_
      refine s_gF rfl ?_
      refine s_op (o_pickF rfl rfl) ?_
      refine s_op (o_mv rfl) ?_
      refine s_gF rfl ?_
      refine s_gF rfl ?_
      refine s_gF rfl ?_
      refine s_gF rfl ?_
      refine s_gF rfl ?_
      refine s_op (o_pickF rfl rfl) ?_
      refine s_op (o_mv rfl) ?_
      refine s_gF rfl ?_
      refine s_keepO (is := [2, 3, 31, 32]) rfl ?_
      refine s_gF rfl ?_
      refine s_gF rfl ?_
      refine s_gF rfl ?_
      refine s_gF rfl ?_
      refine s_op (o_pickF rfl rfl) ?_
      refine s_op (o_mv rfl) ?_
      refine s_gF rfl ?_
      refine s_gF rfl ?_
      refine s_gF rfl ?_
      refine s_gF rfl ?_
      refine s_gF rfl ?_
      refine s_op (o_pickF rfl rfl) ?_
      refine s_op (o_mv rfl) ?_
      refine s_nilO ?_
      refine q_seqN ?_
      refine s_keep [4] rfl ?_
      refine s_ret ?_
      refine ret_leaf (.inr rfl) rfl rfl ?_
      refine congrArg (fun b => V.w (.bool b)) ?_
      cases x; cases y; simp_all [bbeq]
  · intro h1
    try rw [Decidable.not_not] at h1
    refine s_gF rfl ?_
    refine s_gF rfl ?_
    refine s_gF rfl ?_
    refine s_gF rfl ?_
    refine s_gF rfl ?_
    refine s_op (o_pickF rfl rfl) ?_
    refine s_op (o_mv rfl) ?_
    refine s_gF rfl ?_
    refine s_keepO (is := [2, 3, 17, 18]) rfl ?_
    refine s_gF rfl ?_
    refine s_gF rfl ?_
    refine s_gF rfl ?_
    refine s_gF rfl ?_
    refine s_op (o_pickF rfl rfl) ?_
    refine s_op (o_mv rfl) ?_
    refine s_gF rfl ?_
    refine s_gF rfl ?_
    refine s_gF rfl ?_
    refine s_gF rfl ?_
    refine s_gF rfl ?_
    refine s_op (o_pickF rfl rfl) ?_
    refine s_op (o_mv rfl) ?_
    refine s_gF rfl ?_
    refine s_keepO (is := [2, 3, 31, 32]) rfl ?_
    refine s_gF rfl ?_
    refine s_gF rfl ?_
    refine s_gF rfl ?_
    refine s_gF rfl ?_
    refine s_op (o_pickF rfl rfl) ?_
    refine s_op (o_mv rfl) ?_
    refine s_gF rfl ?_
    refine s_gF rfl ?_
    refine s_gF rfl ?_
    refine s_gF rfl ?_
    refine s_gF rfl ?_
    refine s_op (o_pickF rfl rfl) ?_
    refine s_op (o_mv rfl) ?_
    refine s_nilO ?_
    refine q_seqN ?_
    refine s_keep [4] rfl ?_
    refine s_ret ?_
    refine ret_leaf (.inr rfl) rfl rfl ?_
    refine congrArg (fun b => V.w (.bool b)) ?_
    cases x; cases y; simp_all [bbeq]

theorem c_263 (xs ys : List Req) (hl : xs.length ≤ 1048576) (f : Nat) (h : ∀ x y, x ∈ xs → CV prg f [.agg (Req.r x), .agg (Req.r y)] (fun v => v = .w (.bool (decide (x = y))))) : CV prg 263 [.sl 6 (xs.map Req.r), .sl 6 (ys.map Req.r), .fn f []] (fun v => v = .w (.bool (decide (xs = ys)))) := by
  refine cv_in g263 ?_
  refine s_keep [0, 1, 2] rfl ?_
  refine S_seq ?_
  refine s_rg ?_
  refine s_op (o_mv rfl) ?_
  refine s_nilO ?_
  refine q_seqN ?_
  refine s_keep [0, 1, 2] rfl ?_
  refine S_seq ?_
  refine S_seq ?_
  refine s_rg ?_
  refine s_op (o_mv rfl) ?_
  first | refine s_op (o_lenM rfl) ?_ | refine s_op (o_len rfl) ?_
  refine s_op (o_mv rfl) ?_
  first | refine s_op (o_lenM rfl) ?_ | refine s_op (o_len rfl) ?_
  first | refine s_op (o_neq rfl rfl) ?_ | refine s_op (o_bin rfl rfl rfl rfl) ?_
  refine s_nilO ?_
  refine q_seqN ?_
  refine s_keep [0, 1, 2, 14] rfl ?_
  first | refine s_condD rfl ?_ ?_ | refine s_condN rfl ?_ ?_ | refine s_condNB rfl ?_ ?_ | refine s_condB rfl ?_ ?_
  · intro h1
    try rw [Decidable.not_not] at h1
    refine S_seq ?_
    refine s_rg ?_
    refine s_op (o_mv rfl) ?_
    refine s_nilO ?_
    refine q_seqN ?_
    refine s_keep [6] rfl ?_
    refine s_ret ?_
    refine q_seqR ?_
    refine ret_leaf (.inr rfl) rfl rfl ?_
    refine congrArg (fun b => V.w (.bool b)) ?_
    first | exact (decide_eq_false (ne_at (by assumption) (by assumption) (by assumption))).symm | exact (decide_eq_true (eq_end hi.2.1 (by omega) hi.2.2)).symm | exact (decide_eq_false (fun e => by subst e; simp_all)).symm
  · intro h1
    try rw [Decidable.not_not] at h1
    refine s_skip ?_
    refine q_seqN ?_
    refine s_keep [0, 1, 2] rfl ?_
    refine S_seq ?_
    refine S_seq ?_
    refine s_rg ?_
    refine s_op (o_mv rfl) ?_
    first | refine s_op (o_lenM rfl) ?_ | refine s_op (o_len rfl) ?_
    refine s_op (o_mv rfl) ?_
    refine s_nilO ?_
    refine q_seqN ?_
    refine s_keep [1, 2, 15, 16, 17] rfl ?_
    refine S_block ?_
    refine S_loop0 (ι := Nat) (fun i => i ≤ xs.length ∧ xs.take i = ys.take i ∧ xs.length = ys.length) (fun i => [(17, .w (.int .i64 (i : Int)))]) (fun i => xs.length - i) 0 ⟨by simp, by simp, by omega⟩ rfl ⟨rfl, trivial⟩ (fun _ _ => rfl) rfl ?_
    intro i hi
    refine s_keep [1, 2, 15, 16, 17] rfl ?_
    refine S_seq ?_
    refine s_rg ?_
    first | refine s_op (o_lss rfl rfl) ?_ | refine s_op (o_bin rfl rfl rfl rfl) ?_
    refine s_nilO ?_
    refine q_seqN ?_
    refine s_keep [1, 2, 15, 16, 17, 18] rfl ?_
    refine S_seq ?_
    first | refine s_condD rfl ?_ ?_ | refine s_condN rfl ?_ ?_ | refine s_condNB rfl ?_ ?_ | refine s_condB rfl ?_ ?_
    · intro h2
      try rw [Decidable.not_not] at h2
      refine s_skip ?_
      refine q_seqN ?_
      refine s_keep [1, 2, 15, 16, 17] rfl ?_
      refine S_seq ?_
      refine S_block ?_
      refine S_seq ?_
      refine s_rg ?_
      refine s_op (o_mv rfl) ?_
      refine s_iaM rfl rfl (by omega) ?_
      intro y3 e3
      try simp only [Int.toNat_natCast] at e3
      refine s_op (o_ldn rfl rfl) ?_
      refine s_op (o_new rfl rfl) ?_
      refine s_op (o_mv rfl) ?_
      refine s_opN (o_stnC rfl rfl rfl rfl rfl rfl rfl) ?_
      refine s_nilO ?_
      refine q_seqN ?_
      refine s_keep [1, 2, 7, 8, 15, 16, 17] rfl ?_
      refine S_seq ?_
      refine s_rg ?_
      refine s_op (o_mv rfl) ?_
      refine s_op (o_mv rfl) ?_
      refine s_iaM rfl rfl (by omega) ?_
      intro y4 e4
      try simp only [Int.toNat_natCast] at e4
      refine s_op (o_ldn rfl rfl) ?_
      refine s_op (o_new rfl rfl) ?_
      refine s_opN (o_stnC rfl rfl rfl rfl rfl rfl rfl) ?_
      refine s_nilO ?_
      refine q_seqN ?_
      refine s_keep [1, 2, 8, 9, 15, 16, 17] rfl ?_
      refine S_seq ?_
      refine s_rg ?_
      refine s_op (o_mv rfl) ?_
      refine s_op (o_ldnC rfl rfl rfl) ?_
      refine s_op (o_ldnC rfl rfl rfl) ?_
      refine s_calli rfl rfl rfl (h _ _ (List.mem_of_getElem? (by assumption))) ?_
      refine s_op (o_not rfl) ?_
      refine s_nilO ?_
      refine q_seqN ?_
      refine s_keep [1, 2, 15, 16, 17, 30] rfl ?_
      first | refine s_condD rfl ?_ ?_ | refine s_condN rfl ?_ ?_ | refine s_condNB rfl ?_ ?_ | refine s_condB rfl ?_ ?_
      · intro h5
        try rw [Decidable.not_not] at h5
        refine S_seq ?_
        refine s_rg ?_
        refine s_op (o_mv rfl) ?_
        refine s_nilO ?_
        refine q_seqN ?_
        refine s_keep [6] rfl ?_
        refine s_ret ?_
        refine q_blkR ?_
        refine q_seqR ?_
        refine q_loopR ?_
        refine q_blkR ?_
        refine q_seqR ?_
        refine ret_leaf (.inr rfl) rfl rfl ?_
        refine congrArg (fun b => V.w (.bool b)) ?_
        first | exact (decide_eq_false (ne_at (by assumption) (by assumption) (by assumption))).symm | exact (decide_eq_true (eq_end hi.2.1 (by omega) hi.2.2)).symm | exact (decide_eq_false (fun e => by subst e; simp_all)).symm
      · intro h5
        try rw [Decidable.not_not] at h5
        refine s_skip ?_
        refine q_blkN ?_
        refine q_seqN ?_
        refine s_keep [1, 2, 15, 16, 17] rfl ?_
        refine s_rg ?_
        first | refine s_op (o_addn rfl rfl (by omega)) ?_ | refine s_op (o_add rfl rfl) ?_
        refine s_op (o_mv rfl) ?_
        refine s_nilO ?_
        refine q_loopN ?_
        exact ⟨i + 1, ⟨by omega, eq_take (by assumption) (by assumption) hi.2.1 (by assumption), hi.2.2⟩, by omega, hasOf ⟨rfl, trivial⟩ rfl⟩
    · intro h2
      try rw [Decidable.not_not] at h2
      refine s_exit ?_
      refine q_seqX ?_
      refine q_loopX ?_
      refine q_blkH ?_
      refine q_seqN ?_
      refine s_keep [] rfl ?_
      refine S_seq ?_
      refine s_rg ?_
      refine s_op (o_mv rfl) ?_
      refine s_nilO ?_
      refine q_seqN ?_
      refine s_keep [6] rfl ?_
      refine s_ret ?_
      refine ret_leaf (.inr rfl) rfl rfl ?_
      refine congrArg (fun b => V.w (.bool b)) ?_
      first | exact (decide_eq_false (ne_at (by assumption) (by assumption) (by assumption))).symm | exact (decide_eq_true (eq_end hi.2.1 (by omega) hi.2.2)).symm | exact (decide_eq_false (fun e => by subst e; simp_all)).symm

theorem c_70 (x y : Mst) (hs : x.small) : CV prg 70 [.agg x.r, .agg y.r] (fun v => v = .w (.bool (decide (x = y)))) := by
  refine cv_in g70 ?_
  refine s_keep [0, 1] rfl ?_
  refine S_seq ?_
  refine s_rg ?_
  refine s_op (o_box rfl rfl rfl) ?_
  refine s_op (o_box rfl rfl rfl) ?_
  refine s_op (o_mv rfl) ?_
  refine s_nilO ?_
  refine q_seqN ?_
  refine s_keep [2, 3] rfl ?_
  refine S_seq ?_
  refine s_rg ?_
  refine s_op (o_faC rfl) ?_
  refine s_op (o_ldC rfl rfl rfl) ?_
  refine s_op (o_faC rfl) ?_
  refine s_op (o_ldC rfl rfl rfl) ?_
  first | refine s_call rfl rfl (c_263 _ _ hs.1 _ (fun a b ha => c_71 a b (hs.2 a ha))) ?_ | refine s_callL rfl rfl (by simp) (c_263 _ _ hs.1 _ (fun a b ha => c_71 a b (hs.2 a ha))) rfl ?_
  refine s_op (o_mv rfl) ?_
  first | refine s_gDT rfl ?_ ?_ | refine s_gNDT rfl ?_ ?_ | refine s_gNT rfl ?_ ?_ | refine s_gB rfl ?_ ?_
  · intro h1
    try rw [Decidable.not_not] at h1
    refine s_op (o_faC rfl) ?_
    refine s_gT rfl ?_
    refine s_op (o_ldC rfl rfl rfl) ?_
    refine s_gT rfl ?_
    refine s_op (o_faC rfl) ?_
    refine s_gT rfl ?_
    refine s_op (o_ldC rfl rfl rfl) ?_
    refine s_gT rfl ?_
    first | refine s_op (o_eql rfl rfl) ?_ | refine s_op (o_bin rfl rfl rfl rfl) ?_
    refine s_op (o_pickT rfl rfl) ?_
    refine s_op (o_mv rfl) ?_
    first | refine s_gDT rfl ?_ ?_ | refine s_gNDT rfl ?_ ?_ | refine s_gNT rfl ?_ ?_ | refine s_gB rfl ?_ ?_
    · intro h2
      try rw [Decidable.not_not] at h2
      refine s_op (o_faC rfl) ?_
      refine s_keepO (is := [2, 3, 17, 18]) rfl ?_
      refine s_gT rfl ?_
      refine s_op (o_ldC rfl rfl rfl) ?_
      refine s_gT rfl ?_
      refine s_op (o_faC rfl) ?_
      refine s_gT rfl ?_
      refine s_op (o_ldC rfl rfl rfl) ?_
      refine s_gT rfl ?_
      first | refine s_op (o_eql rfl rfl) ?_ | refine s_op (o_bin rfl rfl rfl rfl) ?_
      refine s_op (o_pickT rfl rfl) ?_
      refine s_op (o_mv rfl) ?_
      first | refine s_gDT rfl ?_ ?_ | refine s_gNDT rfl ?_ ?_ | refine s_gNT rfl ?_ ?_ | refine s_gB rfl ?_ ?_
      · intro h3
        try rw [Decidable.not_not] at h3
        refine s_op (o_faC rfl) ?_
        refine s_gT rfl ?_
        refine s_op (o_ldC rfl rfl rfl) ?_
        refine s_gT rfl ?_
        refine s_op (o_faC rfl) ?_
        refine s_gT rfl ?_
        refine s_op (o_ldC rfl rfl rfl) ?_
        refine s_gT rfl ?_
        first | refine s_op (o_eql rfl rfl) ?_ | refine s_op (o_bin rfl rfl rfl rfl) ?_
        refine s_op (o_pickT rfl rfl) ?_
        refine s_op (o_mv rfl) ?_
        first | refine s_gDT rfl ?_ ?_ | refine s_gNDT rfl ?_ ?_ | refine s_gNT rfl ?_ ?_ | refine s_gB rfl ?_ ?_
        · intro h4
          try rw [Decidable.not_not] at h4
          refine s_op (o_faC rfl) ?_
          refine s_keepO (is := [2, 3, 31, 32]) rfl ?_
          refine s_gT rfl ?_
          refine s_op (o_ldC rfl rfl rfl) ?_
          refine s_gT rfl ?_
          refine s_op (o_faC rfl) ?_
          refine s_gT rfl ?_
          refine s_op (o_ldC rfl rfl rfl) ?_
          refine s_gT rfl ?_
          refine s_op (o_eqb rfl rfl) ?_
          refine s_op (o_pickT rfl rfl) ?_
          refine s_op (o_mv rfl) ?_
          first | refine s_gDT rfl ?_ ?_ | refine s_gNDT rfl ?_ ?_ | refine s_gNT rfl ?_ ?_ | refine s_gB rfl ?_ ?_
          · intro h5
            try rw [Decidable.not_not] at h5
            refine s_op (o_faC rfl) ?_
            refine s_gT rfl ?_
            refine s_op (o_ldC rfl rfl rfl) ?_
            refine s_gT rfl ?_
            refine s_op (o_faC rfl) ?_
            refine s_gT rfl ?_
            refine s_op (o_ldC rfl rfl rfl) ?_
            refine s_gT rfl ?_
            refine s_op (o_eqb rfl rfl) ?_
            refine s_op (o_pickT rfl rfl) ?_
            refine s_op (o_mv rfl) ?_
            refine s_nilO ?_
            refine q_seqN ?_
            refine s_keep [4] rfl ?_
            refine s_ret ?_
            refine ret_leaf (.inr rfl) rfl rfl ?_
            refine congrArg (fun b => V.w (.bool b)) ?_
            clear hs; cases x; cases y; simp_all [bbeq]
          · intro h5
            try rw [Decidable.not_not] at h5
            refine s_gF rfl ?_
            refine s_gF rfl ?_
            refine s_gF rfl ?_
            refine s_gF rfl ?_
            refine s_gF rfl ?_
            refine s_op (o_pickF rfl rfl) ?_
            refine s_op (o_mv rfl) ?_
            refine s_nilO ?_
            refine q_seqN ?_
            refine s_keep [4] rfl ?_
            refine s_ret ?_
            refine ret_leaf (.inr rfl) rfl rfl ?_
            refine congrArg (fun b => V.w (.bool b)) ?_
            clear hs; cases x; cases y; simp_all [bbeq]
        · intro h4
          try rw [Decidable.not_not] at h4
          refine s_gF rfl ?_
          refine s_keepO (is := [2, 3, 31, 32]) rfl ?_
          refine s_gF rfl ?_
          refine s_gF rfl ?_
          refine s_gF rfl ?_
          refine s_gF rfl ?_
          refine s_op (o_pickF rfl rfl) ?_
          refine s_op (o_mv rfl) ?_
          refine s_gF rfl ?_
          refine s_gF rfl ?_
          refine s_gF rfl ?_
          refine s_gF rfl ?_
          refine s_gF rfl ?_
          refine s_op (o_pickF rfl rfl) ?_
          refine s_op (o_mv rfl) ?_
          refine s_nilO ?_
          refine q_seqN ?_
          refine s_keep [4] rfl ?_
          refine s_ret ?_
          refine ret_leaf (.inr rfl) rfl rfl ?_
          refine congrArg (fun b => V.w (.bool b)) ?_
          clear hs; cases x; cases y; simp_all [bbeq]
      · intro h3
        try rw [Decidable.not_not] at h3
        refine s_gF rfl ?_
        refine s_gF rfl ?_
        refine s_gF rfl ?_
        refine s_gF rfl ?_
        refine s_gF rfl ?_
        refine s_op (o_pickF rfl rfl) ?_
        refine s_op (o_mv rfl) ?_
        refine s_gF rfl ?_
        refine s_keepO (is := [2, 3, 31, 32]) rfl ?_
        refine s_gF rfl ?_
        refine s_gF rfl ?_
        refine s_gF rfl ?_
        refine s_gF rfl ?_
        refine s_op (o_pickF rfl rfl) ?_
        refine s_op (o_mv rfl) ?_
        refine s_gF rfl ?_
        refine s_gF rfl ?_
        refine s_gF rfl ?_
        refine s_gF rfl ?_
        refine s_gF rfl ?_
        refine s_op (o_pickF rfl rfl) ?_
        refine s_op (o_mv rfl) ?_
        refine s_nilO ?_
        refine q_seqN ?_
        refine s_keep [4] rfl ?_
        refine s_ret ?_
        refine ret_leaf (.inr rfl) rfl rfl ?_
        refine congrArg (fun b => V.w (.bool b)) ?_
        clear hs; cases x; cases y; simp_all [bbeq]
    · intro h2
      try rw [Decidable.not_not] at h2
      refine s_gF rfl ?_
      refine s_keepO (is := [2, 3, 17, 18]) rfl ?_
      refine s_gF rfl ?_
      refine s_gF rfl ?_
      refine s_gF rfl ?_
      refine s_gF rfl ?_
      refine s_op (o_pickF rfl rfl) ?_
      refine s_op (o_mv rfl) ?_
      refine s_gF rfl ?_
      refine s_gF rfl ?_
      refine s_gF rfl ?_
      refine s_gF rfl ?_
      refine s_gF rfl ?_
      refine s_op (o_pickF rfl rfl) ?_
      refine s_op (o_mv rfl) ?_
      refine s_gF rfl ?_
      refine s_keepO (is := [2, 3, 31, 32]) rfl ?_
      refine s_gF rfl ?_
      refine s_gF rfl ?_
      refine s_gF rfl ?_
      refine s_gF rfl ?_
      refine s_op (o_pickF rfl rfl) ?_
      refine s_op (o_mv rfl) ?_
      refine s_gF rfl ?_
      refine s_gF rfl ?_
      refine s_gF rfl ?_
      refine s_gF rfl ?_
      refine s_gF rfl ?_
      refine s_op (o_pickF rfl rfl) ?_
      refine s_op (o_mv rfl) ?_
      refine s_nilO ?_
      refine q_seqN ?_
      refine s_keep [4] rfl ?_
      refine s_ret ?_
      refine ret_leaf (.inr rfl) rfl rfl ?_
      refine congrArg (fun b => V.w (.bool b)) ?_
      clear hs; cases x; cases y; simp_all [bbeq]
  · intro h1
    try rw [Decidable.not_not] at h1
    refine s_gF rfl ?_
    refine s_gF rfl ?_
    refine s_gF rfl ?_
    refine s_gF rfl ?_
    refine s_gF rfl ?_
    refine s_op (o_pickF rfl rfl) ?_
    refine s_op (o_mv rfl) ?_
    refine s_gF rfl ?_
    refine s_keepO (is := [2, 3, 17, 18]) rfl ?_
    refine s_gF rfl ?_
    refine s_gF rfl ?_
    refine s_gF rfl ?_
    refine s_gF rfl ?_
    refine s_op (o_pickF rfl rfl) ?_
    refine s_op (o_mv rfl) ?_
    refine s_gF rfl ?_
    refine s_gF rfl ?_
    refine s_gF rfl ?_
    refine s_gF rfl ?_
    refine s_gF rfl ?_
    refine s_op (o_pickF rfl rfl) ?_
    refine s_op (o_mv rfl) ?_
    refine s_gF rfl ?_
    refine s_keepO (is := [2, 3, 31, 32]) rfl ?_
    refine s_gF rfl ?_
    refine s_gF rfl ?_
    refine s_gF rfl ?_
    refine s_gF rfl ?_
    refine s_op (o_pickF rfl rfl) ?_
    refine s_op (o_mv rfl) ?_
    refine s_gF rfl ?_
    refine s_gF rfl ?_
    refine s_gF rfl ?_
    refine s_gF rfl ?_
    refine s_gF rfl ?_
    refine s_op (o_pickF rfl rfl) ?_
    refine s_op (o_mv rfl) ?_
    refine s_nilO ?_
    refine q_seqN ?_
    refine s_keep [4] rfl ?_
    refine s_ret ?_
    refine ret_leaf (.inr rfl) rfl rfl ?_
    refine congrArg (fun b => V.w (.bool b)) ?_
    clear hs; cases x; cases y; simp_all [bbeq]

theorem c_210 (x y : Mst) (hs : x.small) : CV prg 210 [.agg x.r, .agg y.r] (fun v => v = .w (.bool (decide (x = y)))) := by
  have hl := hs.1
  refine cv_in g210 ?_
  refine s_keep [0, 1] rfl ?_
  refine S_seq ?_
  refine s_rg ?_
  refine s_op (o_box rfl rfl rfl) ?_
  refine s_op (o_box rfl rfl rfl) ?_
  refine s_op (o_mv rfl) ?_
  refine s_nilO ?_
  refine q_seqN ?_
  refine s_keep [2, 3] rfl ?_
  refine S_seq ?_
  refine S_seq ?_
  refine s_rg ?_
  refine s_op (o_faC rfl) ?_
  refine s_op (o_ldC rfl rfl rfl) ?_
  first | refine s_op (o_lenM rfl) ?_ | refine s_op (o_len rfl) ?_ | refine s_op (o_lenL rfl rfl rfl) ?_ | refine s_op (o_lenN rfl) ?_
  refine s_op (o_faC rfl) ?_
  refine s_op (o_ldC rfl rfl rfl) ?_
  first | refine s_op (o_lenM rfl) ?_ | refine s_op (o_len rfl) ?_ | refine s_op (o_lenL rfl rfl rfl) ?_ | refine s_op (o_lenN rfl) ?_
  first | refine s_op (o_neq rfl rfl) ?_ | refine s_op (o_bin rfl rfl rfl rfl) ?_
  refine s_nilO ?_
  refine q_seqN ?_
  refine s_keep [2, 3, 12] rfl ?_
  first | refine s_condD rfl ?_ ?_ | refine s_condN rfl ?_ ?_ | refine s_condNB rfl ?_ ?_ | refine s_condB rfl ?_ ?_
  · intro h1
    try rw [Decidable.not_not] at h1
    refine S_seq ?_
    refine s_rg ?_
    refine s_op (o_mv rfl) ?_
    refine s_nilO ?_
    refine q_seqN ?_
    refine s_keep [4] rfl ?_
    refine s_ret ?_
    refine q_seqR ?_
    refine ret_leaf (.inr rfl) rfl rfl ?_
    refine congrArg (fun b => V.w (.bool b)) ?_
    first | exact (decide_eq_false (fun e => ne_at (by assumption) (by assumption) (by assumption) (congrArg Mst.queue e))).symm | (have he := eq_end hi.2.1 (by omega) hi.2.2; clear hi hs hl; cases x; cases y; simp_all [bbeq]; done) | exact (decide_eq_false (fun e => by subst e; simp_all)).symm
  · intro h1
    try rw [Decidable.not_not] at h1
    refine s_skip ?_
    refine q_seqN ?_
    refine s_keep [2, 3] rfl ?_
    refine S_seq ?_
    refine S_seq ?_
    refine s_rg ?_
    refine s_op (o_mv rfl) ?_
    refine s_nilO ?_
    refine q_seqN ?_
    refine s_keep [2, 3, 5] rfl ?_
    refine S_block ?_
    refine S_loop0 (ι := Nat) (fun i => i ≤ x.queue.length ∧ x.queue.take i = y.queue.take i ∧ x.queue.length = y.queue.length) (fun i => [(5, .w (.int .i64 (i : Int)))]) (fun i => x.queue.length - i) 0 ⟨by simp, by simp, by omega⟩ rfl ⟨rfl, trivial⟩ (fun _ _ => rfl) rfl ?_
    intro i hi
    refine s_keep [2, 3, 5] rfl ?_
    refine S_seq ?_
    refine S_seq ?_
    refine s_rg ?_
    refine s_op (o_mv rfl) ?_
    refine s_op (o_faC rfl) ?_
    refine s_op (o_ldC rfl rfl rfl) ?_
    first | refine s_op (o_lenM rfl) ?_ | refine s_op (o_len rfl) ?_ | refine s_op (o_lenL rfl rfl rfl) ?_ | refine s_op (o_lenN rfl) ?_
    first | refine s_op (o_lss rfl rfl) ?_ | refine s_op (o_bin rfl rfl rfl rfl) ?_
    refine s_nilO ?_
    refine q_seqN ?_
    refine s_keep [2, 3, 5, 17] rfl ?_
    first | refine s_condD rfl ?_ ?_ | refine s_condN rfl ?_ ?_ | refine s_condNB rfl ?_ ?_ | refine s_condB rfl ?_ ?_
    · intro h2
      try rw [Decidable.not_not] at h2
      refine s_skip ?_
      refine q_seqN ?_
      refine s_keep [2, 3, 5] rfl ?_
      refine S_seq ?_
      refine S_block ?_
      refine S_seq ?_
      refine s_rg ?_
      refine s_op (o_faC rfl) ?_
      refine s_op (o_ldC rfl rfl rfl) ?_
      refine s_op (o_mv rfl) ?_
      refine s_iaM rfl rfl (by omega) ?_
      intro y3 e3
      try simp only [Int.toNat_natCast] at e3
      refine s_op (o_ldn rfl rfl) ?_
      refine s_op (o_faC rfl) ?_
      refine s_op (o_ldC rfl rfl rfl) ?_
      refine s_op (o_mv rfl) ?_
      refine s_iaM rfl rfl (by omega) ?_
      intro y4 e4
      try simp only [Int.toNat_natCast] at e4
      refine s_op (o_ldn rfl rfl) ?_
      first | refine s_call rfl rfl (c_211 _ _ (hs.2 _ (List.mem_of_getElem? (by assumption)))) ?_ | refine s_callL rfl rfl (by simp) (c_211 _ _ (hs.2 _ (List.mem_of_getElem? (by assumption)))) rfl ?_
      refine s_op (o_not rfl) ?_
      refine s_nilO ?_
      refine q_seqN ?_
      refine s_keep [2, 3, 5, 31] rfl ?_
      first | refine s_condD rfl ?_ ?_ | refine s_condN rfl ?_ ?_ | refine s_condNB rfl ?_ ?_ | refine s_condB rfl ?_ ?_
      · intro h5
        try rw [Decidable.not_not] at h5
        refine S_seq ?_
        refine s_rg ?_
        refine s_op (o_mv rfl) ?_
        refine s_nilO ?_
        refine q_seqN ?_
        refine s_keep [4] rfl ?_
        refine s_ret ?_
        refine q_blkR ?_
        refine q_seqR ?_
        refine q_loopR ?_
        refine q_blkR ?_
        refine q_seqR ?_
        refine ret_leaf (.inr rfl) rfl rfl ?_
        refine congrArg (fun b => V.w (.bool b)) ?_
        first | exact (decide_eq_false (fun e => ne_at (by assumption) (by assumption) (by assumption) (congrArg Mst.queue e))).symm | (have he := eq_end hi.2.1 (by omega) hi.2.2; clear hi hs hl; cases x; cases y; simp_all [bbeq]; done) | exact (decide_eq_false (fun e => by subst e; simp_all)).symm
      · intro h5
        try rw [Decidable.not_not] at h5
        refine s_skip ?_
        refine q_blkN ?_
        refine q_seqN ?_
        refine s_keep [2, 3, 5] rfl ?_
        refine s_rg ?_
        refine s_op (o_mv rfl) ?_
        first | refine s_op (o_addn rfl rfl (by omega)) ?_ | refine s_op (o_add rfl rfl) ?_
        refine s_op (o_mv rfl) ?_
        refine s_nilO ?_
        refine q_loopN ?_
        exact ⟨i + 1, ⟨by omega, eq_take (by assumption) (by assumption) hi.2.1 (by assumption), hi.2.2⟩, by omega, hasOf ⟨rfl, trivial⟩ rfl⟩
    · intro h2
      try rw [Decidable.not_not] at h2
      refine s_exit ?_
      refine q_seqX ?_
      refine q_loopX ?_
      refine q_blkH ?_
      refine q_seqN ?_
      refine s_keep [2, 3] rfl ?_
      refine S_seq ?_
      refine s_rg ?_
      refine s_op (o_faC rfl) ?_
      refine s_op (o_ldC rfl rfl rfl) ?_
      refine s_op (o_faC rfl) ?_
      refine s_op (o_ldC rfl rfl rfl) ?_
      first | refine s_op (o_eql rfl rfl) ?_ | refine s_op (o_bin rfl rfl rfl rfl) ?_
      refine s_op (o_mv rfl) ?_
      first | refine s_gDT rfl ?_ ?_ | refine s_gNDT rfl ?_ ?_ | refine s_gNT rfl ?_ ?_ | refine s_gB rfl ?_ ?_
      · intro h6
        try rw [Decidable.not_not] at h6
        refine s_op (o_faC rfl) ?_
        refine s_gT rfl ?_
        refine s_op (o_ldC rfl rfl rfl) ?_
        refine s_gT rfl ?_
        refine s_op (o_faC rfl) ?_
        refine s_gT rfl ?_
        refine s_op (o_ldC rfl rfl rfl) ?_
        refine s_gT rfl ?_
        first | refine s_op (o_eql rfl rfl) ?_ | refine s_op (o_bin rfl rfl rfl rfl) ?_
        refine s_op (o_pickT rfl rfl) ?_
        refine s_op (o_mv rfl) ?_
        first | refine s_gDT rfl ?_ ?_ | refine s_gNDT rfl ?_ ?_ | refine s_gNT rfl ?_ ?_ | refine s_gB rfl ?_ ?_
        · intro h7
          try rw [Decidable.not_not] at h7
          refine s_op (o_faC rfl) ?_
          refine s_keepO (is := [2, 3, 44, 45]) rfl ?_
          refine s_gT rfl ?_
          refine s_op (o_ldC rfl rfl rfl) ?_
          refine s_gT rfl ?_
          refine s_op (o_faC rfl) ?_
          refine s_gT rfl ?_
          refine s_op (o_ldC rfl rfl rfl) ?_
          refine s_gT rfl ?_
          first | refine s_op (o_eql rfl rfl) ?_ | refine s_op (o_bin rfl rfl rfl rfl) ?_
          refine s_op (o_pickT rfl rfl) ?_
          refine s_op (o_mv rfl) ?_
          first | refine s_gDT rfl ?_ ?_ | refine s_gNDT rfl ?_ ?_ | refine s_gNT rfl ?_ ?_ | refine s_gB rfl ?_ ?_
          · intro h8
            try rw [Decidable.not_not] at h8
            refine s_op (o_faC rfl) ?_
            refine s_gT rfl ?_
            refine s_op (o_ldC rfl rfl rfl) ?_
            refine s_gT rfl ?_
            refine s_op (o_faC rfl) ?_
            refine s_gT rfl ?_
            refine s_op (o_ldC rfl rfl rfl) ?_
            refine s_gT rfl ?_
            refine s_op (o_eqb rfl rfl) ?_
            refine s_op (o_pickT rfl rfl) ?_
            refine s_op (o_mv rfl) ?_
            first | refine s_gDT rfl ?_ ?_ | refine s_gNDT rfl ?_ ?_ | refine s_gNT rfl ?_ ?_ | refine s_gB rfl ?_ ?_
            · intro h9
              try rw [Decidable.not_not] at h9
              refine s_op (o_faC rfl) ?_
              refine s_keepO (is := [3, 58, 59]) rfl ?_
              refine s_gT rfl ?_
              refine s_op (o_ldC rfl rfl rfl) ?_
              refine s_gT rfl ?_
              refine s_op (o_faC rfl) ?_
              refine s_gT rfl ?_
              refine s_op (o_ldC rfl rfl rfl) ?_
              refine s_gT rfl ?_
              refine s_op (o_eqb rfl rfl) ?_
              refine s_op (o_pickT rfl rfl) ?_
              refine s_op (o_mv rfl) ?_
              refine s_nilO ?_
              refine q_seqN ?_
              refine s_keep [4] rfl ?_
              refine s_ret ?_
              refine ret_leaf (.inr rfl) rfl rfl ?_
              refine congrArg (fun b => V.w (.bool b)) ?_
              first | exact (decide_eq_false (fun e => ne_at (by assumption) (by assumption) (by assumption) (congrArg Mst.queue e))).symm | (have he := eq_end hi.2.1 (by omega) hi.2.2; clear hi hs hl; cases x; cases y; simp_all [bbeq]; done) | exact (decide_eq_false (fun e => by subst e; simp_all)).symm
            · intro h9
              try rw [Decidable.not_not] at h9
              refine s_gF rfl ?_
              refine s_keepO (is := [3, 58, 59]) rfl ?_
              refine s_gF rfl ?_
              refine s_gF rfl ?_
              refine s_gF rfl ?_
              refine s_gF rfl ?_
              refine s_op (o_pickF rfl rfl) ?_
              refine s_op (o_mv rfl) ?_
              refine s_nilO ?_
              refine q_seqN ?_
              refine s_keep [4] rfl ?_
              refine s_ret ?_
              refine ret_leaf (.inr rfl) rfl rfl ?_
              refine congrArg (fun b => V.w (.bool b)) ?_
              first | exact (decide_eq_false (fun e => ne_at (by assumption) (by assumption) (by assumption) (congrArg Mst.queue e))).symm | (have he := eq_end hi.2.1 (by omega) hi.2.2; clear hi hs hl; cases x; cases y; simp_all [bbeq]; done) | exact (decide_eq_false (fun e => by subst e; simp_all)).symm
          · intro h8
            try rw [Decidable.not_not] at h8
            refine s_gF rfl ?_
            refine s_gF rfl ?_
            refine s_gF rfl ?_
            refine s_gF rfl ?_
            refine s_gF rfl ?_
            refine s_op (o_pickF rfl rfl) ?_
            refine s_op (o_mv rfl) ?_
            refine s_gF rfl ?_
            refine s_keepO (is := [3, 58, 59]) rfl ?_
            refine s_gF rfl ?_
            refine s_gF rfl ?_
            refine s_gF rfl ?_
            refine s_gF rfl ?_
            refine s_op (o_pickF rfl rfl) ?_
            refine s_op (o_mv rfl) ?_
            refine s_nilO ?_
            refine q_seqN ?_
            refine s_keep [4] rfl ?_
            refine s_ret ?_
            refine ret_leaf (.inr rfl) rfl rfl ?_
            refine congrArg (fun b => V.w (.bool b)) ?_
            first | exact (decide_eq_false (fun e => ne_at (by assumption) (by assumption) (by assumption) (congrArg Mst.queue e))).symm | (have he := eq_end hi.2.1 (by omega) hi.2.2; clear hi hs hl; cases x; cases y; simp_all [bbeq]; done) | exact (decide_eq_false (fun e => by subst e; simp_all)).symm
        · intro h7
          try rw [Decidable.not_not] at h7
          refine s_gF rfl ?_
          refine s_keepO (is := [2, 3, 44, 45]) rfl ?_
          refine s_gF rfl ?_
          refine s_gF rfl ?_
          refine s_gF rfl ?_
          refine s_gF rfl ?_
          refine s_op (o_pickF rfl rfl) ?_
          refine s_op (o_mv rfl) ?_
          refine s_gF rfl ?_
          refine s_gF rfl ?_
          refine s_gF rfl ?_
          refine s_gF rfl ?_
          refine s_gF rfl ?_
          refine s_op (o_pickF rfl rfl) ?_
          refine s_op (o_mv rfl) ?_
          refine s_gF rfl ?_
          refine s_keepO (is := [3, 58, 59]) rfl ?_
          refine s_gF rfl ?_
          refine s_gF rfl ?_
          refine s_gF rfl ?_
          refine s_gF rfl ?_
          refine s_op (o_pickF rfl rfl) ?_
          refine s_op (o_mv rfl) ?_
          refine s_nilO ?_
          refine q_seqN ?_
          refine s_keep [4] rfl ?_
          refine s_ret ?_
          refine ret_leaf (.inr rfl) rfl rfl ?_
          refine congrArg (fun b => V.w (.bool b)) ?_
          first | exact (decide_eq_false (fun e => ne_at (by assumption) (by assumption) (by assumption) (congrArg Mst.queue e))).symm | (have he := eq_end hi.2.1 (by omega) hi.2.2; clear hi hs hl; cases x; cases y; simp_all [bbeq]; done) | exact (decide_eq_false (fun e => by subst e; simp_all)).symm
      · intro h6
        try rw [Decidable.not_not] at h6
        refine s_gF rfl ?_
        refine s_gF rfl ?_
        refine s_gF rfl ?_
        refine s_gF rfl ?_
        refine s_gF rfl ?_
        refine s_op (o_pickF rfl rfl) ?_
        refine s_op (o_mv rfl) ?_
        refine s_gF rfl ?_
        refine s_keepO (is := [2, 3, 44, 45]) rfl ?_
        refine s_gF rfl ?_
        refine s_gF rfl ?_
        refine s_gF rfl ?_
        refine s_gF rfl ?_
        refine s_op (o_pickF rfl rfl) ?_
        refine s_op (o_mv rfl) ?_
        refine s_gF rfl ?_
        refine s_gF rfl ?_
        refine s_gF rfl ?_
        refine s_gF rfl ?_
        refine s_gF rfl ?_
        refine s_op (o_pickF rfl rfl) ?_
        refine s_op (o_mv rfl) ?_
        refine s_gF rfl ?_
        refine s_keepO (is := [3, 58, 59]) rfl ?_
        refine s_gF rfl ?_
        refine s_gF rfl ?_
        refine s_gF rfl ?_
        refine s_gF rfl ?_
        refine s_op (o_pickF rfl rfl) ?_
        refine s_op (o_mv rfl) ?_
        refine s_nilO ?_
        refine q_seqN ?_
        refine s_keep [4] rfl ?_
        refine s_ret ?_
        refine ret_leaf (.inr rfl) rfl rfl ?_
        refine congrArg (fun b => V.w (.bool b)) ?_
        first | exact (decide_eq_false (fun e => ne_at (by assumption) (by assumption) (by assumption) (congrArg Mst.queue e))).symm | (have he := eq_end hi.2.1 (by omega) hi.2.2; clear hi hs hl; cases x; cases y; simp_all [bbeq]; done) | exact (decide_eq_false (fun e => by subst e; simp_all)).symm

theorem c_116 (x : Mst) (hwx : x.wf) (y : Mst) (hwy : y.wf) : CV prg 116 [.agg x.r, .agg y.r] (fun v => v = .w (.bool true)) := by
  refine cv_in g116 ?_
  refine s_keep [0, 1] rfl ?_
  refine S_seq ?_
  refine s_rg ?_
  refine s_op (o_box rfl rfl rfl) ?_
  refine s_op (o_box rfl rfl rfl) ?_
  refine s_op (o_mv rfl) ?_
  refine s_nilO ?_
  refine q_seqN ?_
  refine s_keep [2, 3] rfl ?_
  refine S_seq ?_
  refine s_rg ?_
  refine s_op (o_mv rfl) ?_
  refine s_nilO ?_
  refine q_seqN ?_
  refine s_keep [2, 3, 5] rfl ?_
  refine S_seq ?_
  refine s_rg ?_
  refine s_op (o_ldnC rfl rfl rfl) ?_
  refine s_op (o_mv rfl) ?_
  first | refine s_call rfl rfl (c_151 _ _ (by (try unfold room at *); omega) (by assumption)) ?_ | refine s_callL rfl rfl (by simp) (c_151 _ _ (by (try unfold room at *); omega) (by assumption)) rfl ?_
  refine s_op (o_mv rfl) ?_
  refine s_nilO ?_
  refine q_seqN ?_
  refine s_keep [2, 3, 5] rfl ?_
  refine S_seq ?_
  refine S_seq ?_
  refine s_rg ?_
  refine s_op (o_mv rfl) ?_
  first | refine s_op (o_lss rfl rfl) ?_ | refine s_op (o_bin rfl rfl rfl rfl) ?_
  refine s_nilO ?_
  refine q_seqN ?_
  refine s_keep [2, 3, 5, 14] rfl ?_
  first | refine s_condD rfl ?_ ?_ | refine s_condN rfl ?_ ?_ | refine s_condNB rfl ?_ ?_ | refine s_condB rfl ?_ ?_
  · intro h1
    try rw [Decidable.not_not] at h1
    try have hsx : x.small := Mst.small_of (by (try unfold room at *); omega)
    try rw [decide_eq_true (rfl : x = x)] at h1
    try have hsy : y.small := Mst.small_of (by (try unfold room at *); omega)
    try rw [decide_eq_true (rfl : y = y)] at h1
    refine S_seq ?_
    refine s_rg ?_
    refine s_op (o_mv rfl) ?_
    refine s_nilO ?_
    refine q_seqN ?_
    refine s_keep [4] rfl ?_
    refine s_ret ?_
    refine q_seqR ?_
    refine ret_leaf (.inr rfl) rfl rfl ?_
    refine congrArg (fun b => V.w (.bool b)) ?_
    simp_all
  · intro h1
    try rw [Decidable.not_not] at h1
    try have hsx : x.small := Mst.small_of (by (try unfold room at *); omega)
    try rw [decide_eq_true (rfl : x = x)] at h1
    try have hsy : y.small := Mst.small_of (by (try unfold room at *); omega)
    try rw [decide_eq_true (rfl : y = y)] at h1
    refine s_skip ?_
    refine q_seqN ?_
    refine s_keep [2, 3, 5] rfl ?_
    refine S_seq ?_
    refine s_rg ?_
    refine s_op (o_ldnC rfl rfl rfl) ?_
    refine s_op (o_mv rfl) ?_
    first | refine s_call rfl rfl (c_151 _ _ (by (try unfold room at *); omega) (by assumption)) ?_ | refine s_callL rfl rfl (by simp) (c_151 _ _ (by (try unfold room at *); omega) (by assumption)) rfl ?_
    refine s_op (o_mv rfl) ?_
    refine s_nilO ?_
    refine q_seqN ?_
    refine s_keep [2, 3, 5] rfl ?_
    refine S_seq ?_
    refine S_seq ?_
    refine s_rg ?_
    refine s_op (o_mv rfl) ?_
    first | refine s_op (o_lss rfl rfl) ?_ | refine s_op (o_bin rfl rfl rfl rfl) ?_
    refine s_nilO ?_
    refine q_seqN ?_
    refine s_keep [2, 3, 19] rfl ?_
    first | refine s_condD rfl ?_ ?_ | refine s_condN rfl ?_ ?_ | refine s_condNB rfl ?_ ?_ | refine s_condB rfl ?_ ?_
    · intro h2
      try rw [Decidable.not_not] at h2
      try have hsx : x.small := Mst.small_of (by (try unfold room at *); omega)
      try rw [decide_eq_true (rfl : x = x)] at h2
      try have hsy : y.small := Mst.small_of (by (try unfold room at *); omega)
      try rw [decide_eq_true (rfl : y = y)] at h2
      refine S_seq ?_
      refine s_rg ?_
      refine s_op (o_mv rfl) ?_
      refine s_nilO ?_
      refine q_seqN ?_
      refine s_keep [4] rfl ?_
      refine s_ret ?_
      refine q_seqR ?_
      refine ret_leaf (.inr rfl) rfl rfl ?_
      refine congrArg (fun b => V.w (.bool b)) ?_
      simp_all
    · intro h2
      try rw [Decidable.not_not] at h2
      try have hsx : x.small := Mst.small_of (by (try unfold room at *); omega)
      try rw [decide_eq_true (rfl : x = x)] at h2
      try have hsy : y.small := Mst.small_of (by (try unfold room at *); omega)
      try rw [decide_eq_true (rfl : y = y)] at h2
      refine s_skip ?_
      refine q_seqN ?_
      refine s_keep [2, 3] rfl ?_
      refine S_seq ?_
      refine s_rg ?_
      refine s_op (o_ldnC rfl rfl rfl) ?_
      first | refine s_call rfl rfl (c_167 _ (by assumption)) ?_ | refine s_callL rfl rfl (by simp) (c_167 _ (by assumption)) rfl ?_
      refine s_op (o_ldnC rfl rfl rfl) ?_
      first | refine s_call rfl rfl (c_167 _ (by assumption)) ?_ | refine s_callL rfl rfl (by simp) (c_167 _ (by assumption)) rfl ?_
      first | refine s_call rfl rfl (c_210 _ _ (by assumption)) ?_ | refine s_callL rfl rfl (by simp) (c_210 _ _ (by assumption)) rfl ?_
      refine s_op (o_mv rfl) ?_
      refine s_nilO ?_
      refine q_seqN ?_
      refine s_keep [2, 3, 6] rfl ?_
      refine S_seq ?_
      refine s_rg ?_
      refine s_op (o_ldnC rfl rfl rfl) ?_
      first | refine s_call rfl rfl (c_167 _ (by assumption)) ?_ | refine s_callL rfl rfl (by simp) (c_167 _ (by assumption)) rfl ?_
      refine s_op (o_new rfl rfl) ?_
      refine s_opN (o_stnC rfl rfl rfl rfl rfl rfl rfl) ?_
      refine s_nilO ?_
      refine q_seqN ?_
      refine s_keep [2, 3, 6, 7] rfl ?_
      refine S_seq ?_
      refine s_rg ?_
      refine s_op (o_ldnC rfl rfl rfl) ?_
      first | refine s_call rfl rfl (c_167 _ (by assumption)) ?_ | refine s_callL rfl rfl (by simp) (c_167 _ (by assumption)) rfl ?_
      refine s_op (o_new rfl rfl) ?_
      refine s_opN (o_stnC rfl rfl rfl rfl rfl rfl rfl) ?_
      refine s_nilO ?_
      refine q_seqN ?_
      refine s_keep [2, 3, 6, 7, 8] rfl ?_
      refine S_seq ?_
      refine s_rg ?_
      refine s_op (o_ldnC rfl rfl rfl) ?_
      refine s_op (o_ldnC rfl rfl rfl) ?_
      first | refine s_call rfl rfl (c_70 _ _ (by assumption)) ?_ | refine s_callL rfl rfl (by simp) (c_70 _ _ (by assumption)) rfl ?_
      refine s_op (o_mv rfl) ?_
      refine s_nilO ?_
      refine q_seqN ?_
      refine s_keep [2, 3, 6, 7, 8, 9] rfl ?_
      refine S_seq ?_
      refine S_seq ?_
      refine s_rg ?_
      refine s_op (o_mv rfl) ?_
      refine s_op (o_mv rfl) ?_
      refine s_op (o_eqb rfl rfl) ?_
      refine s_nilO ?_
      refine q_seqN ?_
      refine s_keep [2, 3, 7, 8, 34] rfl ?_
      first | refine s_condD rfl ?_ ?_ | refine s_condN rfl ?_ ?_ | refine s_condNB rfl ?_ ?_ | refine s_condB rfl ?_ ?_
      · intro h3
        try rw [Decidable.not_not] at h3
        try have hsx : x.small := Mst.small_of (by (try unfold room at *); omega)
        try rw [decide_eq_true (rfl : x = x)] at h3
        try have hsy : y.small := Mst.small_of (by (try unfold room at *); omega)
        try rw [decide_eq_true (rfl : y = y)] at h3
        refine S_seq ?_
        refine s_rg ?_
        refine s_op (o_mv rfl) ?_
        refine s_nilO ?_
        refine q_seqN ?_
        refine s_keep [4] rfl ?_
        refine s_ret ?_
        refine q_seqR ?_
        refine ret_leaf (.inr rfl) rfl rfl ?_
        refine congrArg (fun b => V.w (.bool b)) ?_
        simp_all
      · intro h3
        try rw [Decidable.not_not] at h3
        try have hsx : x.small := Mst.small_of (by (try unfold room at *); omega)
        try rw [decide_eq_true (rfl : x = x)] at h3
        try have hsy : y.small := Mst.small_of (by (try unfold room at *); omega)
        try rw [decide_eq_true (rfl : y = y)] at h3
        refine s_skip ?_
        refine q_seqN ?_
        refine s_keep [2, 3, 7, 8] rfl ?_
        refine S_seq ?_
        refine S_seq ?_
        refine s_rg ?_
        refine s_op (o_ldnC rfl rfl rfl) ?_
        refine s_op (o_ldnC rfl rfl rfl) ?_
        first | refine s_call rfl rfl (c_167 _ (by assumption)) ?_ | refine s_callL rfl rfl (by simp) (c_167 _ (by assumption)) rfl ?_
        first | refine s_call rfl rfl (c_136 _ _ (by assumption)) ?_ | refine s_callL rfl rfl (by simp) (c_136 _ _ (by assumption)) rfl ?_
        refine s_op (o_not rfl) ?_
        refine s_nilO ?_
        refine q_seqN ?_
        refine s_keep [3, 8, 39] rfl ?_
        first | refine s_condD rfl ?_ ?_ | refine s_condN rfl ?_ ?_ | refine s_condNB rfl ?_ ?_ | refine s_condB rfl ?_ ?_
        · intro h4
          try rw [Decidable.not_not] at h4
          try have hsx : x.small := Mst.small_of (by (try unfold room at *); omega)
          try rw [decide_eq_true (rfl : x = x)] at h4
          try have hsy : y.small := Mst.small_of (by (try unfold room at *); omega)
          try rw [decide_eq_true (rfl : y = y)] at h4
          refine S_seq ?_
          refine s_rg ?_
          refine s_op (o_mv rfl) ?_
          refine s_nilO ?_
          refine q_seqN ?_
          refine s_keep [4] rfl ?_
          refine s_ret ?_
          refine q_seqR ?_
          refine ret_leaf (.inr rfl) rfl rfl ?_
          refine congrArg (fun b => V.w (.bool b)) ?_
          simp_all
        · intro h4
          try rw [Decidable.not_not] at h4
          try have hsx : x.small := Mst.small_of (by (try unfold room at *); omega)
          try rw [decide_eq_true (rfl : x = x)] at h4
          try have hsy : y.small := Mst.small_of (by (try unfold room at *); omega)
          try rw [decide_eq_true (rfl : y = y)] at h4
          refine s_skip ?_
          refine q_seqN ?_
          refine s_keep [3, 8] rfl ?_
          refine S_seq ?_
          refine S_seq ?_
          refine s_rg ?_
          refine s_op (o_ldnC rfl rfl rfl) ?_
          refine s_op (o_ldnC rfl rfl rfl) ?_
          first | refine s_call rfl rfl (c_167 _ (by assumption)) ?_ | refine s_callL rfl rfl (by simp) (c_167 _ (by assumption)) rfl ?_
          first | refine s_call rfl rfl (c_136 _ _ (by assumption)) ?_ | refine s_callL rfl rfl (by simp) (c_136 _ _ (by assumption)) rfl ?_
          refine s_op (o_not rfl) ?_
          refine s_nilO ?_
          refine q_seqN ?_
          refine s_keep [44] rfl ?_
          first | refine s_condD rfl ?_ ?_ | refine s_condN rfl ?_ ?_ | refine s_condNB rfl ?_ ?_ | refine s_condB rfl ?_ ?_
          · intro h5
            try rw [Decidable.not_not] at h5
            try have hsx : x.small := Mst.small_of (by (try unfold room at *); omega)
            try rw [decide_eq_true (rfl : x = x)] at h5
            try have hsy : y.small := Mst.small_of (by (try unfold room at *); omega)
            try rw [decide_eq_true (rfl : y = y)] at h5
            refine S_seq ?_
            refine s_rg ?_
            refine s_op (o_mv rfl) ?_
            refine s_nilO ?_
            refine q_seqN ?_
            refine s_keep [4] rfl ?_
            refine s_ret ?_
            refine q_seqR ?_
            refine ret_leaf (.inr rfl) rfl rfl ?_
            refine congrArg (fun b => V.w (.bool b)) ?_
            simp_all
          · intro h5
            try rw [Decidable.not_not] at h5
            try have hsx : x.small := Mst.small_of (by (try unfold room at *); omega)
            try rw [decide_eq_true (rfl : x = x)] at h5
            try have hsy : y.small := Mst.small_of (by (try unfold room at *); omega)
            try rw [decide_eq_true (rfl : y = y)] at h5
            refine s_skip ?_
            refine q_seqN ?_
            refine s_keep [] rfl ?_
            refine S_seq ?_
            refine s_rg ?_
            refine s_op (o_mv rfl) ?_
            refine s_nilO ?_
            refine q_seqN ?_
            refine s_keep [4] rfl ?_
            refine s_ret ?_
            refine ret_leaf (.inr rfl) rfl rfl ?_
            refine congrArg (fun b => V.w (.bool b)) ?_
            simp_all

end Go.Proofs.Ytojdedadgddhgaa.AL
