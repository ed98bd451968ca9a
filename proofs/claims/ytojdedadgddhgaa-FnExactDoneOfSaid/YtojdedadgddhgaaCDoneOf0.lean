/- What functions do with plain data, each by the form of its code. Printed by program. -/
import Derived.Test.YtojdedadgddhgaaSpec0
import Derived.Test.YtojdedadgddhgaaIrDoneOf
import Derived.Test.YtojdedadgddhgaaV8
namespace Go.Proofs.Ytojdedadgddhgaa.AL
open Go
set_option linter.unusedVariables false
set_option linter.unusedSimpArgs false
set_option maxRecDepth 4096

theorem cost_leaf {x : Conf} (h1 : inB x.maxRetry 0 3 = true) (h2 : inB x.maxWait 0 3 = true) : IntKind.wrap .i64 (IntKind.wrap .i64 (x.maxRetry + 2) * IntKind.wrap .i64 (x.maxWait + 6)) = x.cost := by
  unfold Conf.cost
  rw [h1, h2]
  simp only [inB, Bool.and_eq_true, decide_eq_true_eq] at h1 h2
  have hr : x.maxRetry = 0 ∨ x.maxRetry = 1 ∨ x.maxRetry = 2 ∨ x.maxRetry = 3 := by omega
  rw [wrap_in (x.maxRetry + 2) (by omega), wrap_in (x.maxWait + 6) (by omega), wrap_in]
  · rfl
  · rcases hr with h | h | h | h <;> rw [h] <;> omega


theorem prios_step {xs : List MConf} {i : Nat} {y : MConf} (h : xs[i]? = some y) : priosOf (xs.take (i + 1)) = priosOf (xs.take i) + if y.prio then 1 else 0 := by
  rw [take_get h, priosOf, List.countP_append]; simp [priosOf, List.countP_cons]
theorem prios_i (xs : List MConf) (i : Nat) : priosOf (xs.take i) ≤ i := by
  have := priosOf_le (xs.take i); rw [List.length_take] at this; omega
theorem prios_end {xs : List MConf} {i : Nat} (h : ¬ (i : Int) < xs.length) : priosOf (xs.take i) = priosOf xs := by rw [take_end (by omega)]


theorem least_a {x : Conf} (hl : x.masters.length ≤ 1048576) : IntKind.wrap .i64 (IntKind.wrap .i64 (2 * x.slot) * (priosOf x.masters : Int)) = x.least := by
  have h1 := x.slot_bd
  have h2 := priosOf_le x.masters
  rw [wrap_in (2 * x.slot) (by omega)]
  have h3 : 0 ≤ 2 * x.slot * (priosOf x.masters : Int) := Int.mul_nonneg (by omega) (by omega)
  have h4 : 2 * x.slot * (priosOf x.masters : Int) ≤ 260 * 1048576 := Int.mul_le_mul (by omega) (by omega) (by omega) (by omega)
  rw [wrap_in _ (by omega)]; rfl
theorem least_b {x : Conf} (hl : x.masters.length ≤ 1048576) : IntKind.wrap .i64 (IntKind.wrap .i64 (2 * (priosOf x.masters : Int)) * x.slot) = x.least := by
  rw [← least_a hl]
  have h1 := x.slot_bd
  have h2 := priosOf_le x.masters
  rw [wrap_in (2 * x.slot) (by omega), wrap_in (2 * (priosOf x.masters : Int)) (by omega), Int.mul_right_comm]


theorem MConf.ok_a {l : Int} {m : MConf} (h : inB m.weight 1 4 = false) : MConf.ok l m = false := by simp [MConf.ok, h]
theorem mok_p {l : Int} {m : MConf} (h : inB m.weight 1 4 = true) (hp : m.prio = true) : MConf.ok l m = (inB m.every l 1000 && inB m.cap 1 8) := by simp [MConf.ok, h, hp]
theorem mok_n {l : Int} {m : MConf} (h : inB m.weight 1 4 = true) (hp : m.prio = false) : MConf.ok l m = (decide (m.every = 0) && decide (m.cap = 0)) := by simp [MConf.ok, h, hp]


theorem ok_not (l : Int) (xs : List MConf) : (!xs.any (fun m => !MConf.ok l m)) = xs.all (MConf.ok l) := by
  induction xs with
  | nil => rfl
  | cons m xs ih => simp only [List.any_cons, List.all_cons, Bool.not_or, Bool.not_not, ih]


def Conf.small (x : Conf) : Prop := x.masters.length ≤ 1048576

def Conf.sz (x : Conf) : Nat := x.masters.length

theorem Conf.small_of {x : Conf} (h : x.sz ≤ 1048576) : x.small := by unfold Conf.small; unfold Conf.sz at h; omega

theorem c_130 (x y : Done) : CV prg 130 [.agg x.r, .agg y.r] (fun res => res = .w (.bool (decide (x = y)))) := by
  refine cv_in g130 ?_
  refine s_keep [0, 1] rfl ?_
  refine S_seq ?_
  refine s_rg ?_
  refine s_op (o_box rfl rfl rfl) ?_
  refine s_op (o_box rfl rfl rfl) ?_
  refine s_op (o_mv rfl) ?_
  refine s_nilO ?_
  refine q_seqN ?_
  refine s_keep [2, 3] rfl ?_
  refine S_seq ?_
  refine S_seq ?_
  refine s_rg ?_
  refine s_op (o_faC rfl) ?_
  refine s_op (o_ldC rfl rfl rfl) ?_
  refine s_op (o_faC rfl) ?_
  refine s_op (o_ldC rfl rfl rfl) ?_
  first | refine s_op (o_neq rfl rfl) ?_ | refine s_op (o_bin rfl rfl rfl rfl) ?_
  refine s_nilO ?_
  refine q_seqN ?_
  refine s_keep [2, 3, 9] rfl ?_
  first | refine s_condD rfl ?_ ?_ | refine s_condN rfl ?_ ?_ | refine s_condNB rfl ?_ ?_ | refine s_condB rfl ?_ ?_
  · intro h1
    try rw [Decidable.not_not] at h1
    refine S_seq ?_
    refine s_rg ?_
    refine s_op (o_mv rfl) ?_
    refine s_nilO ?_
    refine q_seqN ?_
    refine s_keep [4] rfl ?_
    refine s_ret ?_
    refine q_seqR ?_
    refine ret_leaf (.inr rfl) rfl rfl ?_
    refine congrArg (fun b => V.w (.bool b)) ?_
    cases x; cases y; simp_all
  · intro h1
    try rw [Decidable.not_not] at h1
    refine s_skip ?_
    refine q_seqN ?_
    refine s_keep [2, 3] rfl ?_
    refine S_seq ?_
    refine S_seq ?_
    refine s_rg ?_
    refine s_op (o_faC rfl) ?_
    refine s_op (o_ldC rfl rfl rfl) ?_
    refine s_op (o_faC rfl) ?_
    refine s_op (o_ldC rfl rfl rfl) ?_
    first | refine s_op (o_neq rfl rfl) ?_ | refine s_op (o_bin rfl rfl rfl rfl) ?_
    refine s_nilO ?_
    refine q_seqN ?_
    refine s_keep [2, 3, 14] rfl ?_
    first | refine s_condD rfl ?_ ?_ | refine s_condN rfl ?_ ?_ | refine s_condNB rfl ?_ ?_ | refine s_condB rfl ?_ ?_
    · intro h2
      try rw [Decidable.not_not] at h2
      refine S_seq ?_
      refine s_rg ?_
      refine s_op (o_mv rfl) ?_
      refine s_nilO ?_
      refine q_seqN ?_
      refine s_keep [4] rfl ?_
      refine s_ret ?_
      refine q_seqR ?_
      refine ret_leaf (.inr rfl) rfl rfl ?_
      refine congrArg (fun b => V.w (.bool b)) ?_
      cases x; cases y; simp_all
    · intro h2
      try rw [Decidable.not_not] at h2
      refine s_skip ?_
      refine q_seqN ?_
      refine s_keep [2, 3] rfl ?_
      refine S_seq ?_
      refine S_seq ?_
      refine s_rg ?_
      refine s_op (o_faC rfl) ?_
      refine s_op (o_ldC rfl rfl rfl) ?_
      refine s_op (o_faC rfl) ?_
      refine s_op (o_ldC rfl rfl rfl) ?_
      refine s_op (o_eqb rfl rfl) ?_
      refine s_nilO ?_
      refine q_seqN ?_
      refine s_keep [2, 3, 19] rfl ?_
      first | refine s_condD rfl ?_ ?_ | refine s_condN rfl ?_ ?_ | refine s_condNB rfl ?_ ?_ | refine s_condB rfl ?_ ?_
      · intro h3
        try rw [Decidable.not_not] at h3
        refine S_seq ?_
        refine s_rg ?_
        refine s_op (o_mv rfl) ?_
        refine s_nilO ?_
        refine q_seqN ?_
        refine s_keep [4] rfl ?_
        refine s_ret ?_
        refine q_seqR ?_
        refine ret_leaf (.inr rfl) rfl rfl ?_
        refine congrArg (fun b => V.w (.bool b)) ?_
        cases x; cases y; simp_all
      · intro h3
        try rw [Decidable.not_not] at h3
        refine s_skip ?_
        refine q_seqN ?_
        refine s_keep [2, 3] rfl ?_
        refine S_seq ?_
        refine S_seq ?_
        refine s_rg ?_
        refine s_op (o_faC rfl) ?_
        refine s_op (o_ldC rfl rfl rfl) ?_
        refine s_op (o_faC rfl) ?_
        refine s_op (o_ldC rfl rfl rfl) ?_
        first | refine s_op (o_neq rfl rfl) ?_ | refine s_op (o_bin rfl rfl rfl rfl) ?_
        refine s_nilO ?_
        refine q_seqN ?_
        refine s_keep [2, 3, 24] rfl ?_
        first | refine s_condD rfl ?_ ?_ | refine s_condN rfl ?_ ?_ | refine s_condNB rfl ?_ ?_ | refine s_condB rfl ?_ ?_
        · intro h4
          try rw [Decidable.not_not] at h4
          refine S_seq ?_
          refine s_rg ?_
          refine s_op (o_mv rfl) ?_
          refine s_nilO ?_
          refine q_seqN ?_
          refine s_keep [4] rfl ?_
          refine s_ret ?_
          refine q_seqR ?_
          refine ret_leaf (.inr rfl) rfl rfl ?_
          refine congrArg (fun b => V.w (.bool b)) ?_
          cases x; cases y; simp_all
        · intro h4
          try rw [Decidable.not_not] at h4
          refine s_skip ?_
          refine q_seqN ?_
          refine s_keep [2, 3] rfl ?_
          refine S_seq ?_
          refine S_seq ?_
          refine s_rg ?_
          refine s_op (o_faC rfl) ?_
          refine s_op (o_ldC rfl rfl rfl) ?_
          refine s_op (o_faC rfl) ?_
          refine s_op (o_ldC rfl rfl rfl) ?_
          first | refine s_op (o_neq rfl rfl) ?_ | refine s_op (o_bin rfl rfl rfl rfl) ?_
          refine s_nilO ?_
          refine q_seqN ?_
          refine s_keep [2, 3, 29] rfl ?_
          first | refine s_condD rfl ?_ ?_ | refine s_condN rfl ?_ ?_ | refine s_condNB rfl ?_ ?_ | refine s_condB rfl ?_ ?_
          · intro h5
            try rw [Decidable.not_not] at h5
            refine S_seq ?_
            refine s_rg ?_
            refine s_op (o_mv rfl) ?_
            refine s_nilO ?_
            refine q_seqN ?_
            refine s_keep [4] rfl ?_
            refine s_ret ?_
            refine q_seqR ?_
            refine ret_leaf (.inr rfl) rfl rfl ?_
            refine congrArg (fun b => V.w (.bool b)) ?_
            cases x; cases y; simp_all
          · intro h5
            try rw [Decidable.not_not] at h5
            refine s_skip ?_
            refine q_seqN ?_
            refine s_keep [2, 3] rfl ?_
            refine S_seq ?_
            refine S_seq ?_
            refine s_rg ?_
            refine s_op (o_faC rfl) ?_
            refine s_op (o_ldC rfl rfl rfl) ?_
            refine s_op (o_faC rfl) ?_
            refine s_op (o_ldC rfl rfl rfl) ?_
            first | refine s_op (o_neq rfl rfl) ?_ | refine s_op (o_bin rfl rfl rfl rfl) ?_
            refine s_nilO ?_
            refine q_seqN ?_
            refine s_keep [2, 3, 34] rfl ?_
            first | refine s_condD rfl ?_ ?_ | refine s_condN rfl ?_ ?_ | refine s_condNB rfl ?_ ?_ | refine s_condB rfl ?_ ?_
            · intro h6
              try rw [Decidable.not_not] at h6
              refine S_seq ?_
              refine s_rg ?_
              refine s_op (o_mv rfl) ?_
              refine s_nilO ?_
              refine q_seqN ?_
              refine s_keep [4] rfl ?_
              refine s_ret ?_
              refine q_seqR ?_
              refine ret_leaf (.inr rfl) rfl rfl ?_
              refine congrArg (fun b => V.w (.bool b)) ?_
              cases x; cases y; simp_all
            · intro h6
              try rw [Decidable.not_not] at h6
              refine s_skip ?_
              refine q_seqN ?_
              refine s_keep [2, 3] rfl ?_
              refine S_seq ?_
              refine S_seq ?_
              refine s_rg ?_
              refine s_op (o_faC rfl) ?_
              refine s_op (o_ldC rfl rfl rfl) ?_
              refine s_op (o_faC rfl) ?_
              refine s_op (o_ldC rfl rfl rfl) ?_
              first | refine s_op (o_neq rfl rfl) ?_ | refine s_op (o_bin rfl rfl rfl rfl) ?_
              refine s_nilO ?_
              refine q_seqN ?_
              refine s_keep [39] rfl ?_
              first | refine s_condD rfl ?_ ?_ | refine s_condN rfl ?_ ?_ | refine s_condNB rfl ?_ ?_ | refine s_condB rfl ?_ ?_
              · intro h7
                try rw [Decidable.not_not] at h7
                refine S_seq ?_
                refine s_rg ?_
                refine s_op (o_mv rfl) ?_
                refine s_nilO ?_
                refine q_seqN ?_
                refine s_keep [4] rfl ?_
                refine s_ret ?_
                refine q_seqR ?_
                refine ret_leaf (.inr rfl) rfl rfl ?_
                refine congrArg (fun b => V.w (.bool b)) ?_
                cases x; cases y; simp_all
              · intro h7
                try rw [Decidable.not_not] at h7
                refine s_skip ?_
                refine q_seqN ?_
                refine s_keep [] rfl ?_
                refine S_seq ?_
                refine s_rg ?_
                refine s_op (o_mv rfl) ?_
                refine s_nilO ?_
                refine q_seqN ?_
                refine s_keep [4] rfl ?_
                refine s_ret ?_
                refine ret_leaf (.inr rfl) rfl rfl ?_
                refine congrArg (fun b => V.w (.bool b)) ?_
                cases x; cases y; simp_all

theorem c_131 (xs ys : List Done) (hl : xs.length ≤ 1048576) : CV prg 131 [.sl 7 (xs.map Done.r), .sl 7 (ys.map Done.r)] (fun res => res = .w (.bool (decide (xs = ys)))) := by
  refine cv_in g131 ?_
  refine s_keep [0, 1] rfl ?_
  refine S_seq ?_
  refine s_rg ?_
  refine s_op (o_mv rfl) ?_
  refine s_nilO ?_
  refine q_seqN ?_
  refine s_keep [0, 1] rfl ?_
  refine S_seq ?_
  refine S_seq ?_
  refine s_rg ?_
  refine s_op (o_mv rfl) ?_
  first | refine s_op (o_lenM rfl) ?_ | refine s_op (o_len rfl) ?_
  refine s_op (o_mv rfl) ?_
  first | refine s_op (o_lenM rfl) ?_ | refine s_op (o_len rfl) ?_
  first | refine s_op (o_neq rfl rfl) ?_ | refine s_op (o_bin rfl rfl rfl rfl) ?_
  refine s_nilO ?_
  refine q_seqN ?_
  refine s_keep [0, 1, 10] rfl ?_
  first | refine s_condD rfl ?_ ?_ | refine s_condN rfl ?_ ?_ | refine s_condNB rfl ?_ ?_ | refine s_condB rfl ?_ ?_
  · intro h1
    try rw [Decidable.not_not] at h1
    refine S_seq ?_
    refine s_rg ?_
    refine s_op (o_mv rfl) ?_
    refine s_nilO ?_
    refine q_seqN ?_
    refine s_keep [4] rfl ?_
    refine s_ret ?_
    refine q_seqR ?_
    refine ret_leaf (.inr rfl) rfl rfl ?_
    refine congrArg (fun b => V.w (.bool b)) ?_
    first | exact (decide_eq_false (ne_at (by assumption) (by assumption) (by assumption))).symm | exact (decide_eq_true (eq_end hi.2.1 (by omega) hi.2.2)).symm | exact (decide_eq_false (fun e => by subst e; simp_all)).symm
  · intro h1
    try rw [Decidable.not_not] at h1
    refine s_skip ?_
    refine q_seqN ?_
    refine s_keep [0, 1] rfl ?_
    refine S_seq ?_
    refine S_seq ?_
    refine s_rg ?_
    refine s_op (o_mv rfl) ?_
    refine s_nilO ?_
    refine q_seqN ?_
    refine s_keep [0, 1, 5] rfl ?_
    refine S_block ?_
    refine S_loop0 (ι := Nat) (fun i => i ≤ xs.length ∧ xs.take i = ys.take i ∧ xs.length = ys.length) (fun i => [(5, .w (.int .i64 (i : Int)))]) (fun i => xs.length - i) 0 ⟨by simp, by simp, by omega⟩ rfl ⟨rfl, trivial⟩ (fun _ _ => rfl) rfl ?_
    intro i hi
    refine s_keep [0, 1, 5] rfl ?_
    refine S_seq ?_
    refine S_seq ?_
    refine s_rg ?_
    refine s_op (o_mv rfl) ?_
    refine s_op (o_mv rfl) ?_
    first | refine s_op (o_lenM rfl) ?_ | refine s_op (o_len rfl) ?_
    first | refine s_op (o_lss rfl rfl) ?_ | refine s_op (o_bin rfl rfl rfl rfl) ?_
    refine s_nilO ?_
    refine q_seqN ?_
    refine s_keep [0, 1, 5, 14] rfl ?_
    first | refine s_condD rfl ?_ ?_ | refine s_condN rfl ?_ ?_ | refine s_condNB rfl ?_ ?_ | refine s_condB rfl ?_ ?_
    · intro h2
      try rw [Decidable.not_not] at h2
      refine s_skip ?_
      refine q_seqN ?_
      refine s_keep [0, 1, 5] rfl ?_
      refine S_seq ?_
      refine S_block ?_
      refine S_seq ?_
      refine s_rg ?_
      refine s_op (o_mv rfl) ?_
      refine s_op (o_mv rfl) ?_
      refine s_iaM rfl rfl (by omega) ?_
      intro y3 e3
      try simp only [Int.toNat_natCast, Int.toNat_zero] at e3
      refine s_op (o_ldn rfl rfl) ?_
      refine s_op (o_mv rfl) ?_
      refine s_op (o_mv rfl) ?_
      refine s_iaM rfl rfl (by omega) ?_
      intro y4 e4
      try simp only [Int.toNat_natCast, Int.toNat_zero] at e4
      refine s_op (o_ldn rfl rfl) ?_
      first | refine s_call rfl rfl (c_130 _ _) ?_ | refine s_callL rfl rfl (by simp) (c_130 _ _) rfl ?_
      refine s_op (o_not rfl) ?_
      refine s_nilO ?_
      refine q_seqN ?_
      refine s_keep [0, 1, 5, 26] rfl ?_
      first | refine s_condD rfl ?_ ?_ | refine s_condN rfl ?_ ?_ | refine s_condNB rfl ?_ ?_ | refine s_condB rfl ?_ ?_
      · intro h5
        try rw [Decidable.not_not] at h5
        refine S_seq ?_
        refine s_rg ?_
        refine s_op (o_mv rfl) ?_
        refine s_nilO ?_
        refine q_seqN ?_
        refine s_keep [4] rfl ?_
        refine s_ret ?_
        refine q_blkR ?_
        refine q_seqR ?_
        refine q_loopR ?_
        refine q_blkR ?_
        refine q_seqR ?_
        refine ret_leaf (.inr rfl) rfl rfl ?_
        refine congrArg (fun b => V.w (.bool b)) ?_
        first | exact (decide_eq_false (ne_at (by assumption) (by assumption) (by assumption))).symm | exact (decide_eq_true (eq_end hi.2.1 (by omega) hi.2.2)).symm | exact (decide_eq_false (fun e => by subst e; simp_all)).symm
      · intro h5
        try rw [Decidable.not_not] at h5
        refine s_skip ?_
        refine q_blkN ?_
        refine q_seqN ?_
        refine s_keep [0, 1, 5] rfl ?_
        refine s_rg ?_
        refine s_op (o_mv rfl) ?_
        first | refine s_op (o_addn rfl rfl (by omega)) ?_ | refine s_op (o_add rfl rfl) ?_
        refine s_op (o_mv rfl) ?_
        refine s_nilO ?_
        refine q_loopN ?_
        refine ⟨i + 1, ⟨by omega, eq_take (by assumption) (by assumption) hi.2.1 ?_, hi.2.2⟩, by omega, hasOf ⟨rfl, trivial⟩ rfl⟩
        assumption
    · intro h2
      try rw [Decidable.not_not] at h2
      refine s_exit ?_
      refine q_seqX ?_
      refine q_loopX ?_
      refine q_blkH ?_
      refine q_seqN ?_
      refine s_keep [] rfl ?_
      refine S_seq ?_
      refine s_rg ?_
      refine s_op (o_mv rfl) ?_
      refine s_nilO ?_
      refine q_seqN ?_
      refine s_keep [4] rfl ?_
      refine s_ret ?_
      refine ret_leaf (.inr rfl) rfl rfl ?_
      refine congrArg (fun b => V.w (.bool b)) ?_
      first | exact (decide_eq_false (ne_at (by assumption) (by assumption) (by assumption))).symm | exact (decide_eq_true (eq_end hi.2.1 (by omega) hi.2.2)).symm | exact (decide_eq_false (fun e => by subst e; simp_all)).symm

theorem c_161 (x : Done) : CV prg 161 [.agg x.r] (fun res => res = .agg x.r) := by
  refine cv_in g161 ?_
  refine s_keep [0] rfl ?_
  refine S_seq ?_
  refine s_rg ?_
  refine s_op (o_box rfl rfl rfl) ?_
  refine s_op (o_new rfl rfl) ?_
  refine s_nilO ?_
  refine q_seqN ?_
  refine s_keep [1, 2] rfl ?_
  refine S_seq ?_
  refine s_rg ?_
  refine s_op (o_new rfl rfl) ?_
  refine s_nilO ?_
  refine q_seqN ?_
  refine s_keep [1, 2, 3] rfl ?_
  refine S_seq ?_
  refine s_rg ?_
  refine s_op (o_faC rfl) ?_
  refine s_op (o_ldC rfl rfl rfl) ?_
  refine s_op (o_faC rfl) ?_
  refine s_opN (o_stC rfl rfl rfl rfl rfl rfl) ?_
  refine s_nilO ?_
  refine q_seqN ?_
  refine s_keep [1, 2, 3] rfl ?_
  refine S_seq ?_
  refine s_rg ?_
  refine s_op (o_faC rfl) ?_
  refine s_op (o_ldC rfl rfl rfl) ?_
  refine s_op (o_faC rfl) ?_
  refine s_opN (o_stC rfl rfl rfl rfl rfl rfl) ?_
  refine s_nilO ?_
  refine q_seqN ?_
  refine s_keep [1, 2, 3] rfl ?_
  refine S_seq ?_
  refine s_rg ?_
  refine s_op (o_faC rfl) ?_
  refine s_op (o_ldC rfl rfl rfl) ?_
  refine s_op (o_faC rfl) ?_
  refine s_opN (o_stC rfl rfl rfl rfl rfl rfl) ?_
  refine s_nilO ?_
  refine q_seqN ?_
  refine s_keep [1, 2, 3] rfl ?_
  refine S_seq ?_
  refine s_rg ?_
  refine s_op (o_faC rfl) ?_
  refine s_op (o_ldC rfl rfl rfl) ?_
  refine s_op (o_faC rfl) ?_
  refine s_opN (o_stC rfl rfl rfl rfl rfl rfl) ?_
  refine s_nilO ?_
  refine q_seqN ?_
  refine s_keep [1, 2, 3] rfl ?_
  refine S_seq ?_
  refine s_rg ?_
  refine s_op (o_faC rfl) ?_
  refine s_op (o_ldC rfl rfl rfl) ?_
  refine s_op (o_faC rfl) ?_
  refine s_opN (o_stC rfl rfl rfl rfl rfl rfl) ?_
  refine s_nilO ?_
  refine q_seqN ?_
  refine s_keep [1, 2, 3] rfl ?_
  refine S_seq ?_
  refine s_rg ?_
  refine s_op (o_faC rfl) ?_
  refine s_op (o_ldC rfl rfl rfl) ?_
  refine s_op (o_faC rfl) ?_
  refine s_opN (o_stC rfl rfl rfl rfl rfl rfl) ?_
  refine s_nilO ?_
  refine q_seqN ?_
  refine s_keep [1, 2, 3] rfl ?_
  refine S_seq ?_
  refine s_rg ?_
  refine s_op (o_faC rfl) ?_
  refine s_op (o_ldC rfl rfl rfl) ?_
  refine s_op (o_faC rfl) ?_
  refine s_opN (o_stC rfl rfl rfl rfl rfl rfl) ?_
  refine s_nilO ?_
  refine q_seqN ?_
  refine s_keep [2, 3] rfl ?_
  refine S_seq ?_
  refine s_rg ?_
  refine s_op (o_ldnC rfl rfl rfl) ?_
  refine s_opN (o_stnC rfl rfl rfl rfl rfl rfl rfl) ?_
  refine s_nilO ?_
  refine q_seqN ?_
  refine s_keep [2] rfl ?_
  refine s_ret ?_
  refine ret_leaf (.inr rfl) rfl rfl ?_
  rfl

theorem c_162 (xs : List Done) (hl : xs.length ≤ 1048576) : CV prg 162 [.sl 7 (xs.map Done.r)] (fun res => res = .sl 7 (xs.map Done.r)) := by
  refine cv_in g162 ?_
  refine s_keep [0] rfl ?_
  refine S_seq ?_
  refine s_rg ?_
  refine s_op (o_mv rfl) ?_
  refine s_nilO ?_
  refine q_seqN ?_
  refine s_keep [0] rfl ?_
  refine S_seq ?_
  refine s_rg ?_
  refine s_op (o_mv rfl) ?_
  first | refine s_op (o_lenM rfl) ?_ | refine s_op (o_len rfl) ?_
  refine s_op (o_mk rfl rfl rfl rfl ⟨by omega, by unfold roomy; omega, by unfold roomy; omega⟩ rfl) ?_
  refine s_op (o_mv rfl) ?_
  refine s_nilO ?_
  refine q_seqN ?_
  refine s_keep [0, 3] rfl ?_
  refine S_seq ?_
  refine S_seq ?_
  refine s_rg ?_
  refine s_op (o_mv rfl) ?_
  refine s_nilO ?_
  refine q_seqN ?_
  refine s_keep [0, 3, 4] rfl ?_
  refine S_block ?_
  refine S_loop (ι := Nat) (fun i => i ≤ xs.length) (fun i => [(4, .w (.int .i64 (i : Int)))]) (fun i => [.arr 7 (tabV Done.r [.w (.int .i64 0), .w (.int .i64 0), .w (.bool false), .w (.int .i64 0), .w (.int .i64 0), .w (.int .i64 0), .w (.int .i64 0)] xs i)]) (fun i => xs.length - i) 1 0 (by simp) rfl (hasOf ⟨rfl, trivial⟩ (by rw [tabV_zero]; rfl)) rfl (fun _ _ => rfl) (fun _ _ => ⟨rfl, rfl⟩) ?_
  intro i hi
  refine s_keep [0, 3, 4] rfl ?_
  refine S_seq ?_
  refine S_seq ?_
  refine s_rg ?_
  refine s_op (o_mv rfl) ?_
  refine s_op (o_mv rfl) ?_
  first | refine s_op (o_lenM rfl) ?_ | refine s_op (o_len rfl) ?_
  first | refine s_op (o_lss rfl rfl) ?_ | refine s_op (o_bin rfl rfl rfl rfl) ?_
  refine s_nilO ?_
  refine q_seqN ?_
  refine s_keep [0, 3, 4, 11] rfl ?_
  first | refine s_condD rfl ?_ ?_ | refine s_condN rfl ?_ ?_ | refine s_condNB rfl ?_ ?_ | refine s_condB rfl ?_ ?_
  · intro h1
    try rw [Decidable.not_not] at h1
    refine s_skip ?_
    refine q_seqN ?_
    refine s_keep [0, 3, 4] rfl ?_
    refine S_seq ?_
    refine S_block ?_
    refine s_rg ?_
    refine s_op (o_mv rfl) ?_
    refine s_op (o_mv rfl) ?_
    refine s_op (o_mv rfl) ?_
    refine s_op (o_mv rfl) ?_
    refine s_iaM rfl rfl (by first | omega | (rw [List.length_replicate]; omega)) ?_
    intro y2 e2
    try simp only [Int.toNat_natCast, Int.toNat_zero] at e2
    refine s_op (o_ldn rfl rfl) ?_
    first | refine s_call rfl rfl (c_161 _) ?_ | refine s_callL rfl rfl (by simp) (c_161 _) rfl ?_
    refine s_op (o_iaL rfl rfl (by rw [tabV_len _ _ _ _ (by omega), List.length_replicate]; rfl) rfl (by first | omega | (rw [List.length_replicate]; omega))) ?_
    refine s_opN (o_stnA rfl rfl rfl rfl rfl (by rw [tabV_len _ _ _ _ (by omega), List.length_replicate]; rfl) (by rw [Int.toNat_natCast]; exact tabV_at _ _ (by omega)) rfl rfl) ?_
    refine s_nilO ?_
    refine q_blkN ?_
    refine q_seqN ?_
    refine s_keep [0, 3, 4] rfl ?_
    refine s_rg ?_
    refine s_op (o_mv rfl) ?_
    first | refine s_op (o_addn rfl rfl (by omega)) ?_ | refine s_op (o_add rfl rfl) ?_
    refine s_op (o_mv rfl) ?_
    refine s_nilO ?_
    refine q_loopN ?_
    refine ⟨i + 1, by omega, by omega, hasOf ⟨rfl, trivial⟩ ?_⟩
    rw [← tabV_set Done.r [.w (.int .i64 0), .w (.int .i64 0), .w (.bool false), .w (.int .i64 0), .w (.int .i64 0), .w (.int .i64 0), .w (.int .i64 0)] (by assumption)]; rfl
  · intro h1
    try rw [Decidable.not_not] at h1
    refine s_exit ?_
    refine q_seqX ?_
    refine q_loopX ?_
    refine q_blkH ?_
    refine q_seqN ?_
    refine s_keep [3] rfl ?_
    refine S_seq ?_
    refine s_rg ?_
    refine s_op (o_mv rfl) ?_
    refine s_op (o_mv rfl) ?_
    refine s_nilO ?_
    refine q_seqN ?_
    refine s_keep [2] rfl ?_
    refine s_ret ?_
    refine ret_leafA (.inr rfl) rfl rfl (by rw [tabV_len _ _ _ _ (by omega), List.length_replicate]; rfl) ?_
    rw [tabV_end _ _ _ (by omega)]

theorem c_147 (xs : List Done) (left : Int) (h : -1 ≤ left ∧ left ≤ 1048576) (hl : xs.length ≤ 140737488355328) : CV prg 147 [.sl 7 (xs.map Done.r), .w (.int .i64 left)] (fun res => res = .w (.int .i64 (room left xs.length))) := by
  refine cv_in g147 ?_
  refine s_keep [0, 1] rfl ?_
  refine S_seq ?_
  refine s_rg ?_
  refine s_op (o_mv rfl) ?_
  refine s_nilO ?_
  refine q_seqN ?_
  refine s_keep [0, 1] rfl ?_
  refine S_seq ?_
  refine s_rg ?_
  refine s_op (o_mv rfl) ?_
  refine s_op (o_mv rfl) ?_
  first | refine s_op (o_lenM rfl) ?_ | refine s_op (o_len rfl) ?_
  first | refine s_op (o_subn rfl rfl (by omega)) ?_ | refine s_op (o_sub rfl rfl) ?_
  refine s_op (o_mv rfl) ?_
  refine s_nilO ?_
  refine q_seqN ?_
  refine s_keep [1] rfl ?_
  refine S_seq ?_
  refine S_seq ?_
  refine s_rg ?_
  refine s_op (o_mv rfl) ?_
  first | refine s_op (o_lss rfl rfl) ?_ | refine s_op (o_bin rfl rfl rfl rfl) ?_
  refine s_nilO ?_
  refine q_seqN ?_
  refine s_keep [1, 10] rfl ?_
  first | refine s_condD rfl ?_ ?_ | refine s_condN rfl ?_ ?_ | refine s_condNB rfl ?_ ?_ | refine s_condB rfl ?_ ?_
  · intro h1
    try rw [Decidable.not_not] at h1
    refine S_seq ?_
    refine s_rg ?_
    refine s_op (o_mv rfl) ?_
    refine s_nilO ?_
    refine q_seqN ?_
    refine s_keep [4] rfl ?_
    refine s_ret ?_
    refine q_seqR ?_
    refine ret_leaf (.inr rfl) rfl rfl ?_
    refine congrArg (fun b => V.w (.int .i64 b)) ?_
    (try unfold room); omega
  · intro h1
    try rw [Decidable.not_not] at h1
    refine s_skip ?_
    refine q_seqN ?_
    refine s_keep [1] rfl ?_
    refine S_seq ?_
    refine s_rg ?_
    refine s_op (o_mv rfl) ?_
    refine s_op (o_mv rfl) ?_
    refine s_nilO ?_
    refine q_seqN ?_
    refine s_keep [4] rfl ?_
    refine s_ret ?_
    refine ret_leaf (.inr rfl) rfl rfl ?_
    refine congrArg (fun b => V.w (.int .i64 b)) ?_
    (try unfold room); omega

def Done.beq (x y : Done) : Bool := ((x.cycle == y.cycle) && ((x.who == y.who) && ((x.write == y.write) && ((x.addr == y.addr) && ((x.size == y.size) && ((x.value == y.value) && ((x.resp == y.resp) && true)))))))

theorem Done.of_beq {x y : Done} (h : Done.beq x y = true) : x = y := by
  cases x; cases y; simp_all [Done.beq]

theorem Done.no_beq {x y : Done} (h : Done.beq x y = false) : x ≠ y := by
  rintro rfl; simp [Done.beq] at h

theorem Done.beq_dec (x y : Done) : Done.beq x y = decide (x = y) := by
  cases h : Done.beq x y
  · exact (decide_eq_false (Done.no_beq h)).symm
  · exact (decide_eq_true (Done.of_beq h)).symm

def folOk (p : Done × Done) : Bool := (p.1.write == p.2.write) && decide (p.1.addr = p.2.addr) && decide (p.1.size = p.2.size) && !(p.1.write && decide (p.1.resp = 0) && decide (p.1.value ≠ p.2.value))
def follows (l w : List Done) : Bool := decide (l.length ≤ w.length) && (l.zip w).all folOk

def Req.small (x : Req) : Prop := x.data.length ≤ 1048576

def Req.sz (x : Req) : Nat := x.data.length

theorem Req.small_of {x : Req} (h : x.sz ≤ 1048576) : x.small := by unfold Req.small; unfold Req.sz at h; omega

def Mst.small (x : Mst) : Prop := x.queue.length ≤ 1048576 ∧ (∀ y, y ∈ x.queue → Req.small y)

def Mst.sz (x : Mst) : Nat := x.queue.length + sumL Req.sz x.queue

theorem Mst.small_of {x : Mst} (h : x.sz ≤ 1048576) : x.small := ⟨by unfold Mst.sz at h; omega, fun y hy => Req.small_of (by have := sumL_mem Req.sz hy; unfold Mst.sz at h; omega)⟩

def roundStep (c : Conf) (s : Int) (i : Nat) : Int := IntKind.wrap .i64 (s + IntKind.wrap .i64 (c.turn i * c.slot))
def Conf.round (c : Conf) : Int := if c.ok then (List.range c.masters.length).foldl (roundStep c) (IntKind.wrap .i64 (c.cost * c.masters.length)) else 0
def Conf.bound (c : Conf) (beats : Int) : Int := if c.ok && inB beats 1 8 then
  IntKind.wrap .i64 (IntKind.wrap .i64 (IntKind.wrap .i64 (2 * IntKind.wrap .i64 (IntKind.wrap .i64 (beats * IntKind.wrap .i64 (IntKind.wrap .i64 (IntKind.wrap .i64 (2 * c.round) + c.maxSplit) + c.cost)) + c.caps)) + IntKind.wrap .i64 (2 * c.slot)) + 10) else 0
theorem minL2 (a b : Int) : minL a [b] = min a b := by simp only [minL]; omega
theorem maxL2 (a b : Int) : maxL a [b] = max a b := by simp only [maxL]; omega
def Wrr.back (w : Wrr) (c : Conf) (who : Int) : Wrr := if w.ok c && decide (who = w.pos) then { w with credit := min (IntKind.wrap .i64 (w.credit + 1)) (c.turn who) } else w
theorem range_end {i n : Nat} {f : Int → Nat → Int} {a : Int} (h : ¬ (i : Int) < n) (hi : i ≤ n) : (List.range i).foldl f a = (List.range n).foldl f a := by
  have : i = n := by omega
  rw [this]

def Post.small (x : Post) : Prop := x.req.small

def Post.sz (x : Post) : Nat := x.req.sz

theorem Post.small_of {x : Post} (h : x.sz ≤ 1048576) : x.small := Req.small_of (by unfold Post.sz at h; omega)

def Script.small (x : Script) : Prop := x.posts.length ≤ 1048576 ∧ (∀ y, y ∈ x.posts → Post.small y) ∧ x.waits.length ≤ 1048576 ∧ x.says.length ≤ 1048576

def Script.sz (x : Script) : Nat := x.posts.length + sumL Post.sz x.posts + x.waits.length + x.says.length

theorem Script.small_of {x : Script} (h : x.sz ≤ 1048576) : x.small := ⟨by unfold Script.sz at h; omega, fun y hy => Post.small_of (by have := sumL_mem Post.sz hy; unfold Script.sz at h; omega), by unfold Script.sz at h; omega, by unfold Script.sz at h; omega⟩

def elem (l : List Int) (k : Int) : Int := if l.length = 0 ∨ k < 0 then 0 else (l[(k.tmod l.length).toNat]?).getD 0
theorem elem_i64 {l : List Int} {k : Int} (h : ∀ y, y ∈ l → i64 y) : i64 (elem l k) := by
  unfold elem
  split
  · unfold AL.i64; omega
  · cases e : l[(k.tmod l.length).toNat]? with
    | none => unfold AL.i64; simp
    | some y => exact h y (List.mem_of_getElem? e)
def Conf.splitAt (c : Conf) (s : Script) (k : Int) : Int := max 1 (min (min (elem s.waits k) 99 + 1) c.maxSplit)

def Dev.small (x : Dev) : Prop := x.regs.length ≤ 1048576 ∧ x.fifo.length ≤ 1048576

def Dev.sz (x : Dev) : Nat := x.regs.length + x.fifo.length

theorem Dev.small_of {x : Dev} (h : x.sz ≤ 1048576) : x.small := ⟨by unfold Dev.sz at h; omega, by unfold Dev.sz at h; omega⟩

def Model.small (x : Model) : Prop := x.ram.length ≤ 1048576 ∧ x.dev.small

def Model.sz (x : Model) : Nat := x.ram.length + x.dev.sz

theorem Model.small_of {x : Model} (h : x.sz ≤ 1048576) : x.small := ⟨by unfold Model.sz at h; omega, Dev.small_of (by unfold Model.sz at h; omega)⟩

def Bus.small (x : Bus) : Prop := x.conf.small ∧ x.ms.length ≤ 1048576 ∧ (∀ y, y ∈ x.ms → Mst.small y) ∧ x.buckets.length ≤ 1048576 ∧ x.splits.length ≤ 1048576 ∧ x.model.small ∧ x.log.length ≤ 1048576

def Bus.sz (x : Bus) : Nat := x.conf.sz + x.ms.length + sumL Mst.sz x.ms + x.buckets.length + x.splits.length + x.model.sz + x.log.length

theorem Bus.small_of {x : Bus} (h : x.sz ≤ 1048576) : x.small := ⟨Conf.small_of (by unfold Bus.sz at h; omega), by unfold Bus.sz at h; omega, fun y hy => Mst.small_of (by have := sumL_mem Mst.sz hy; unfold Bus.sz at h; omega), by unfold Bus.sz at h; omega, by unfold Bus.sz at h; omega, Model.small_of (by unfold Bus.sz at h; omega), by unfold Bus.sz at h; omega⟩

def MConf.beq (x y : MConf) : Bool := ((x.weight == y.weight) && ((x.prio == y.prio) && ((x.every == y.every) && ((x.cap == y.cap) && true))))

theorem MConf.of_beq {x y : MConf} (h : MConf.beq x y = true) : x = y := by
  cases x; cases y; simp_all [MConf.beq]

theorem MConf.no_beq {x y : MConf} (h : MConf.beq x y = false) : x ≠ y := by
  rintro rfl; simp [MConf.beq] at h

theorem MConf.beq_dec (x y : MConf) : MConf.beq x y = decide (x = y) := by
  cases h : MConf.beq x y
  · exact (decide_eq_false (MConf.no_beq h)).symm
  · exact (decide_eq_true (MConf.of_beq h)).symm

def Bucket.beq (x y : Bucket) : Bool := ((x.tokens == y.tokens) && ((x.count == y.count) && true))

theorem Bucket.of_beq {x y : Bucket} (h : Bucket.beq x y = true) : x = y := by
  cases x; cases y; simp_all [Bucket.beq]

theorem Bucket.no_beq {x y : Bucket} (h : Bucket.beq x y = false) : x ≠ y := by
  rintro rfl; simp [Bucket.beq] at h

theorem Bucket.beq_dec (x y : Bucket) : Bucket.beq x y = decide (x = y) := by
  cases h : Bucket.beq x y
  · exact (decide_eq_false (Bucket.no_beq h)).symm
  · exact (decide_eq_true (Bucket.of_beq h)).symm

def Beat.beq (x y : Beat) : Bool := ((x.live == y.live) && ((x.who == y.who) && ((x.num == y.num) && ((x.first == y.first) && ((x.via == y.via) && ((x.left == y.left) && ((x.resp == y.resp) && ((x.second == y.second) && true))))))))

theorem Beat.of_beq {x y : Beat} (h : Beat.beq x y = true) : x = y := by
  cases x; cases y; simp_all [Beat.beq]

theorem Beat.no_beq {x y : Beat} (h : Beat.beq x y = false) : x ≠ y := by
  rintro rfl; simp [Beat.beq] at h

theorem Beat.beq_dec (x y : Beat) : Beat.beq x y = decide (x = y) := by
  cases h : Beat.beq x y
  · exact (decide_eq_false (Beat.no_beq h)).symm
  · exact (decide_eq_true (Beat.of_beq h)).symm

def Wrr.beq (x y : Wrr) : Bool := ((x.pos == y.pos) && ((x.credit == y.credit) && true))

theorem Wrr.of_beq {x y : Wrr} (h : Wrr.beq x y = true) : x = y := by
  cases x; cases y; simp_all [Wrr.beq]

theorem Wrr.no_beq {x y : Wrr} (h : Wrr.beq x y = false) : x ≠ y := by
  rintro rfl; simp [Wrr.beq] at h

theorem Wrr.beq_dec (x y : Wrr) : Wrr.beq x y = decide (x = y) := by
  cases h : Wrr.beq x y
  · exact (decide_eq_false (Wrr.no_beq h)).symm
  · exact (decide_eq_true (Wrr.of_beq h)).symm

structure Bus.parts (x y : Bus) : Prop where
  conf : x.conf = y.conf
  now : x.now = y.now
  ms : x.ms = y.ms
  arb : x.arb = y.arb
  buckets : x.buckets = y.buckets
  splits : x.splits = y.splits
  holder : x.holder = y.holder
  kept : x.kept = y.kept
  last : x.last = y.last
  addr : x.addr = y.addr
  data : x.data = y.data
  model : x.model = y.model
  picks : x.picks = y.picks
  log : x.log = y.log
theorem Bus.of_parts {x y : Bus} (h : Bus.parts x y) : x = y := by
  obtain ⟨h1, h2, h3, h4, h5, h6, h7, h8, h9, h10, h11, h12, h13, h14⟩ := h
  cases x; cases y; simp only at *; subst h1 h2 h3 h4 h5 h6 h7 h8 h9 h10 h11 h12 h13 h14; rfl
theorem Bus.log_dec {x y : Bus} (h : x.log = y.log → Bus.parts x y) : decide (x.log = y.log) = decide (x = y) := by
  by_cases hl : x.log = y.log
  · rw [decide_eq_true hl, decide_eq_true (Bus.of_parts (h hl))]
  · rw [decide_eq_false hl, decide_eq_false (fun e => hl (congrArg Bus.log e))]

def bytes (size : Int) : Int := if inB size 0 2 then (if size = 0 then 1 else if size = 1 then 2 else 4) else 0
def limit (size : Int) : Int := if inB size 0 2 then (if size = 0 then 256 else if size = 1 then 65536 else 4294967296) else 0
def beatsN (b : Int) : Int := if b = 0 then 1 else if b = 3 then 8 else 4
def beats (b : Int) : Int := if inB b 0 3 then beatsN b else 0
theorem in3 {x : Int} (h : inB x 0 2 = true) : x = 0 ∨ x = 1 ∨ x = 2 := by have := inB_t h; omega
theorem in4 {x : Int} (h : inB x 0 3 = true) : x = 0 ∨ x = 1 ∨ x = 2 ∨ x = 3 := by have := inB_t h; omega
theorem bytes_leaf {x : Int} (h : inB x 0 2 = true) : IntKind.wrap .i64 (1 * 2 ^ (min x.toNat IntKind.i64.bits)) = bytes x := by
  unfold bytes; rw [if_pos h]; rcases in3 h with rfl | rfl | rfl <;> decide
theorem bytes_pos {x : Int} (h : inB x 0 2 = true) : bytes x = 1 ∨ bytes x = 2 ∨ bytes x = 4 := by
  unfold bytes; rw [if_pos h]; rcases in3 h with rfl | rfl | rfl <;> simp
theorem bytes_no {x : Int} (h : inB x 0 2 = false) : bytes x = 0 := by unfold bytes; rw [if_neg (by simp [h])]
theorem bytes_z {x : Int} : bytes x = 0 ∧ inB x 0 2 = false ∨ inB x 0 2 = true ∧ (bytes x = 1 ∨ bytes x = 2 ∨ bytes x = 4) := by
  cases h : inB x 0 2 with
  | false => exact .inl ⟨bytes_no h, rfl⟩
  | true => exact .inr ⟨rfl, bytes_pos h⟩
theorem limit_leaf {x : Int} (h : ¬ bytes x = 0) : IntKind.wrap .i64 (1 * 2 ^ (min (IntKind.wrap .i64 (8 * bytes x)).toNat IntKind.i64.bits)) = limit x := by
  rcases bytes_z (x := x) with ⟨h1, _⟩ | ⟨h1, _⟩
  · exact absurd h1 h
  · unfold limit bytes; rw [if_pos h1, if_pos h1]; rcases in3 h1 with rfl | rfl | rfl <;> decide
theorem limit_no {x : Int} (h : bytes x = 0) : limit x = 0 := by
  rcases bytes_z (x := x) with ⟨_, h1⟩ | ⟨_, h1⟩
  · unfold limit; rw [if_neg (by simp [h1])]
  · omega
theorem limit_bd (x : Int) : 0 ≤ limit x ∧ limit x ≤ 4294967296 := by
  unfold limit
  split
  · rename_i h; rcases in3 h with rfl | rfl | rfl <;> simp
  · simp
theorem beats_row {b : Int} {t : IntKind} (h : inB b 0 3 = true) : [[V.w (.int .i64 1)], [V.w (.int .i64 4)], [V.w (.int .i64 4)], [V.w (.int .i64 8)]][b.toNat]? = some [V.w (.int .i64 (beatsN b))] := by
  rcases in4 h with rfl | rfl | rfl | rfl <;> rfl
theorem beats_bd (b : Int) : 0 ≤ beats b ∧ beats b ≤ 8 := by
  unfold beats
  split
  · rename_i h; rcases in4 h with rfl | rfl | rfl | rfl <;> simp [beatsN]
  · simp
def aligned (a size : Int) : Bool := inB size 0 2 && decide (0 ≤ a) && decide (a.tmod (bytes size) = 0)
def nextA (a size burst : Int) : Int :=
  if aligned a size && decide (a < 512) && decide (beats burst ≠ 0) then
    (if burst = 2 ∧ (a + bytes size).tmod (4 * bytes size) = 0 then a + bytes size - 4 * bytes size else a + bytes size)
  else -1

theorem aligned_t {a s : Int} (h : aligned a s = true) : inB s 0 2 = true ∧ 0 ≤ a ∧ (bytes s = 1 ∨ bytes s = 2 ∨ bytes s = 4) := by
  simp only [aligned, Bool.and_eq_true, decide_eq_true_eq] at h
  exact ⟨h.1.1, h.1.2, bytes_pos h.1.1⟩

def bl (s b : Int) : Nat → Int → Option (List Int)
  | 0, _ => some []
  | n + 1, a => if nextA a s b < 0 then none else (bl s b n (nextA a s b)).map (a :: ·)
def burstL (a s b : Int) : List Int := (bl s b (beats b).toNat a).getD []
theorem bl_step {s b a c : Int} {n i : Nat} {pre : List Int} (h : bl s b n a = (bl s b (n - i) c).map (pre ++ ·)) (hi : i < n) (hn : ¬ nextA c s b < 0) : bl s b n a = (bl s b (n - (i + 1)) (nextA c s b)).map ((pre ++ [c]) ++ ·) := by
  rw [h]
  have e : n - i = (n - (i + 1)) + 1 := by omega
  rw [e, bl, if_neg hn]
  cases bl s b (n - (i + 1)) (nextA c s b) <;> simp
theorem bl_none {s b a c : Int} {i : Nat} {pre : List Int} (h : bl s b (beats b).toNat a = (bl s b ((beats b).toNat - i) c).map (pre ++ ·)) (hi : i < (beats b).toNat) (hn : nextA c s b < 0) : burstL a s b = [] := by
  unfold burstL
  rw [h]
  have e : (beats b).toNat - i = ((beats b).toNat - (i + 1)) + 1 := by omega
  rw [e, bl, if_pos hn]; rfl
theorem bl_end {s b a c : Int} {i : Nat} {pre : List Int} (h : bl s b (beats b).toNat a = (bl s b ((beats b).toNat - i) c).map (pre ++ ·)) (hi : (beats b).toNat ≤ i) : burstL a s b = pre := by
  unfold burstL
  rw [h, show (beats b).toNat - i = 0 by omega, bl]; simp
theorem bl_len (s b : Int) : ∀ (n : Nat) (a : Int) l, bl s b n a = some l → l.length = n
  | 0, a, l, h => by simp [bl] at h; subst h; rfl
  | n + 1, a, l, h => by
    simp only [bl] at h
    split at h
    · cases h
    · cases e : bl s b n (nextA a s b) with
      | none => rw [e] at h; cases h
      | some r => rw [e] at h; cases h; simp [bl_len s b n _ r e]
theorem burstL_len (a s b : Int) : (burstL a s b).length = 0 ∨ (burstL a s b).length = (beats b).toNat := by
  unfold burstL
  cases e : bl s b (beats b).toNat a with
  | none => exact .inl rfl
  | some l => exact .inr (bl_len s b _ _ _ e)
theorem burstL_le (a s b : Int) : (burstL a s b).length ≤ 8 := by
  have h1 := burstL_len a s b
  have h2 := beats_bd b
  omega
theorem iR_app (pre : List Int) (c : Int) : (pre ++ [c]).map iR = pre.map iR ++ [[V.w (.int .i64 c)]] := by rw [List.map_append]; rfl

def onPage (l : List Int) (x : Int) : Bool := decide (IntKind.wrap .i64 (x.tdiv 64) = IntKind.wrap .i64 (((l[0]?).getD 0).tdiv 64))
theorem page_no {l : List Int} {x y : Int} (h0 : l[0]? = some y) (h : ¬ IntKind.wrap .i64 (x.tdiv 64) = IntKind.wrap .i64 (y.tdiv 64)) : onPage l x = false := by unfold onPage; rw [h0]; exact decide_eq_false h
theorem page_is {l : List Int} {x y : Int} (h0 : l[0]? = some y) (h : IntKind.wrap .i64 (x.tdiv 64) = IntKind.wrap .i64 (y.tdiv 64)) : onPage l x = true := by unfold onPage; rw [h0]; exact decide_eq_true h
def burstOk (a s b : Int) : Bool := (burstL a s b).all (onPage (burstL a s b)) && decide (0 < (burstL a s b).length)

def Req.ok (x : Req) : Bool := burstOk x.addr x.size x.burst && decide ((x.data.length : Int) = if x.write then beats x.burst else 0) && x.data.all fun v => inB v 0 (limit x.size - 1)
theorem data_not (l : Int) (xs : List Int) : (!xs.any (fun v => !inB v 0 l)) = xs.all (fun v => inB v 0 l) := by
  induction xs with
  | nil => rfl
  | cons m xs ih => simp only [List.any_cons, List.all_cons, Bool.not_or, Bool.not_not, ih]
theorem Req.ok_len {x : Req} (h : x.ok = true) : x.data.length ≤ 8 := by
  simp only [Req.ok, Bool.and_eq_true, decide_eq_true_eq] at h
  have := beats_bd x.burst
  have h2 := h.1.2
  split at h2 <;> omega

def Mst.beats (m : Mst) : Int := match m.queue[0]? with | some r => AL.beats r.burst | none => 0
def Mst.right (m : Mst) : Bool := decide (m.queue.length ≤ 4) && decide (0 ≤ m.tries) && m.queue.all Req.ok &&
  (if m.queue.length = 0 then decide (m.beat = 0) && decide (m.done = 0) && decide (m.tries = 0) && !m.parted && !m.broken else inB m.done 0 (m.beats - 1) && inB m.beat m.done (min (m.done + 2) m.beats))
theorem Mst.beats_bd (m : Mst) : 0 ≤ m.beats ∧ m.beats ≤ 8 := by
  unfold Mst.beats
  split
  · exact AL.beats_bd _
  · simp
theorem Mst.beats_ne {m : Mst} (h : 0 < m.beats) : 0 < m.queue.length := by
  unfold Mst.beats at h
  split at h
  · rename_i r hr; exact (List.getElem?_eq_some_iff.1 hr).1
  · omega
theorem Mst.beats_nil {m : Mst} (h : m.queue.length = 0) : m.beats = 0 := by
  unfold Mst.beats
  rw [List.getElem?_eq_none (by omega)]
theorem Mst.beats_at {m : Mst} {r : Req} (h : m.queue[0]? = some r) : m.beats = AL.beats r.burst := by unfold Mst.beats; rw [h]
theorem mst_ix1 {m : Mst} {beat : Int} (h : inB beat 0 (m.beats - 1) = true) : (0 : Int) ≤ 0 ∧ (0 : Int) < m.queue.length := by
  have h1 := inB_t h
  have := Mst.beats_ne (m := m) (by omega)
  omega
theorem Mst.right_ok {m : Mst} (h : m.right = true) {i : Nat} {r : Req} (hr : m.queue[i]? = some r) : r.ok = true := by
  simp only [Mst.right, Bool.and_eq_true] at h
  exact List.all_eq_true.1 h.1.2 r (List.mem_of_getElem? hr)
theorem Req.ok_burst {r : Req} (h : r.ok = true) : ((burstL r.addr r.size r.burst).length : Int) = AL.beats r.burst := by
  simp only [Req.ok, burstOk, Bool.and_eq_true, decide_eq_true_eq] at h
  have h1 := burstL_len r.addr r.size r.burst
  have h2 := AL.beats_bd r.burst
  omega
theorem mst_ix2 {m : Mst} {beat : Int} {r : Req} (h1 : m.right = true) (h : inB beat 0 (m.beats - 1) = true) (hq : m.queue[0]? = some r) : 0 ≤ beat ∧ beat < ((burstL r.addr r.size r.burst).length : Int) := by
  have h2 := inB_t h
  rw [Req.ok_burst (Mst.right_ok h1 hq), ← Mst.beats_at hq]
  omega
def Mst.addrAt (m : Mst) (beat : Int) : Int := if m.right && inB beat 0 (m.beats - 1) then (match m.queue[0]? with | some r => ((burstL r.addr r.size r.burst)[beat.toNat]?).getD 0 | none => 0) else -1
theorem req_not (xs : List Req) : (!xs.any (fun r => !r.ok)) = xs.all Req.ok := by
  induction xs with
  | nil => rfl
  | cons m xs ih => simp only [List.any_cons, List.all_cons, Bool.not_or, Bool.not_not, ih]
theorem req_any (xs : List Req) : xs.any (fun r => !r.ok) = !xs.all Req.ok := by rw [← req_not, Bool.not_not]

def okAt (c : Conf) (s : Script) (i : Nat) : Bool := match s.posts[i]? with
  | some p => inB p.moment 0 4000 && inB p.who 0 (c.masters.length - 1) && p.req.ok && (match i with
    | 0 => true
    | j + 1 => match s.posts[j]? with
      | some q => decide (q.moment ≤ p.moment)
      | none => true)
  | none => true
def Script.ok (s : Script) (c : Conf) : Bool := c.ok && decide (s.posts.length ≤ 20) && decide (s.waits.length ≤ 20) && decide (s.says.length ≤ 20) && (List.range s.posts.length).all (okAt c s)
theorem cast20 (n : Nat) : ((n : Int) ≤ 20) ↔ n ≤ 20 := by omega
theorem range_step {p : Nat → Bool} {i : Nat} (h : (List.range i).all p = true) (h2 : p i = true) : (List.range (i + 1)).all p = true := by
  rw [List.range_succ, List.all_append, h]; simp [h2]
theorem range_no {p : Nat → Bool} {i n : Nat} (hi : i < n) (h2 : p i = false) : (List.range n).all p = false := by
  rw [List.all_eq_false]; exact ⟨i, List.mem_range.2 hi, by simp [h2]⟩
theorem range_all {p : Nat → Bool} {i n : Nat} (h : (List.range i).all p = true) (hi : ¬ (i : Int) < n) (hn : i ≤ n) : (List.range n).all p = true := by
  have : i = n := by omega
  rw [← this]; exact h
theorem okAt_z {c : Conf} {s : Script} {i : Nat} {p : Post} (hp : s.posts[i]? = some p) (h0 : ¬ (0 : Int) < (i : Int)) : okAt c s i = (inB p.moment 0 4000 && inB p.who 0 (c.masters.length - 1) && p.req.ok) := by
  have : i = 0 := by omega
  subst this; unfold okAt; rw [hp]; simp
theorem okAt_s {c : Conf} {s : Script} {i : Nat} {p q : Post} (hp : s.posts[i]? = some p) (h0 : (0 : Int) < (i : Int)) (hq : s.posts[i - 1]? = some q) : okAt c s i = (inB p.moment 0 4000 && inB p.who 0 (c.masters.length - 1) && p.req.ok && decide (q.moment ≤ p.moment)) := by
  obtain ⟨j, rfl⟩ : ∃ j, i = j + 1 := ⟨i - 1, by omega⟩
  unfold okAt; rw [hp]; simp only [Nat.add_sub_cancel] at hq; simp [hq]
theorem okAt_n {c : Conf} {s : Script} {i : Nat} {p : Post} (hp : s.posts[i]? = some p) (h : inB p.moment 0 4000 = false ∨ inB p.who 0 (c.masters.length - 1) = false ∨ p.req.ok = false) : okAt c s i = false := by
  unfold okAt; rw [hp]
  rcases h with h | h | h <;> simp [h]

def markI (k : Int) (i : Nat) : Int := k + 1 * i
def markD1 (k : Int) : Done := ⟨k, k + 1, decide ((k + 1 + 1).tmod 3 = 0), k + 1 + 1 + 1, k + 1 + 1 + 1 + 1, k + 1 + 1 + 1 + 1 + 1, k + 1 + 1 + 1 + 1 + 1 + 1⟩
def markD (k : Int) (i : Nat) : Done := markD1 (k + 7 * i)
theorem sets2 {α : Type} (rows : List α) (i : Nat) (x y : α) : (rows.set i x).set i y = rows.set i y := List.set_set ..

theorem cg_142 (xs : List Done) (k : Int) (hl : xs.length ≤ 1048576) (hk : 0 ≤ k ∧ k ≤ 1099511627776) : GV prg 142 [.arr 7 (xs.map Done.r)] [.ls 0 xs.length, .w (.int .i64 k)] (fun u L1 => u = .w (.int .i64 (k + 7 * xs.length)) ∧ L1 = [.arr 7 (((List.range xs.length).map (markD k)).map Done.r)]) := by
  refine gv_in g142 ?_
  refine s_keep [0, 1] rfl ?_
  refine S_seq ?_
  refine s_rg ?_
  refine s_op (o_mv rfl) ?_
  refine s_nilO ?_
  refine q_seqN ?_
  refine s_keep [0, 1] rfl ?_
  refine S_seq ?_
  refine S_seq ?_
  refine s_rg ?_
  refine s_op (o_mv rfl) ?_
  refine s_nilO ?_
  refine q_seqN ?_
  refine s_keep [0, 1, 5] rfl ?_
  refine S_block ?_
  refine S_loop (ι := Nat) (fun i => i ≤ xs.length) (fun i => [(5, .w (.int .i64 (i : Int))), (1, .w (.int .i64 (k + 7 * (i : Int))))]) (fun i => [.arr 7 (mix Done.r (markD k) xs i)]) (fun i => xs.length - i) 1 0 (by simp) rfl (hasOf ⟨rfl, congrArg (fun b => some (V.w (.int .i64 b))) (by simp), trivial⟩ (by rw [mix_zero]; rfl)) rfl (fun _ _ => rfl) (fun _ _ => ⟨rfl, rfl⟩) ?_
  intro i hi
  obtain ⟨y0, hy0⟩ : ∃ y, i < xs.length → xs[i]? = some y := by
    by_cases h : i < xs.length
    · exact ⟨xs[i], fun _ => List.getElem?_eq_getElem h⟩
    · exact ⟨markD k 0, fun h2 => absurd h2 h⟩
  refine s_keep [0, 1, 5] rfl ?_
  refine S_seq ?_
  refine S_seq ?_
  refine s_rg ?_
  refine s_op (o_mv rfl) ?_
  refine s_op (o_mv rfl) ?_
  refine s_op (o_lenL rfl rfl (by (try simp only [Int.toNat_natCast, List.length_set]); first | exact List.length_map .. | exact mix_len _ _ _ _ hi)) ?_
  first | refine s_op (o_lss rfl rfl) ?_ | refine s_op (o_bin rfl rfl rfl rfl) ?_
  refine s_nilO ?_
  refine q_seqN ?_
  refine s_keep [0, 1, 5, 9] rfl ?_
  first | refine s_condD rfl ?_ ?_ | refine s_condN rfl ?_ ?_ | refine s_condNB rfl ?_ ?_ | refine s_condB rfl ?_ ?_
  · intro h1
    try rw [Decidable.not_not] at h1
    refine s_skip ?_
    refine q_seqN ?_
    refine s_keep [0, 1, 5] rfl ?_
    refine S_seq ?_
    refine S_block ?_
    refine S_seq ?_
    refine s_rg ?_
    refine s_op (o_mv rfl) ?_
    refine s_op (o_mv rfl) ?_
    refine s_op (o_mv rfl) ?_
    refine s_op (o_iaL rfl rfl (by (try simp only [Int.toNat_natCast, List.length_set]); first | exact List.length_map .. | exact mix_len _ _ _ _ hi) rfl (by omega)) ?_
    refine s_op (o_faA rfl rfl (by (try simp only [Int.toNat_natCast, List.length_set]); first | exact List.length_map .. | exact mix_len _ _ _ _ hi)) ?_
    refine s_opN (o_stA rfl rfl rfl rfl (by (try simp only [Int.toNat_natCast, List.length_set]); first | exact List.length_map .. | exact mix_len _ _ _ _ hi) (by (try rw [Int.toNat_natCast]); first | exact set_at (by (try simp only [List.length_set]); rw [mix_len _ _ _ _ hi]; omega) | exact mix_at _ _ (hy0 (by omega))) rfl rfl) ?_
    refine s_nilO ?_
    refine q_seqN ?_
    refine s_keep [0, 1, 5] rfl ?_
    refine S_seq ?_
    refine s_rg ?_
    refine s_op (o_mv rfl) ?_
    first | refine s_op (o_addn rfl rfl (by omega)) ?_ | refine s_op (o_add rfl rfl) ?_
    refine s_op (o_mv rfl) ?_
    refine s_nilO ?_
    refine q_seqN ?_
    refine s_keep [0, 1, 5] rfl ?_
    refine S_seq ?_
    refine s_rg ?_
    refine s_op (o_mv rfl) ?_
    refine s_op (o_mv rfl) ?_
    refine s_op (o_mv rfl) ?_
    refine s_op (o_iaL rfl rfl (by (try simp only [Int.toNat_natCast, List.length_set]); first | exact List.length_map .. | exact mix_len _ _ _ _ hi) rfl (by omega)) ?_
    refine s_op (o_faA rfl rfl (by (try simp only [Int.toNat_natCast, List.length_set]); first | exact List.length_map .. | exact mix_len _ _ _ _ hi)) ?_
    refine s_opN (o_stA rfl rfl rfl rfl (by (try simp only [Int.toNat_natCast, List.length_set]); first | exact List.length_map .. | exact mix_len _ _ _ _ hi) (by (try rw [Int.toNat_natCast]); first | exact set_at (by (try simp only [List.length_set]); rw [mix_len _ _ _ _ hi]; omega) | exact mix_at _ _ (hy0 (by omega))) rfl rfl) ?_
    refine s_nilO ?_
    refine q_seqN ?_
    refine s_keep [0, 1, 5] rfl ?_
    refine S_seq ?_
    refine s_rg ?_
    refine s_op (o_mv rfl) ?_
    first | refine s_op (o_addn rfl rfl (by omega)) ?_ | refine s_op (o_add rfl rfl) ?_
    refine s_op (o_mv rfl) ?_
    refine s_nilO ?_
    refine q_seqN ?_
    refine s_keep [0, 1, 5] rfl ?_
    refine S_seq ?_
    refine s_rg ?_
    refine s_op (o_mv rfl) ?_
    refine s_op (o_mv rfl) ?_
    refine s_op (o_mv rfl) ?_
    first | refine s_op (o_rem rfl rfl (by decide)) ?_ | refine s_op (o_rem rfl rfl (by omega)) ?_
    first | refine s_op (o_eql rfl rfl) ?_ | refine s_op (o_bin rfl rfl rfl rfl) ?_
    refine s_op (o_iaL rfl rfl (by (try simp only [Int.toNat_natCast, List.length_set]); first | exact List.length_map .. | exact mix_len _ _ _ _ hi) rfl (by omega)) ?_
    refine s_op (o_faA rfl rfl (by (try simp only [Int.toNat_natCast, List.length_set]); first | exact List.length_map .. | exact mix_len _ _ _ _ hi)) ?_
    refine s_opN (o_stA rfl rfl rfl rfl (by (try simp only [Int.toNat_natCast, List.length_set]); first | exact List.length_map .. | exact mix_len _ _ _ _ hi) (by (try rw [Int.toNat_natCast]); first | exact set_at (by (try simp only [List.length_set]); rw [mix_len _ _ _ _ hi]; omega) | exact mix_at _ _ (hy0 (by omega))) rfl rfl) ?_
    refine s_nilO ?_
    refine q_seqN ?_
    refine s_keep [0, 1, 5] rfl ?_
    refine S_seq ?_
    refine s_rg ?_
    refine s_op (o_mv rfl) ?_
    first | refine s_op (o_addn rfl rfl (by omega)) ?_ | refine s_op (o_add rfl rfl) ?_
    refine s_op (o_mv rfl) ?_
    refine s_nilO ?_
    refine q_seqN ?_
    refine s_keep [0, 1, 5] rfl ?_
    refine S_seq ?_
    refine s_rg ?_
    refine s_op (o_mv rfl) ?_
    refine s_op (o_mv rfl) ?_
    refine s_op (o_mv rfl) ?_
    refine s_op (o_iaL rfl rfl (by (try simp only [Int.toNat_natCast, List.length_set]); first | exact List.length_map .. | exact mix_len _ _ _ _ hi) rfl (by omega)) ?_
    refine s_op (o_faA rfl rfl (by (try simp only [Int.toNat_natCast, List.length_set]); first | exact List.length_map .. | exact mix_len _ _ _ _ hi)) ?_
    refine s_opN (o_stA rfl rfl rfl rfl (by (try simp only [Int.toNat_natCast, List.length_set]); first | exact List.length_map .. | exact mix_len _ _ _ _ hi) (by (try rw [Int.toNat_natCast]); first | exact set_at (by (try simp only [List.length_set]); rw [mix_len _ _ _ _ hi]; omega) | exact mix_at _ _ (hy0 (by omega))) rfl rfl) ?_
    refine s_nilO ?_
    refine q_seqN ?_
    refine s_keep [0, 1, 5] rfl ?_
    refine S_seq ?_
    refine s_rg ?_
    refine s_op (o_mv rfl) ?_
    first | refine s_op (o_addn rfl rfl (by omega)) ?_ | refine s_op (o_add rfl rfl) ?_
    refine s_op (o_mv rfl) ?_
    refine s_nilO ?_
    refine q_seqN ?_
    refine s_keep [0, 1, 5] rfl ?_
    refine S_seq ?_
    refine s_rg ?_
    refine s_op (o_mv rfl) ?_
    refine s_op (o_mv rfl) ?_
    refine s_op (o_mv rfl) ?_
    refine s_op (o_iaL rfl rfl (by (try simp only [Int.toNat_natCast, List.length_set]); first | exact List.length_map .. | exact mix_len _ _ _ _ hi) rfl (by omega)) ?_
    refine s_op (o_faA rfl rfl (by (try simp only [Int.toNat_natCast, List.length_set]); first | exact List.length_map .. | exact mix_len _ _ _ _ hi)) ?_
    refine s_opN (o_stA rfl rfl rfl rfl (by (try simp only [Int.toNat_natCast, List.length_set]); first | exact List.length_map .. | exact mix_len _ _ _ _ hi) (by (try rw [Int.toNat_natCast]); first | exact set_at (by (try simp only [List.length_set]); rw [mix_len _ _ _ _ hi]; omega) | exact mix_at _ _ (hy0 (by omega))) rfl rfl) ?_
    refine s_nilO ?_
    refine q_seqN ?_
    refine s_keep [0, 1, 5] rfl ?_
    refine S_seq ?_
    refine s_rg ?_
    refine s_op (o_mv rfl) ?_
    first | refine s_op (o_addn rfl rfl (by omega)) ?_ | refine s_op (o_add rfl rfl) ?_
    refine s_op (o_mv rfl) ?_
    refine s_nilO ?_
    refine q_seqN ?_
    refine s_keep [0, 1, 5] rfl ?_
    refine S_seq ?_
    refine s_rg ?_
    refine s_op (o_mv rfl) ?_
    refine s_op (o_mv rfl) ?_
    refine s_op (o_mv rfl) ?_
    refine s_op (o_iaL rfl rfl (by (try simp only [Int.toNat_natCast, List.length_set]); first | exact List.length_map .. | exact mix_len _ _ _ _ hi) rfl (by omega)) ?_
    refine s_op (o_faA rfl rfl (by (try simp only [Int.toNat_natCast, List.length_set]); first | exact List.length_map .. | exact mix_len _ _ _ _ hi)) ?_
    refine s_opN (o_stA rfl rfl rfl rfl (by (try simp only [Int.toNat_natCast, List.length_set]); first | exact List.length_map .. | exact mix_len _ _ _ _ hi) (by (try rw [Int.toNat_natCast]); first | exact set_at (by (try simp only [List.length_set]); rw [mix_len _ _ _ _ hi]; omega) | exact mix_at _ _ (hy0 (by omega))) rfl rfl) ?_
    refine s_nilO ?_
    refine q_seqN ?_
    refine s_keep [0, 1, 5] rfl ?_
    refine S_seq ?_
    refine s_rg ?_
    refine s_op (o_mv rfl) ?_
    first | refine s_op (o_addn rfl rfl (by omega)) ?_ | refine s_op (o_add rfl rfl) ?_
    refine s_op (o_mv rfl) ?_
    refine s_nilO ?_
    refine q_seqN ?_
    refine s_keep [0, 1, 5] rfl ?_
    refine S_seq ?_
    refine s_rg ?_
    refine s_op (o_mv rfl) ?_
    refine s_op (o_mv rfl) ?_
    refine s_op (o_mv rfl) ?_
    refine s_op (o_iaL rfl rfl (by (try simp only [Int.toNat_natCast, List.length_set]); first | exact List.length_map .. | exact mix_len _ _ _ _ hi) rfl (by omega)) ?_
    refine s_op (o_faA rfl rfl (by (try simp only [Int.toNat_natCast, List.length_set]); first | exact List.length_map .. | exact mix_len _ _ _ _ hi)) ?_
    refine s_opN (o_stA rfl rfl rfl rfl (by (try simp only [Int.toNat_natCast, List.length_set]); first | exact List.length_map .. | exact mix_len _ _ _ _ hi) (by (try rw [Int.toNat_natCast]); first | exact set_at (by (try simp only [List.length_set]); rw [mix_len _ _ _ _ hi]; omega) | exact mix_at _ _ (hy0 (by omega))) rfl rfl) ?_
    refine s_nilO ?_
    refine q_seqN ?_
    refine s_keep [0, 1, 5] rfl ?_
    refine s_rg ?_
    refine s_op (o_mv rfl) ?_
    first | refine s_op (o_addn rfl rfl (by omega)) ?_ | refine s_op (o_add rfl rfl) ?_
    refine s_op (o_mv rfl) ?_
    refine s_nilO ?_
    refine q_blkN ?_
    refine q_seqN ?_
    refine s_keep [0, 1, 5] rfl ?_
    refine s_rg ?_
    refine s_op (o_mv rfl) ?_
    first | refine s_op (o_addn rfl rfl (by omega)) ?_ | refine s_op (o_add rfl rfl) ?_
    refine s_op (o_mv rfl) ?_
    refine s_nilO ?_
    refine q_loopN ?_
    refine ⟨i + 1, by omega, by omega, hasOf ⟨rfl, congrArg (fun b => some (V.w (.int .i64 b))) (by omega), trivial⟩ ?_⟩
    simp only [Int.toNat_natCast, sets2]
    rw [← mix_set _ _ (by assumption)]; rfl
  · intro h1
    try rw [Decidable.not_not] at h1
    refine s_exit ?_
    refine q_seqX ?_
    refine q_loopX ?_
    refine q_blkH ?_
    refine q_seqN ?_
    refine s_keep [1] rfl ?_
    refine S_seq ?_
    refine s_rg ?_
    refine s_op (o_mv rfl) ?_
    refine s_op (o_mv rfl) ?_
    refine s_nilO ?_
    refine q_seqN ?_
    refine s_keep [4] rfl ?_
    refine s_ret ?_
    refine retG_leaf [] (.inr rfl) rfl rfl rfl rfl (show (List.range 1 ++ []).Nodup by decide) ?_
    exact ⟨by rw [show (i : Int) = xs.length by omega], by rw [mix_end _ _ _ (by assumption) hi]⟩

theorem c_141 (n : Nat) (k : Int) (hl : n ≤ 1048576) (hk : 0 ≤ k ∧ k ≤ 1099511627776) : CV prg 141 [.sl 7 (((List.range n).map (markD k)).map Done.r), .w (.int .i64 k)] (fun res => res = .w (.int .i64 (k + 7 * n))) := by
  have hln : ((List.range n).map (markD k)).length = n := by simp
  refine cv_in g141 ?_
  refine s_keep [0, 1] rfl ?_
  refine S_seq ?_
  refine s_rg ?_
  refine s_op (o_mv rfl) ?_
  refine s_nilO ?_
  refine q_seqN ?_
  refine s_keep [0, 1] rfl ?_
  refine S_seq ?_
  refine S_seq ?_
  refine s_rg ?_
  refine s_op (o_mv rfl) ?_
  refine s_nilO ?_
  refine q_seqN ?_
  refine s_keep [0, 1, 5] rfl ?_
  refine S_block ?_
  refine S_loop0 (ι := Nat) (fun i => i ≤ n) (fun i => [(5, .w (.int .i64 (i : Int))), (1, .w (.int .i64 (k + 7 * (i : Int))))]) (fun i => n - i) 0 (by simp) rfl ⟨rfl, congrArg (fun b => some (V.w (.int .i64 b))) (by simp), trivial⟩ (fun _ _ => rfl) rfl ?_
  intro i hi
  refine s_keep [0, 1, 5] rfl ?_
  refine S_seq ?_
  refine S_seq ?_
  refine s_rg ?_
  refine s_op (o_mv rfl) ?_
  refine s_op (o_mv rfl) ?_
  first | refine s_op (o_lenM rfl) ?_ | refine s_op (o_len rfl) ?_
  first | refine s_op (o_lss rfl rfl) ?_ | refine s_op (o_bin rfl rfl rfl rfl) ?_
  refine s_nilO ?_
  refine q_seqN ?_
  refine s_keep [0, 1, 5, 9] rfl ?_
  first | refine s_condD rfl ?_ ?_ | refine s_condN rfl ?_ ?_ | refine s_condNB rfl ?_ ?_ | refine s_condB rfl ?_ ?_
  · intro h1
    try rw [Decidable.not_not] at h1
    refine s_skip ?_
    refine q_seqN ?_
    refine s_keep [0, 1, 5] rfl ?_
    refine S_seq ?_
    refine S_block ?_
    refine S_seq ?_
    refine S_seq ?_
    refine s_rg ?_
    refine s_op (o_mv rfl) ?_
    refine s_op (o_mv rfl) ?_
    refine s_iaM rfl rfl (by omega) ?_
    intro y2 e2
    simp only [Int.toNat_natCast] at e2; obtain rfl := mks_at e2
    refine s_op (o_fa rfl) ?_
    refine s_op (o_ld rfl rfl) ?_
    refine s_op (o_mv rfl) ?_
    first | refine s_op (o_neq rfl rfl) ?_ | refine s_op (o_bin rfl rfl rfl rfl) ?_
    refine s_nilO ?_
    refine q_seqN ?_
    refine s_keep [0, 1, 5, 18] rfl ?_
    first | refine s_condD rfl ?_ ?_ | refine s_condN rfl ?_ ?_ | refine s_condNB rfl ?_ ?_ | refine s_condB rfl ?_ ?_
    · intro h3
      try rw [Decidable.not_not] at h3
      refine S_seq ?_
      refine s_rg ?_
      refine s_op (o_mv rfl) ?_
      refine s_nilO ?_
      refine q_seqN ?_
      refine s_keep [4] rfl ?_
      refine s_ret ?_
      refine q_seqR ?_
      refine q_blkR ?_
      refine q_seqR ?_
      refine q_loopR ?_
      refine q_blkR ?_
      refine q_seqR ?_
      refine ret_leaf (.inr rfl) rfl rfl ?_
      refine congrArg (fun b => V.w (.int .i64 b)) ?_
      first | (rw [show (i : Int) = n by omega]; done) | (exfalso; first | exact absurd rfl (by assumption) | (simp_all [markD]; done) | (simp_all [markD, markD1]; done))
    · intro h3
      try rw [Decidable.not_not] at h3
      refine s_skip ?_
      refine q_seqN ?_
      refine s_keep [0, 1, 5] rfl ?_
      refine S_seq ?_
      refine s_rg ?_
      refine s_op (o_mv rfl) ?_
      first | refine s_op (o_addn rfl rfl (by omega)) ?_ | refine s_op (o_add rfl rfl) ?_
      refine s_op (o_mv rfl) ?_
      refine s_nilO ?_
      refine q_seqN ?_
      refine s_keep [0, 1, 5] rfl ?_
      refine S_seq ?_
      refine S_seq ?_
      refine s_rg ?_
      refine s_op (o_mv rfl) ?_
      refine s_op (o_mv rfl) ?_
      refine s_iaM rfl rfl (by omega) ?_
      intro y4 e4
      simp only [Int.toNat_natCast] at e4; obtain rfl := mks_at e4
      refine s_op (o_fa rfl) ?_
      refine s_op (o_ld rfl rfl) ?_
      refine s_op (o_mv rfl) ?_
      first | refine s_op (o_neq rfl rfl) ?_ | refine s_op (o_bin rfl rfl rfl rfl) ?_
      refine s_nilO ?_
      refine q_seqN ?_
      refine s_keep [0, 1, 5, 27] rfl ?_
      first | refine s_condD rfl ?_ ?_ | refine s_condN rfl ?_ ?_ | refine s_condNB rfl ?_ ?_ | refine s_condB rfl ?_ ?_
      · intro h5
        try rw [Decidable.not_not] at h5
        refine S_seq ?_
        refine s_rg ?_
        refine s_op (o_mv rfl) ?_
        refine s_nilO ?_
        refine q_seqN ?_
        refine s_keep [4] rfl ?_
        refine s_ret ?_
        refine q_seqR ?_
        refine q_blkR ?_
        refine q_seqR ?_
        refine q_loopR ?_
        refine q_blkR ?_
        refine q_seqR ?_
        refine ret_leaf (.inr rfl) rfl rfl ?_
        refine congrArg (fun b => V.w (.int .i64 b)) ?_
        first | (rw [show (i : Int) = n by omega]; done) | (exfalso; first | exact absurd rfl (by assumption) | (simp_all [markD]; done) | (simp_all [markD, markD1]; done))
      · intro h5
        try rw [Decidable.not_not] at h5
        refine s_skip ?_
        refine q_seqN ?_
        refine s_keep [0, 1, 5] rfl ?_
        refine S_seq ?_
        refine s_rg ?_
        refine s_op (o_mv rfl) ?_
        first | refine s_op (o_addn rfl rfl (by omega)) ?_ | refine s_op (o_add rfl rfl) ?_
        refine s_op (o_mv rfl) ?_
        refine s_nilO ?_
        refine q_seqN ?_
        refine s_keep [0, 1, 5] rfl ?_
        refine S_seq ?_
        refine S_seq ?_
        refine s_rg ?_
        refine s_op (o_mv rfl) ?_
        refine s_op (o_mv rfl) ?_
        refine s_iaM rfl rfl (by omega) ?_
        intro y6 e6
        simp only [Int.toNat_natCast] at e6; obtain rfl := mks_at e6
        refine s_op (o_fa rfl) ?_
        refine s_op (o_ld rfl rfl) ?_
        refine s_op (o_mv rfl) ?_
        first | refine s_op (o_rem rfl rfl (by decide)) ?_ | refine s_op (o_rem rfl rfl (by omega)) ?_
        first | refine s_op (o_eql rfl rfl) ?_ | refine s_op (o_bin rfl rfl rfl rfl) ?_
        refine s_op (o_eqb rfl rfl) ?_
        refine s_nilO ?_
        refine q_seqN ?_
        refine s_keep [0, 1, 5, 38] rfl ?_
        first | refine s_condD rfl ?_ ?_ | refine s_condN rfl ?_ ?_ | refine s_condNB rfl ?_ ?_ | refine s_condB rfl ?_ ?_
        · intro h7
          try rw [Decidable.not_not] at h7
          refine S_seq ?_
          refine s_rg ?_
          refine s_op (o_mv rfl) ?_
          refine s_nilO ?_
          refine q_seqN ?_
          refine s_keep [4] rfl ?_
          refine s_ret ?_
          refine q_seqR ?_
          refine q_blkR ?_
          refine q_seqR ?_
          refine q_loopR ?_
          refine q_blkR ?_
          refine q_seqR ?_
          refine ret_leaf (.inr rfl) rfl rfl ?_
          refine congrArg (fun b => V.w (.int .i64 b)) ?_
          first | (rw [show (i : Int) = n by omega]; done) | (exfalso; first | exact absurd rfl (by assumption) | (simp_all [markD]; done) | (simp_all [markD, markD1]; done))
        · intro h7
          try rw [Decidable.not_not] at h7
          refine s_skip ?_
          refine q_seqN ?_
          refine s_keep [0, 1, 5] rfl ?_
          refine S_seq ?_
          refine s_rg ?_
          refine s_op (o_mv rfl) ?_
          first | refine s_op (o_addn rfl rfl (by omega)) ?_ | refine s_op (o_add rfl rfl) ?_
          refine s_op (o_mv rfl) ?_
          refine s_nilO ?_
          refine q_seqN ?_
          refine s_keep [0, 1, 5] rfl ?_
          refine S_seq ?_
          refine S_seq ?_
          refine s_rg ?_
          refine s_op (o_mv rfl) ?_
          refine s_op (o_mv rfl) ?_
          refine s_iaM rfl rfl (by omega) ?_
          intro y8 e8
          simp only [Int.toNat_natCast] at e8; obtain rfl := mks_at e8
          refine s_op (o_fa rfl) ?_
          refine s_op (o_ld rfl rfl) ?_
          refine s_op (o_mv rfl) ?_
          first | refine s_op (o_neq rfl rfl) ?_ | refine s_op (o_bin rfl rfl rfl rfl) ?_
          refine s_nilO ?_
          refine q_seqN ?_
          refine s_keep [0, 1, 5, 47] rfl ?_
          first | refine s_condD rfl ?_ ?_ | refine s_condN rfl ?_ ?_ | refine s_condNB rfl ?_ ?_ | refine s_condB rfl ?_ ?_
          · intro h9
            try rw [Decidable.not_not] at h9
            refine S_seq ?_
            refine s_rg ?_
            refine s_op (o_mv rfl) ?_
            refine s_nilO ?_
            refine q_seqN ?_
            refine s_keep [4] rfl ?_
            refine s_ret ?_
            refine q_seqR ?_
            refine q_blkR ?_
            refine q_seqR ?_
            refine q_loopR ?_
            refine q_blkR ?_
            refine q_seqR ?_
            refine ret_leaf (.inr rfl) rfl rfl ?_
            refine congrArg (fun b => V.w (.int .i64 b)) ?_
            first | (rw [show (i : Int) = n by omega]; done) | (exfalso; first | exact absurd rfl (by assumption) | (simp_all [markD]; done) | (simp_all [markD, markD1]; done))
          · intro h9
            try rw [Decidable.not_not] at h9
            refine s_skip ?_
            refine q_seqN ?_
            refine s_keep [0, 1, 5] rfl ?_
            refine S_seq ?_
            refine s_rg ?_
            refine s_op (o_mv rfl) ?_
            first | refine s_op (o_addn rfl rfl (by omega)) ?_ | refine s_op (o_add rfl rfl) ?_
            refine s_op (o_mv rfl) ?_
            refine s_nilO ?_
            refine q_seqN ?_
            refine s_keep [0, 1, 5] rfl ?_
            refine S_seq ?_
            refine S_seq ?_
            refine s_rg ?_
            refine s_op (o_mv rfl) ?_
            refine s_op (o_mv rfl) ?_
            refine s_iaM rfl rfl (by omega) ?_
            intro y10 e10
            simp only [Int.toNat_natCast] at e10; obtain rfl := mks_at e10
            refine s_op (o_fa rfl) ?_
            refine s_op (o_ld rfl rfl) ?_
            refine s_op (o_mv rfl) ?_
            first | refine s_op (o_neq rfl rfl) ?_ | refine s_op (o_bin rfl rfl rfl rfl) ?_
            refine s_nilO ?_
            refine q_seqN ?_
            refine s_keep [0, 1, 5, 56] rfl ?_
            first | refine s_condD rfl ?_ ?_ | refine s_condN rfl ?_ ?_ | refine s_condNB rfl ?_ ?_ | refine s_condB rfl ?_ ?_
            · intro h11
              try rw [Decidable.not_not] at h11
              refine S_seq ?_
              refine s_rg ?_
              refine s_op (o_mv rfl) ?_
              refine s_nilO ?_
              refine q_seqN ?_
              refine s_keep [4] rfl ?_
              refine s_ret ?_
              refine q_seqR ?_
              refine q_blkR ?_
              refine q_seqR ?_
              refine q_loopR ?_
              refine q_blkR ?_
              refine q_seqR ?_
              refine ret_leaf (.inr rfl) rfl rfl ?_
              refine congrArg (fun b => V.w (.int .i64 b)) ?_
              first | (rw [show (i : Int) = n by omega]; done) | (exfalso; first | exact absurd rfl (by assumption) | (simp_all [markD]; done) | (simp_all [markD, markD1]; done))
            · intro h11
              try rw [Decidable.not_not] at h11
              refine s_skip ?_
              refine q_seqN ?_
              refine s_keep [0, 1, 5] rfl ?_
              refine S_seq ?_
              refine s_rg ?_
              refine s_op (o_mv rfl) ?_
              first | refine s_op (o_addn rfl rfl (by omega)) ?_ | refine s_op (o_add rfl rfl) ?_
              refine s_op (o_mv rfl) ?_
              refine s_nilO ?_
              refine q_seqN ?_
              refine s_keep [0, 1, 5] rfl ?_
              refine S_seq ?_
              refine S_seq ?_
              refine s_rg ?_
              refine s_op (o_mv rfl) ?_
              refine s_op (o_mv rfl) ?_
              refine s_iaM rfl rfl (by omega) ?_
              intro y12 e12
              simp only [Int.toNat_natCast] at e12; obtain rfl := mks_at e12
              refine s_op (o_fa rfl) ?_
              refine s_op (o_ld rfl rfl) ?_
              refine s_op (o_mv rfl) ?_
              first | refine s_op (o_neq rfl rfl) ?_ | refine s_op (o_bin rfl rfl rfl rfl) ?_
              refine s_nilO ?_
              refine q_seqN ?_
              refine s_keep [0, 1, 5, 65] rfl ?_
              first | refine s_condD rfl ?_ ?_ | refine s_condN rfl ?_ ?_ | refine s_condNB rfl ?_ ?_ | refine s_condB rfl ?_ ?_
              · intro h13
                try rw [Decidable.not_not] at h13
                refine S_seq ?_
                refine s_rg ?_
                refine s_op (o_mv rfl) ?_
                refine s_nilO ?_
                refine q_seqN ?_
                refine s_keep [4] rfl ?_
                refine s_ret ?_
                refine q_seqR ?_
                refine q_blkR ?_
                refine q_seqR ?_
                refine q_loopR ?_
                refine q_blkR ?_
                refine q_seqR ?_
                refine ret_leaf (.inr rfl) rfl rfl ?_
                refine congrArg (fun b => V.w (.int .i64 b)) ?_
                first | (rw [show (i : Int) = n by omega]; done) | (exfalso; first | exact absurd rfl (by assumption) | (simp_all [markD]; done) | (simp_all [markD, markD1]; done))
              · intro h13
                try rw [Decidable.not_not] at h13
                refine s_skip ?_
                refine q_seqN ?_
                refine s_keep [0, 1, 5] rfl ?_
                refine S_seq ?_
                refine s_rg ?_
                refine s_op (o_mv rfl) ?_
                first | refine s_op (o_addn rfl rfl (by omega)) ?_ | refine s_op (o_add rfl rfl) ?_
                refine s_op (o_mv rfl) ?_
                refine s_nilO ?_
                refine q_seqN ?_
                refine s_keep [0, 1, 5] rfl ?_
                refine S_seq ?_
                refine S_seq ?_
                refine s_rg ?_
                refine s_op (o_mv rfl) ?_
                refine s_op (o_mv rfl) ?_
                refine s_iaM rfl rfl (by omega) ?_
                intro y14 e14
                simp only [Int.toNat_natCast] at e14; obtain rfl := mks_at e14
                refine s_op (o_fa rfl) ?_
                refine s_op (o_ld rfl rfl) ?_
                refine s_op (o_mv rfl) ?_
                first | refine s_op (o_neq rfl rfl) ?_ | refine s_op (o_bin rfl rfl rfl rfl) ?_
                refine s_nilO ?_
                refine q_seqN ?_
                refine s_keep [0, 1, 5, 74] rfl ?_
                first | refine s_condD rfl ?_ ?_ | refine s_condN rfl ?_ ?_ | refine s_condNB rfl ?_ ?_ | refine s_condB rfl ?_ ?_
                · intro h15
                  try rw [Decidable.not_not] at h15
                  refine S_seq ?_
                  refine s_rg ?_
                  refine s_op (o_mv rfl) ?_
                  refine s_nilO ?_
                  refine q_seqN ?_
                  refine s_keep [4] rfl ?_
                  refine s_ret ?_
                  refine q_seqR ?_
                  refine q_blkR ?_
                  refine q_seqR ?_
                  refine q_loopR ?_
                  refine q_blkR ?_
                  refine q_seqR ?_
                  refine ret_leaf (.inr rfl) rfl rfl ?_
                  refine congrArg (fun b => V.w (.int .i64 b)) ?_
                  first | (rw [show (i : Int) = n by omega]; done) | (exfalso; first | exact absurd rfl (by assumption) | (simp_all [markD]; done) | (simp_all [markD, markD1]; done))
                · intro h15
                  try rw [Decidable.not_not] at h15
                  refine s_skip ?_
                  refine q_seqN ?_
                  refine s_keep [0, 1, 5] rfl ?_
                  refine s_rg ?_
                  refine s_op (o_mv rfl) ?_
                  first | refine s_op (o_addn rfl rfl (by omega)) ?_ | refine s_op (o_add rfl rfl) ?_
                  refine s_op (o_mv rfl) ?_
                  refine s_nilO ?_
                  refine q_blkN ?_
                  refine q_seqN ?_
                  refine s_keep [0, 1, 5] rfl ?_
                  refine s_rg ?_
                  refine s_op (o_mv rfl) ?_
                  first | refine s_op (o_addn rfl rfl (by omega)) ?_ | refine s_op (o_add rfl rfl) ?_
                  refine s_op (o_mv rfl) ?_
                  refine s_nilO ?_
                  refine q_loopN ?_
                  exact ⟨i + 1, by omega, by omega, hasOf ⟨rfl, congrArg (fun b => some (V.w (.int .i64 b))) (by omega), trivial⟩ rfl⟩
  · intro h1
    try rw [Decidable.not_not] at h1
    refine s_exit ?_
    refine q_seqX ?_
    refine q_loopX ?_
    refine q_blkH ?_
    refine q_seqN ?_
    refine s_keep [1] rfl ?_
    refine S_seq ?_
    refine s_rg ?_
    refine s_op (o_mv rfl) ?_
    refine s_op (o_mv rfl) ?_
    refine s_nilO ?_
    refine q_seqN ?_
    refine s_keep [4] rfl ?_
    refine s_ret ?_
    refine ret_leaf (.inr rfl) rfl rfl ?_
    refine congrArg (fun b => V.w (.int .i64 b)) ?_
    first | (rw [show (i : Int) = n by omega]; done) | (exfalso; first | exact absurd rfl (by assumption) | (simp_all [markD]; done) | (simp_all [markD, markD1]; done))

theorem words_map {α : Type} (k : Nat) {r : α → List V} (xs : List α) (h : ∀ y v, v ∈ r y → ∃ x, v = .w x) : (LB.arr k (xs.map r)).words := by
  intro row hrow v hv
  obtain ⟨y, _, rfl⟩ := List.mem_map.1 hrow
  exact h y v hv
def bdAt (r : Req) (i : Nat) : Done := ⟨0, 0, r.write, ((burstL r.addr r.size r.burst)[i]?).getD 0, r.size, if r.write then ((r.data[i]?).getD 0) else 0, 0⟩
def beatsR (r : Req) : List Done := if r.ok then (List.range (burstL r.addr r.size r.burst).length).map (bdAt r) else []
theorem beatsR_len (r : Req) : (beatsR r).length ≤ 8 := by
  unfold beatsR
  split
  · simp; exact burstL_le ..
  · simp
theorem ok_data {r : Req} (h : r.ok = true) (hw : r.write = true) : r.data.length = (burstL r.addr r.size r.burst).length := by
  have h1 := Req.ok_burst h
  simp only [Req.ok, Bool.and_eq_true, decide_eq_true_eq] at h
  have h2 := h.1.2
  rw [if_pos hw] at h2
  omega
theorem beatsR_end {r : Req} {i : Nat} (hi : i ≤ (burstL r.addr r.size r.burst).length ∧ (i = 0 ∨ r.ok = true)) (h : (burstL r.addr r.size r.burst).length ≤ i ∨ r.ok = false) : V.sl 7 (((List.range i).map (bdAt r)).map Done.r) = .sl 7 ((beatsR r).map Done.r) := by
  unfold beatsR
  cases hk : r.ok with
  | true =>
    rw [hk] at h
    have : i = (burstL r.addr r.size r.burst).length := by rcases h with h | h <;> simp_all; omega
    rw [if_pos rfl, this]
  | false =>
    have : i = 0 := by rcases hi.2 with h | h <;> simp_all
    rw [this]; rfl
theorem bd_step (r : Req) (i : Nat) : ((List.range (i + 1)).map (bdAt r)).map Done.r = ((List.range i).map (bdAt r)).map Done.r ++ [Done.r (bdAt r i)] := by
  rw [List.range_succ, List.map_append, List.map_append]; rfl
theorem bd_w {r : Req} {i : Nat} {a d : Int} (ha : (burstL r.addr r.size r.burst)[i]? = some a) (hw : r.write = true) (hd : r.data[i]? = some d) : Done.r (bdAt r i) = Done.r ⟨0, 0, r.write, a, r.size, d, 0⟩ := by
  unfold bdAt; rw [ha, hd, if_pos hw]; rfl
theorem bd_r {r : Req} {i : Nat} {a : Int} (ha : (burstL r.addr r.size r.burst)[i]? = some a) (hw : r.write = false) : Done.r (bdAt r i) = Done.r ⟨0, 0, r.write, a, r.size, 0, 0⟩ := by
  unfold bdAt; rw [ha, if_neg (by rw [hw]; decide)]; rfl

def Wrr.hit (w : Wrr) (req : List Bool) (i : Nat) : Bool := (req[((w.pos + ((i : Int) + 1)).tmod req.length).toNat]?).getD false
def Wrr.pick (w : Wrr) (c : Conf) (req : List Bool) : Wrr × Int := if w.ok c && decide (req.length = c.masters.length) then
    (if decide (0 < w.credit) && (req[w.pos.toNat]?).getD false then (⟨w.pos, IntKind.wrap .i64 (w.credit - 1)⟩, w.pos)
     else match (List.range req.length).find? (w.hit req) with
      | some i => (⟨(w.pos + ((i : Int) + 1)).tmod req.length, IntKind.wrap .i64 (c.turn ((w.pos + ((i : Int) + 1)).tmod req.length) - 1)⟩, (w.pos + ((i : Int) + 1)).tmod req.length)
      | none => (⟨w.pos, 0⟩, -1))
  else (w, -1)
theorem wrr_ok {w : Wrr} {c : Conf} (h : w.ok c = true) : 0 ≤ w.pos ∧ w.pos < c.masters.length := by
  unfold Wrr.ok at h
  simp_all [inB]
  omega
theorem find_range {p : Nat → Bool} {i n : Nat} (h0 : (List.range i).find? p = none) (hi : i < n) (hp : p i = true) : (List.range n).find? p = some i := by
  have e : n = i + (n - i) := by omega
  rw [e, List.range_add, List.find?_append, h0]
  have : n - i = (n - i - 1) + 1 := by omega
  rw [this, List.range_succ_eq_map]
  simp [hp]
def tupW (p : Wrr × Int) : V := .tup [.agg p.1.r, .w (.int .i64 p.2)]
theorem pick_no {w : Wrr} {c : Conf} {req : List Bool} (h : w.ok c = false ∨ ¬ (req.length : Int) = c.masters.length) : w.pick c req = (w, -1) := by
  unfold Wrr.pick
  rw [if_neg]
  simp only [Bool.and_eq_true, decide_eq_true_eq]
  rintro ⟨h1, h2⟩
  rcases h with h | h
  · rw [h] at h1; cases h1
  · exact h (by omega)
theorem pick_stay {w : Wrr} {c : Conf} {req : List Bool} (h1 : w.ok c = true) (h2 : (req.length : Int) = c.masters.length) (h3 : 0 < w.credit) (h4 : req[w.pos.toNat]? = some true) : w.pick c req = (⟨w.pos, IntKind.wrap .i64 (w.credit - 1)⟩, w.pos) := by
  unfold Wrr.pick
  rw [if_pos (by simp [h1]; omega), if_pos (by simp [h3, h4])]
theorem pick_hit {w : Wrr} {c : Conf} {req : List Bool} {i : Nat} {n : Int} (hn : n = req.length) (h1 : w.ok c = true) (h2 : (req.length : Int) = c.masters.length) (h3 : ¬ 0 < w.credit ∨ req[w.pos.toNat]? = some false) (h0 : (List.range i).find? (w.hit req) = none) (hi : i < req.length)
    (h4 : req[((w.pos + ((i : Int) + 1)).tmod n).toNat]? = some true) : w.pick c req = (⟨(w.pos + ((i : Int) + 1)).tmod n, IntKind.wrap .i64 (c.turn ((w.pos + ((i : Int) + 1)).tmod n) - 1)⟩, (w.pos + ((i : Int) + 1)).tmod n) := by
  subst hn
  unfold Wrr.pick
  rw [if_pos (by simp [h1]; omega), if_neg (by rcases h3 with h | h <;> simp [h]), find_range h0 hi (by unfold Wrr.hit; rw [h4]; rfl)]
theorem pick_none {w : Wrr} {c : Conf} {req : List Bool} {i : Nat} (h1 : w.ok c = true) (h2 : (req.length : Int) = c.masters.length) (h3 : ¬ 0 < w.credit ∨ req[w.pos.toNat]? = some false) (h0 : (List.range i).find? (w.hit req) = none) (hi : i = req.length) : w.pick c req = (⟨w.pos, 0⟩, -1) := by
  subst hi
  unfold Wrr.pick
  rw [if_pos (by simp [h1]; omega), if_neg (by rcases h3 with h | h <;> simp [h]), h0]
theorem hit_next {w : Wrr} {req : List Bool} {i : Nat} {n : Int} (hn : n = req.length) (h0 : (List.range i).find? (w.hit req) = none) (h4 : req[((w.pos + ((i : Int) + 1)).tmod n).toNat]? = some false) : (List.range (i + 1)).find? (w.hit req) = none := by
  subst hn
  rw [List.range_succ, List.find?_append, h0]
  simp [Wrr.hit, h4]

def band (a b : Int) : Int := IntKind.wrap .i64 ((BitVec.ofInt 64 a &&& BitVec.ofInt 64 b).toNat : Nat)
def bxor (a b : Int) : Int := IntKind.wrap .i64 ((BitVec.ofInt 64 a ^^^ BitVec.ofInt 64 b).toNat : Nat)
theorem o_band {G : Prg} {q : Bool} {tl : Tl} {L : List LB} {x y a b} (hx : evE tl x = some (.w (.int .i64 a))) (hy : evE tl y = some (.w (.int .i64 b))) : OpV G q (.bin .and x y) tl L (some (.w (.int .i64 (band a b)))) L :=
  o_bin hx hy rfl rfl
theorem o_bxor {G : Prg} {q : Bool} {tl : Tl} {L : List LB} {x y a b} (hx : evE tl x = some (.w (.int .i64 a))) (hy : evE tl y = some (.w (.int .i64 b))) : OpV G q (.bin .xor x y) tl L (some (.w (.int .i64 (bxor a b)))) L :=
  o_bin hx hy rfl rfl
theorem band_bd (a : Int) : 0 ≤ band a 255 ∧ band a 255 ≤ 255 := by
  have h : (BitVec.ofInt 64 a &&& BitVec.ofInt 64 255).toNat ≤ 255 := by
    rw [BitVec.toNat_and]
    exact Nat.le_trans Nat.and_le_right (by decide)
  unfold band
  rw [wrap_in _ (by omega)]
  omega
def cur (code : List Int) (i h : Int) : LB := .cell [.sl 1 (code.map uR), .w (.int .i64 i), .w (.int .i64 h)]
theorem tmod_bd {x n : Int} (hx : 0 ≤ x) (hn : 0 < n) : 0 ≤ x.tmod n ∧ x.tmod n < n := ⟨Int.tmod_nonneg _ hx, Int.tmod_lt_of_pos _ hn⟩

def unI : List (List V) → Option (List Int)
  | [] => some []
  | [.w (.int .i64 x)] :: l => match unI l with
    | some r => some (x :: r)
    | none => none
  | _ => none
theorem unI_inv : ∀ {l : List (List V)} {r : List Int}, unI l = some r → l = r.map iR
  | [], r, h => by simp [unI] at h; subst h; rfl
  | a :: l, r, h => by
    unfold unI at h
    split at h
    · rename_i h1; cases h1
    · rename_i x l' e
      injection e with e1 e2
      subst e1 e2
      split at h
      · rename_i r' h1; cases h; rw [unI_inv h1]; rfl
      · cases h
    · cases h
theorem words_iR (rows : List (List V)) (xs : List Int) (h : unI rows = some xs) : ∀ lb, lb ∈ [LB.arr 1 rows] → lb.words := by
  intro lb hlb
  rw [List.mem_singleton] at hlb
  subst hlb
  rw [unI_inv h]
  intro r hr v hv
  obtain ⟨y, _, rfl⟩ := List.mem_map.1 hr
  simp [iR] at hv
  exact ⟨_, hv⟩

theorem cv_cast {G : Prg} {f : Nat} {us us1 : List V} {post : V → Prop} (h : CV G f us post) (e : us = us1) : CV G f us1 post := e ▸ h
theorem get_map {α β : Type} {f : α → β} {xs : List α} {i : Nat} {m : α} (h : xs[i]? = some m) : (xs.map f)[i]? = some (f m) := by rw [List.getElem?_map, h]; rfl
theorem get_ex {α : Type} {xs : List α} {k : Int} (h0 : 0 ≤ k) (h1 : k < xs.length) : ∃ m, xs[k.toNat]? = some m := ⟨_, List.getElem?_eq_getElem (by omega)⟩
theorem MConf_snoc (ms : List MConf) (w : Int) : (ms ++ [(⟨w, false, 0, 0⟩ : MConf)]).map MConf.r = ms.map MConf.r ++ [[.w (.int .i64 w), .w (.bool false), .w (.int .i64 0), .w (.int .i64 0)]] := by rw [List.map_append]; rfl

theorem add_tmod_r {k n : Int} (h0 : 0 ≤ k) (h1 : k < n) (hn : 0 < n) : (k + n).tmod n = k := by
  rw [Int.tmod_eq_emod_of_nonneg (by omega), Int.add_emod_right, Int.emod_eq_of_lt h0 h1]
theorem ok_turn {c : Conf} {k : Int} (h : c.ok = true) (hk : inB k 0 (c.masters.length - 1) = true) : 1 ≤ c.turn k ∧ c.turn k ≤ 16 := by
  unfold Conf.turn
  rw [h, hk]
  simp only [Bool.and_self, if_true]
  unfold Conf.ok at h
  simp only [Bool.and_eq_true, decide_eq_true_eq] at h
  obtain ⟨⟨⟨⟨h1, h2⟩, h3⟩, h4⟩, h5⟩ := h
  have hk := inB_t hk
  have hq := inB_t h2
  obtain ⟨m, hm⟩ : ∃ m, c.masters[k.toNat]? = some m := ⟨_, List.getElem?_eq_getElem (by omega)⟩
  rw [hm]
  have hmo := List.all_eq_true.1 h5 m (List.mem_of_getElem? hm)
  unfold MConf.ok at hmo
  simp only [Bool.and_eq_true] at hmo
  have hw := inB_t hmo.1
  simp only
  have hw' : m.weight = 1 ∨ m.weight = 2 ∨ m.weight = 3 ∨ m.weight = 4 := by omega
  rcases hw' with e | e | e | e <;> rw [e] <;> rw [wrap_in _ (by omega)] <;> omega
theorem wrr_ok3 {w : Wrr} {c : Conf} (h : w.ok c = true) : c.ok = true ∧ inB w.pos 0 (c.masters.length - 1) = true ∧ 0 ≤ w.credit ∧ w.credit ≤ c.turn w.pos := by
  unfold Wrr.ok at h
  simp only [Bool.and_eq_true] at h
  exact ⟨h.1.1, h.1.2, inB_t h.2⟩
theorem wrr_ok_of {w : Wrr} {c : Conf} (h1 : c.ok = true) (h2 : inB w.pos 0 (c.masters.length - 1) = true) (h3 : 0 ≤ w.credit ∧ w.credit ≤ c.turn w.pos) : w.ok c = true := by
  unfold Wrr.ok
  rw [h1, h2]
  simp only [inB, Bool.true_and, Bool.and_eq_true, decide_eq_true_eq]; exact h3
theorem back_credit {w : Wrr} {c : Conf} (h : w.ok c = true) (hlt : w.credit < c.turn w.pos) : (w.back c w.pos).credit = w.credit + 1 := by
  have h3 := wrr_ok3 h
  have ht := ok_turn h3.1 h3.2.1
  unfold Wrr.back
  rw [if_pos (by rw [h]; simp), wrap_in _ (by omega)]
  simp only
  omega
structure PickF (w : Wrr) (x : Conf) (req : List Bool) (p : Wrr × Int) : Prop where
  ok : p.1.ok x = true
  who : (p.2 = -1 ∧ req.any id = false) ∨ (0 ≤ p.2 ∧ p.2 < req.length ∧ req[p.2.toNat]? = some true ∧ p.1.pos = p.2 ∧ (p.1.back x p.2).credit = p.1.credit + 1 ∧ req.any id = true)
  keep : w.credit = 0 ∨ req[w.pos.toNat]? = some false ∨ p.2 = w.pos
theorem any_at {req : List Bool} {i : Nat} (h : req[i]? = some true) : req.any id = true := List.any_eq_true.2 ⟨true, List.mem_of_getElem? h, rfl⟩
theorem pickF {w : Wrr} {x : Conf} {req : List Bool} (h1 : w.ok x = true) (h2 : (req.length : Int) = x.masters.length) : PickF w x req (w.pick x req) := by
  obtain ⟨hc, hp, hcr0, hcr1⟩ := wrr_ok3 h1
  have hp' := inB_t hp
  have hin : ∀ k : Int, 0 ≤ k → k < req.length → inB k 0 (x.masters.length - 1) = true := fun k h3 h4 => by simp only [inB, Bool.and_eq_true, decide_eq_true_eq]; omega
  obtain ⟨b, hb⟩ : ∃ b, req[w.pos.toNat]? = some b := ⟨_, List.getElem?_eq_getElem (by omega)⟩
  have ht := ok_turn hc hp
  by_cases hs : 0 < w.credit ∧ b = true
  · obtain ⟨h3, rfl⟩ := hs
    rw [pick_stay h1 h2 h3 hb, wrap_in (w.credit - 1) (by omega)]
    have ho : Wrr.ok ⟨w.pos, w.credit - 1⟩ x = true := wrr_ok_of hc hp ⟨by simp only; omega, by simp only; omega⟩
    exact ⟨ho, .inr ⟨by simp only; omega, by simp only; omega, hb, rfl, back_credit (w := ⟨w.pos, w.credit - 1⟩) ho (by simp only; omega), any_at hb⟩, .inr (.inr rfl)⟩
  · have h3 : ¬ 0 < w.credit ∨ req[w.pos.toNat]? = some false := by
      by_cases h4 : 0 < w.credit
      · right
        rw [hb]
        cases b with
        | false => rfl
        | true => exact absurd ⟨h4, rfl⟩ hs
      · exact .inl h4
    have hk : w.credit = 0 ∨ req[w.pos.toNat]? = some false := by
      rcases h3 with h3 | h3
      · left; omega
      · exact .inr h3
    cases hf : (List.range req.length).find? (w.hit req) with
    | none =>
      rw [pick_none h1 h2 h3 hf rfl]
      refine ⟨wrr_ok_of hc hp ⟨by simp only; omega, by simp only; omega⟩, .inl ⟨rfl, ?_⟩, ?_⟩
      · rw [List.any_eq_false]
        intro y hy
        obtain ⟨k, hk2⟩ := List.mem_iff_getElem?.1 hy
        have hkl := (List.getElem?_eq_some_iff.1 hk2).1
        -- every place is met
        have hno := List.find?_eq_none.1 hf
        have : ∃ i, i < req.length ∧ (w.pos + ((i : Int) + 1)).tmod req.length = k := by
          by_cases hle : w.pos < k
          · refine ⟨(k - w.pos - 1).toNat, by omega, ?_⟩
            rw [Int.tmod_eq_of_lt (by omega) (by omega)]; omega
          · refine ⟨(k + req.length - w.pos - 1).toNat, by omega, ?_⟩
            rw [show w.pos + (((k + req.length - w.pos - 1).toNat : Int) + 1) = k + req.length by omega, add_tmod_r]
            · omega
            · omega
            · omega
        obtain ⟨i, hi, he⟩ := this
        have h5 := hno i (List.mem_range.2 hi)
        unfold Wrr.hit at h5
        rw [he] at h5
        simp only [Int.toNat_natCast, hk2, Option.getD_some] at h5
        cases y with
        | false => simp
        | true => simp at h5
      · rcases hk with h | h
        · exact .inl h
        · exact .inr (.inl h)
    | some i =>
      have hi : i < req.length := List.mem_range.1 (List.mem_of_find?_eq_some hf)
      have hhit := List.find?_some hf
      unfold Wrr.hit at hhit
      have hr0 := Int.tmod_nonneg (req.length : Int) (show 0 ≤ w.pos + ((i : Int) + 1) by omega)
      have hr1 := Int.tmod_lt_of_pos (w.pos + ((i : Int) + 1)) (show (0 : Int) < req.length by omega)
      obtain ⟨k, hk'⟩ : ∃ k, k = (w.pos + ((i : Int) + 1)).tmod req.length := ⟨_, rfl⟩
      have hpk : w.pick x req = (⟨k, IntKind.wrap .i64 (x.turn k - 1)⟩, k) := by
        unfold Wrr.pick
        rw [if_pos (by simp [h1]; omega), if_neg (by rcases h3 with h | h <;> simp [h]), hf, hk']
      rw [hpk]
      rw [← hk'] at hr0 hr1 hhit
      have hat : req[k.toNat]? = some true := by
        cases e : req[k.toNat]? with
        | none => rw [e] at hhit; cases hhit
        | some y => rw [e] at hhit; simp at hhit; rw [hhit]
      have htk := ok_turn hc (hin k hr0 hr1)
      rw [wrap_in (x.turn k - 1) (by omega)]
      have ho : Wrr.ok ⟨k, x.turn k - 1⟩ x = true := wrr_ok_of hc (hin k hr0 hr1) ⟨by simp only; omega, by simp only; omega⟩
      refine ⟨ho, .inr ⟨hr0, hr1, hat, rfl, back_credit (w := ⟨k, x.turn k - 1⟩) ho (by simp only; omega), any_at hat⟩, ?_⟩
      rcases hk with h | h
      · exact .inl h
      · exact .inr (.inl h)

theorem any_next {xs : List Bool} {i : Nat} {y : Bool} (h : xs[i]? = some y) : (xs.take (i + 1)).any id = ((xs.take i).any id || y) := by
  rw [take_get h, List.any_append]; simp
theorem any_mono {xs : List Bool} {i : Nat} (h : (xs.take i).any id = true) : (xs.take (i + 1)).any id = true := by
  rw [List.any_eq_true] at h ⊢
  obtain ⟨y, h1, h2⟩ := h
  exact ⟨y, (List.take_subset_take_left xs (Nat.le_succ i)) h1, h2⟩
theorem pick_ix {w : Wrr} {x : Conf} {req : List Bool} {p : Wrr × Int} (h : PickF w x req p) (hn : ¬ p.2 < 0) : 0 ≤ p.2 ∧ p.2 < req.length := by
  rcases h.who with ⟨h1, _⟩ | ⟨h1, h2, _⟩
  · omega
  · exact ⟨h1, h2⟩
theorem pick_wr {w : Wrr} {x : Conf} {req : List Bool} {p : Wrr × Int} (h : PickF w x req p) : IntKind.wrap .i64 (p.1.credit + 1) = p.1.credit + 1 := by
  have h3 := wrr_ok3 h.ok
  have ht := ok_turn h3.1 h3.2.1
  exact wrap_in _ (by omega)
theorem pick_ixw {w : Wrr} {x : Conf} {req : List Bool} (h : w.ok x = true) (h2 : (req.length : Int) = x.masters.length) : 0 ≤ w.pos ∧ w.pos < req.length := by
  have := inB_t (wrr_ok3 h).2.1
  omega

theorem ok_parts {c : Conf} (h : c.ok = true) : 1 ≤ c.masters.length ∧ c.masters.length ≤ 4 ∧ 1 ≤ c.quantum ∧ c.quantum ≤ 4 ∧ 1 ≤ c.maxSplit ∧ c.maxSplit ≤ 12 ∧ 0 < c.cost ∧ inB c.lockMost 1 40 = true ∧ ∀ m, m ∈ c.masters → MConf.ok c.least m = true := by
  unfold Conf.ok at h
  rw [slot_ne] at h
  simp only [Bool.and_eq_true, decide_eq_true_eq] at h
  obtain ⟨⟨⟨⟨h1, h2⟩, h3⟩, h4, h5⟩, h6⟩ := h
  have k1 := inB_t h1
  have k2 := inB_t h2
  have k3 := inB_t h3
  exact ⟨by omega, by omega, k2.1, k2.2, k3.1, k3.2, h4, h5, fun m hm => List.all_eq_true.1 h6 m hm⟩
theorem slot_is {c : Conf} (h0 : 0 < c.cost) (h : inB c.lockMost 1 40 = true) : c.slot = 2 * c.cost + c.lockMost := by
  unfold Conf.slot
  rw [if_neg (by rw [h]; simp; omega)]
theorem ok_share {c : Conf} (h : c.ok = true) : c.share = true := by
  unfold Conf.share
  rw [List.all_eq_true]
  intro m hm
  have hmo := (ok_parts h).2.2.2.2.2.2.2.2 m hm
  unfold MConf.ok at hmo
  simp only [Bool.and_eq_true] at hmo
  cases hp : m.prio with
  | false => simp
  | true =>
    have h1 := hmo.2
    rw [if_pos hp] at h1
    simp only [Bool.and_eq_true] at h1
    have := inB_t h1.1
    simp; omega
theorem caps_bd {s : Int} (hs : 0 ≤ s ∧ s ≤ 130) : ∀ (l : List MConf) (a : Int), (∀ m, m ∈ l → m.prio = true → 1 ≤ m.cap ∧ m.cap ≤ 8) → 0 ≤ a → a + 1170 * l.length ≤ 1000000 → 0 ≤ l.foldl (caps1 s) a ∧ l.foldl (caps1 s) a ≤ a + 1170 * l.length
  | [], a, _, h0, _ => by simp; omega
  | m :: l, a, hm, h0, h1 => by
    simp only [List.length_cons] at h1
    have step : 0 ≤ caps1 s a m ∧ caps1 s a m ≤ a + 1170 := by
      unfold caps1
      split
      · rename_i hp
        have hc := hm m (List.mem_cons_self ..) hp
        rw [wrap_in (m.cap + 1) (by omega)]
        have h2 : 0 ≤ (m.cap + 1) * s := Int.mul_nonneg (by omega) (by omega)
        have h3 : (m.cap + 1) * s ≤ 9 * 130 := Int.mul_le_mul (by omega) (by omega) (by omega) (by omega)
        rw [wrap_in ((m.cap + 1) * s) (by omega), wrap_in _ (by omega)]
        omega
      · omega
    have ih := caps_bd hs l (caps1 s a m) (fun m' h' => hm m' (List.mem_cons_of_mem _ h')) step.1 (by omega)
    simp only [List.foldl_cons, List.length_cons]
    omega
theorem round_bd {c : Conf} (h : c.ok = true) : ∀ (i : Nat) (a : Int), i ≤ 4 → 0 ≤ a → a ≤ 200 → 0 ≤ (List.range i).foldl (roundStep c) a ∧ (List.range i).foldl (roundStep c) a ≤ a + 2080 * i
  | 0, a, _, h0, h1 => by simp; omega
  | i + 1, a, hi, h0, h1 => by
    have ih := round_bd h i a (by omega) h0 h1
    rw [List.range_succ, List.foldl_append]
    simp only [List.foldl_cons, List.foldl_nil]
    have ht : 0 ≤ c.turn i ∧ c.turn i ≤ 16 := by
      cases hb : inB (i : Int) 0 (c.masters.length - 1) with
      | true => have := ok_turn h hb; omega
      | false => unfold Conf.turn; rw [hb]; simp
    have hs := c.slot_bd
    have h2 : 0 ≤ c.turn i * c.slot := Int.mul_nonneg (by omega) (by omega)
    have h3 : c.turn i * c.slot ≤ 16 * 130 := Int.mul_le_mul (by omega) (by omega) (by omega) (by omega)
    unfold roundStep at ih ⊢
    rw [wrap_in (c.turn i * c.slot) (by omega), wrap_in _ (by omega)]
    omega
theorem bound_eq {c : Conf} (h : c.ok = true) {n : Int} (hn0 : 1 ≤ n) (hn1 : n ≤ 8) : 0 ≤ c.round ∧ c.round ≤ 10000 ∧ 0 ≤ c.caps ∧ c.caps ≤ 4680 ∧ c.bound n = 2 * (n * (2 * c.round + c.maxSplit + c.cost) + c.caps) + 2 * c.slot + 10 := by
  obtain ⟨p1, p2, p3, p4, p5, p6, p7, p8, p9⟩ := ok_parts h
  have hs := c.slot_bd
  have hco := c.cost_bd
  have hl4 : c.masters.length = 1 ∨ c.masters.length = 2 ∨ c.masters.length = 3 ∨ c.masters.length = 4 := by omega
  have hcl : 0 ≤ c.cost * (c.masters.length : Int) ∧ c.cost * (c.masters.length : Int) ≤ 180 := by rcases hl4 with e | e | e | e <;> rw [e] <;> omega
  have hr : 0 ≤ c.round ∧ c.round ≤ 10000 := by
    unfold Conf.round
    rw [if_pos h, wrap_in _ (by omega)]
    have := round_bd h c.masters.length (c.cost * c.masters.length) (by omega) (by omega) (by omega)
    omega
  have hk : 0 ≤ c.caps ∧ c.caps ≤ 4680 := by
    unfold Conf.caps
    have := caps_bd hs c.masters 0 (fun m hm hp => by
      have hmo := p9 m hm
      unfold MConf.ok at hmo
      simp only [Bool.and_eq_true] at hmo
      have h1 := hmo.2
      rw [if_pos hp] at h1
      simp only [Bool.and_eq_true] at h1
      exact inB_t h1.2) (by omega) (by omega)
    omega
  refine ⟨hr.1, hr.2, hk.1, hk.2, ?_⟩
  unfold Conf.bound
  have hb : inB n 1 8 = true := by simp only [inB, Bool.and_eq_true, decide_eq_true_eq]; omega
  rw [h, hb]
  simp only [Bool.and_self, if_true]
  rw [wrap_in (2 * c.round) (by omega), wrap_in (2 * c.round + c.maxSplit) (by omega), wrap_in (2 * c.round + c.maxSplit + c.cost) (by omega), wrap_in (2 * c.slot) (by omega)]
  have hn8 : n = 1 ∨ n = 2 ∨ n = 3 ∨ n = 4 ∨ n = 5 ∨ n = 6 ∨ n = 7 ∨ n = 8 := by omega
  rcases hn8 with e | e | e | e | e | e | e | e <;> subst e <;> rw [wrap_in (_ * (2 * c.round + c.maxSplit + c.cost)) (by omega), wrap_in (_ * (2 * c.round + c.maxSplit + c.cost) + c.caps) (by omega), wrap_in (2 * _) (by omega), wrap_in (2 * _ + 2 * c.slot) (by omega), wrap_in _ (by omega)]
structure ShareF (c : Conf) (n : Int) : Prop where
  share : c.share = true
  sum : IntKind.wrap .i64 (c.round + c.slot) = c.round + c.slot
  big : c.round + c.slot < c.bound n
  grow : n ≠ 8 → c.bound n < c.bound (n + 1)
  slot : c.cost < c.slot
theorem shareF {c : Conf} (h : c.ok = true) {n : Int} (hn0 : ¬ n < 1) (hn1 : ¬ 8 < n) : ShareF c n := by
  obtain ⟨p1, p2, p3, p4, p5, p6, p7, p8, p9⟩ := ok_parts h
  obtain ⟨q1, q2, q3, q4, q5⟩ := bound_eq h (n := n) (by omega) (by omega)
  have hs := c.slot_bd
  have hsl := slot_is p7 p8
  have hlk := inB_t p8
  refine ⟨ok_share h, wrap_in _ (by omega), ?_, fun hn => ?_, by omega⟩
  · rw [q5]
    have hn8 : n = 1 ∨ n = 2 ∨ n = 3 ∨ n = 4 ∨ n = 5 ∨ n = 6 ∨ n = 7 ∨ n = 8 := by omega
    rcases hn8 with e | e | e | e | e | e | e | e <;> subst e <;> omega
  · obtain ⟨_, _, _, _, r5⟩ := bound_eq h (n := n + 1) (by omega) (by omega)
    rw [q5, r5, Int.add_mul]
    omega
theorem bound_no {c : Conf} {n : Int} (h : c.ok = false ∨ n < 1 ∨ 8 < n) : c.bound n = 0 := by
  unfold Conf.bound
  rw [if_neg]
  simp only [Bool.and_eq_true]
  rintro ⟨h1, h2⟩
  have := inB_t h2
  rcases h with h | h | h
  · rw [h] at h1; cases h1
  · omega
  · omega

def Bucket.ok (b : Bucket) (m : MConf) : Bool := if m.prio then inB b.tokens 0 m.cap && decide (0 ≤ b.count) && decide (b.count < m.every) else decide (b.tokens = 0) && decide (b.count = 0)
def MConf.tiny (m : MConf) : Prop := 0 ≤ m.every ∧ m.every ≤ 6 ∧ 0 ≤ m.cap ∧ m.cap ≤ 4 ∧ (m.prio = true → 1 ≤ m.every)
def MConf.newB (m : MConf) : Bucket := if m.prio then ⟨max 0 m.cap, 0⟩ else ⟨0, 0⟩
def Bucket.tick (b : Bucket) (m : MConf) : Bucket := if m.prio && b.ok m then (if b.count + 1 = m.every then ⟨min m.cap (b.tokens + 1), 0⟩ else ⟨b.tokens, b.count + 1⟩) else b
def Bucket.take (b : Bucket) (m : MConf) : Bucket × Bool := if m.prio && b.ok m && decide (b.tokens ≠ 0) then (⟨b.tokens - 1, b.count⟩, true) else (b, false)
def Bucket.back (b : Bucket) (m : MConf) : Bucket := if m.prio && b.ok m && decide (b.tokens < m.cap) then ⟨b.tokens + 1, b.count⟩ else b
def MConf.most (m : MConf) (n : Int) : Int := if m.prio = true ∧ 1 ≤ m.every ∧ 0 ≤ m.cap ∧ inB n 0 4000 = true then m.cap + n.tdiv m.every + 1 else 0
theorem bk_p {b : Bucket} {m : MConf} (hp : m.prio = true) (h : b.ok m = true) : 0 ≤ b.tokens ∧ b.tokens ≤ m.cap ∧ 0 ≤ b.count ∧ b.count < m.every := by
  unfold Bucket.ok at h
  rw [if_pos hp] at h
  simp only [Bool.and_eq_true, decide_eq_true_eq] at h
  have := inB_t h.1.1
  exact ⟨this.1, this.2, h.1.2, h.2⟩
theorem bk_of {b : Bucket} {m : MConf} (hp : m.prio = true) (h : 0 ≤ b.tokens ∧ b.tokens ≤ m.cap ∧ 0 ≤ b.count ∧ b.count < m.every) : b.ok m = true := by
  unfold Bucket.ok
  rw [if_pos hp]
  simp only [inB, Bool.and_eq_true, decide_eq_true_eq]; omega
theorem bk_n {b : Bucket} {m : MConf} (hp : m.prio = false) : b.ok m = (decide (b.tokens = 0) && decide (b.count = 0)) := by
  unfold Bucket.ok; rw [if_neg (by rw [hp]; decide)]

theorem tick_no {b : Bucket} {m : MConf} (h : m.prio = false ∨ b.ok m = false) : b.tick m = b := by
  unfold Bucket.tick
  rw [if_neg]
  simp only [Bool.and_eq_true]
  rintro ⟨h1, h2⟩
  rcases h with h | h
  · rw [h] at h1; cases h1
  · rw [h] at h2; cases h2
theorem tick_turn {b : Bucket} {m : MConf} (hp : m.prio = true) (ho : b.ok m = true) (h : b.count + 1 = m.every) : b.tick m = ⟨min m.cap (b.tokens + 1), 0⟩ := by
  unfold Bucket.tick; rw [if_pos (by rw [hp, ho]; rfl), if_pos h]
theorem tick_next {b : Bucket} {m : MConf} (hp : m.prio = true) (ho : b.ok m = true) (h : ¬ b.count + 1 = m.every) : b.tick m = ⟨b.tokens, b.count + 1⟩ := by
  unfold Bucket.tick; rw [if_pos (by rw [hp, ho]; rfl), if_neg h]
theorem kept_t {b : Bucket} {m : MConf} (h : (m.prio && b.ok m) = true) : m.prio = true ∧ b.ok m = true := by simpa using h
theorem kept_f {b : Bucket} {m : MConf} (h : (m.prio && b.ok m) = false) : m.prio = false ∨ b.ok m = false := by
  cases e : m.prio with
  | false => exact .inl rfl
  | true => rw [e] at h; exact .inr (by simpa using h)
theorem take_no {b : Bucket} {m : MConf} (h : m.prio = false ∨ b.ok m = false ∨ b.tokens = 0) : b.take m = (b, false) := by
  unfold Bucket.take
  rw [if_neg]
  simp only [Bool.and_eq_true, decide_eq_true_eq]
  rintro ⟨⟨h1, h2⟩, h3⟩
  rcases h with h | h | h
  · rw [h] at h1; cases h1
  · rw [h] at h2; cases h2
  · exact h3 h
theorem take_is {b : Bucket} {m : MConf} (hp : m.prio = true) (ho : b.ok m = true) (h : ¬ b.tokens = 0) : b.take m = (⟨b.tokens - 1, b.count⟩, true) := by
  unfold Bucket.take; rw [if_pos (by simp [hp, ho, h])]
theorem back_no {b : Bucket} {m : MConf} (h : m.prio = false ∨ b.ok m = false ∨ ¬ b.tokens < m.cap) : b.back m = b := by
  unfold Bucket.back
  rw [if_neg]
  simp only [Bool.and_eq_true, decide_eq_true_eq]
  rintro ⟨⟨h1, h2⟩, h3⟩
  rcases h with h | h | h
  · rw [h] at h1; cases h1
  · rw [h] at h2; cases h2
  · exact h h3
theorem back_is {b : Bucket} {m : MConf} (hp : m.prio = true) (ho : b.ok m = true) (h : b.tokens < m.cap) : b.back m = ⟨b.tokens + 1, b.count⟩ := by
  unfold Bucket.back; rw [if_pos (by simp [hp, ho, h])]
def tupB (p : Bucket × Bool) : V := .tup [.agg p.1.r, .w (.bool p.2)]
theorem min_sw (a b : Int) : min a b = min b a := Int.min_comm a b

theorem most_no {m : MConf} {n : Int} (h : m.prio = false ∨ m.every < 1 ∨ m.cap < 0 ∨ inB n 0 4000 = false) : m.most n = 0 := by
  unfold MConf.most
  rw [if_neg]
  rintro ⟨h1, h2, h3, h4⟩
  rcases h with h | h | h | h
  · rw [h] at h1; cases h1
  · omega
  · omega
  · rw [h] at h4; cases h4
theorem most_is {m : MConf} {n : Int} (h1 : m.prio = true) (h2 : ¬ m.every < 1) (h3 : ¬ m.cap < 0) (h4 : inB n 0 4000 = true) : m.most n = m.cap + n.tdiv m.every + 1 := by
  unfold MConf.most
  rw [if_pos ⟨h1, by omega, by omega, h4⟩]
theorem tdiv_bd {n k : Int} (hn : 0 ≤ n ∧ n ≤ 4000) (hk : 1 ≤ k) : 0 ≤ n.tdiv k ∧ n.tdiv k ≤ 4000 := by
  have h1 : 0 ≤ n.tdiv k := Int.tdiv_nonneg hn.1 (by omega)
  have h2 : n.tdiv k ≤ n := by rw [Int.tdiv_eq_ediv_of_nonneg hn.1]; exact Int.ediv_le_self _ hn.1
  omega

structure BInv (m : MConf) (c0 i : Int) (b : Bucket) (t R : Int) : Prop where
  ok : b.ok m = true
  p : m.prio = true → 0 ≤ R ∧ b.count + m.every * R = c0 + i ∧ b.tokens + t ≤ m.cap + R
  np : m.prio = false → t = 0
  t : 0 ≤ t ∧ t ≤ i
theorem tick_ok {b : Bucket} {m : MConf} (h : b.ok m = true) (ht : m.tiny) : (b.tick m).ok m = true := by
  unfold MConf.tiny at ht
  cases hp : m.prio with
  | false => rw [tick_no (.inl hp)]; exact h
  | true =>
    have hb := bk_p hp h
    by_cases hc : b.count + 1 = m.every
    · rw [tick_turn hp h hc]; exact bk_of hp ⟨by simp only; omega, by simp only; omega, by simp only; omega, by simp only; omega⟩
    · rw [tick_next hp h hc]; exact bk_of hp ⟨by simp only; omega, by simp only; omega, by simp only; omega, by simp only; omega⟩
theorem bi_tick {m : MConf} {c0 i : Int} {b : Bucket} {t R : Int} (ht : m.tiny) (h : BInv m c0 i b t R) : ∃ R1, BInv m c0 (i + 1) (b.tick m) t R1 := by
  have ht' := ht
  unfold MConf.tiny at ht'
  have h4 := h.t
  cases hp : m.prio with
  | false => exact ⟨0, tick_ok h.ok ht, (fun e => by rw [hp] at e; cases e), h.np, by omega⟩
  | true =>
    have hb := bk_p hp h.ok
    obtain ⟨p1, p2, p3⟩ := h.p hp
    by_cases hc : b.count + 1 = m.every
    · refine ⟨R + 1, tick_ok h.ok ht, fun _ => ?_, h.np, by omega⟩
      rw [tick_turn hp h.ok hc, Int.mul_add]
      simp only
      omega
    · refine ⟨R, tick_ok h.ok ht, fun _ => ?_, h.np, by omega⟩
      rw [tick_next hp h.ok hc]
      simp only
      omega
theorem bi_take {m : MConf} {c0 i : Int} {b : Bucket} {t R : Int} (h : BInv m c0 i b t R) (hi : t < i) (hk : (b.take m).2 = true) : BInv m c0 i (b.take m).1 (t + 1) R := by
  have h4 := h.t
  cases hp : m.prio with
  | false => rw [take_no (.inl hp)] at hk; cases hk
  | true =>
    have hb := bk_p hp h.ok
    obtain ⟨p1, p2, p3⟩ := h.p hp
    by_cases hz : b.tokens = 0
    · rw [take_no (.inr (.inr hz))] at hk; cases hk
    · rw [take_is hp h.ok hz]
      exact ⟨bk_of hp ⟨by simp only; omega, by simp only; omega, by simp only; omega, by simp only; omega⟩, fun _ => ⟨p1, p2, by simp only; omega⟩, (fun e => by rw [hp] at e; cases e), by omega⟩
theorem take_f {b : Bucket} {m : MConf} (hk : (b.take m).2 = false) : (b.take m).1 = b := by
  unfold Bucket.take at hk ⊢
  split at hk
  · cases hk
  · rename_i h; rw [if_neg h]
theorem bi_takef {m : MConf} {c0 i : Int} {b : Bucket} {t R : Int} (h : BInv m c0 i b t R) (hk : (b.take m).2 = false) : BInv m c0 i (b.take m).1 t R := by rw [take_f hk]; exact h
theorem take_says {b : Bucket} {m : MConf} (h : b.ok m = true) : (b.take m).2 = (m.prio && decide (0 < b.tokens)) := by
  cases hp : m.prio with
  | false => rw [take_no (.inl hp)]; rfl
  | true =>
    have hb := bk_p hp h
    by_cases hz : b.tokens = 0
    · rw [take_no (.inr (.inr hz)), hz]; rfl
    · rw [take_is hp h hz]; simp; omega
theorem take_ok {b : Bucket} {m : MConf} (h : b.ok m = true) : (b.take m).1.ok m = true := by
  cases hp : m.prio with
  | false => rw [take_no (.inl hp)]; exact h
  | true =>
    have hb := bk_p hp h
    by_cases hz : b.tokens = 0
    · rw [take_no (.inr (.inr hz))]; exact h
    · rw [take_is hp h hz]; exact bk_of hp ⟨by simp only; omega, by simp only; omega, by simp only; omega, by simp only; omega⟩
theorem take_back {b : Bucket} {m : MConf} (h : b.ok m = true) (hk : (b.take m).2 = true) : ((b.take m).1.back m).tokens = b.tokens := by
  have hok := take_ok h
  cases hp : m.prio with
  | false => rw [take_no (.inl hp)] at hk; cases hk
  | true =>
    have hb := bk_p hp h
    by_cases hz : b.tokens = 0
    · rw [take_no (.inr (.inr hz))] at hk; cases hk
    · rw [take_is hp h hz] at hok ⊢
      rw [back_is hp hok (by simp only; omega)]; simp only; omega
theorem bi_end {m : MConf} {b0 : Bucket} {n i : Int} {b : Bucket} {t R : Int} (ht : m.tiny) (h0 : b0.ok m = true) (hn : n < 60) (h : BInv m b0.count i b t R) (hi : i = n ∨ (i = 0 ∧ n < 0)) : t ≤ m.most n := by
  unfold MConf.tiny at ht
  have h4 := h.t
  cases hp : m.prio with
  | false => rw [h.np hp, most_no (.inl hp)]; omega
  | true =>
    have hb0 := bk_p hp h0
    have hb := bk_p hp h.ok
    obtain ⟨p1, p2, p3⟩ := h.p hp
    have he := ht.2.2.2.2 hp
    rcases hi with rfl | ⟨rfl, hneg⟩
    · rcases Int.lt_or_le i 0 with hneg | hpos
      · omega
      · rw [most_is hp (by omega) (by omega) (by simp only [inB, Bool.and_eq_true, decide_eq_true_eq]; omega), Int.tdiv_eq_ediv_of_nonneg hpos]
        have h6 : m.every = 1 ∨ m.every = 2 ∨ m.every = 3 ∨ m.every = 4 ∨ m.every = 5 ∨ m.every = 6 := by omega
        rcases h6 with e | e | e | e | e | e <;> rw [e] at p2 hb hb0 ⊢ <;> omega
    · rw [most_no (.inr (.inr (.inr (by simp [inB]; omega))))]; omega
theorem new_ok {m : MConf} (ht : m.tiny) : (m.newB).ok m = true := by
  unfold MConf.tiny at ht
  unfold MConf.newB
  split
  · rename_i hp
    have := ht.2.2.2.2 hp
    exact bk_of hp ⟨by simp only; omega, by simp only; omega, by simp only; omega, by simp only; omega⟩
  · rename_i hp
    rw [bk_n (by simpa using hp)]; rfl
theorem tmod60 (v : Int) : v.tmod 60 < 60 := Int.tmod_lt_of_pos _ (by omega)

theorem req5 {z : Int} (h : z = 2 ∨ z = 2 ∨ z = 2 ∨ z = 0 ∨ z = 1) : bytes z = 1 ∨ bytes z = 2 ∨ bytes z = 4 := bytes_pos (by rcases h with h | h | h | h | h <;> subst h <;> rfl)
theorem limit_pos {z : Int} (h : z = 2 ∨ z = 2 ∨ z = 2 ∨ z = 0 ∨ z = 1) : 0 < limit z := by rcases h with h | h | h | h | h <;> subst h <;> decide

def Script.fit (s : Script) : Prop := s.posts.length ≤ 6 ∧ (∀ p, p ∈ s.posts → p.req.data.length ≤ 16) ∧ (s.waits.length ≤ 6 ∧ ∀ y, y ∈ s.waits → 0 ≤ y ∧ y ≤ 16) ∧ s.says.length ≤ 6 ∧ ∀ y, y ∈ s.says → 0 ≤ y ∧ y ≤ 16
theorem fit_set {s : Script} (h : s.fit) {k : Nat} {p : Post} (hp : p.req.data.length ≤ 16) : Script.fit ⟨s.posts.set k p, s.waits, s.says⟩ := by
  obtain ⟨h1, h2, h3, h4⟩ := h
  refine ⟨by simp only [List.length_set]; exact h1, fun q hq => ?_, h3, h4⟩
  rcases List.mem_or_eq_of_mem_set hq with hq | rfl
  · exact h2 q hq
  · exact hp

def saidOf (n : Int) : Int := if n = 2 ∨ n = 3 then n else 0
def Conf.waitAt (c : Conf) (s : Script) (k : Int) : Int := max 0 (min (elem s.waits k) c.maxWait)
theorem elem_rot {l : List Int} {k : Int} (hk : 0 ≤ k) (hl : ¬ (l.length : Int) = 0) : elem l (k + l.length) = elem l k := by
  unfold elem
  rw [if_neg (by omega), if_neg (by omega), Int.tmod_eq_emod_of_nonneg (by omega), Int.tmod_eq_emod_of_nonneg hk, Int.add_emod_right]
theorem cost_wait {c : Conf} (h : c.ok = true) : 0 ≤ c.maxWait ∧ c.maxWait ≤ 3 := by
  have h1 := (ok_parts h).2.2.2.2.2.2.1
  unfold Conf.cost at h1
  split at h1
  · rename_i h2
    simp only [Bool.and_eq_true] at h2
    exact inB_t h2.2
  · omega
structure ChoiceF (c : Conf) (s : Script) (k : Int) : Prop where
  wait : 0 ≤ c.waitAt s k ∧ c.waitAt s k ≤ c.maxWait
  split : 1 ≤ c.splitAt s k ∧ c.splitAt s k ≤ c.maxSplit
  said : saidOf (elem s.says k) = 0 ∨ saidOf (elem s.says k) = 2 ∨ saidOf (elem s.says k) = 3
  w2 : ¬ (s.waits.length : Int) = 0 → c.waitAt s (k + s.waits.length) = c.waitAt s k
  s2 : ¬ (s.says.length : Int) = 0 → saidOf (elem s.says (k + s.says.length)) = saidOf (elem s.says k)
theorem choiceF {c : Conf} {s : Script} {k : Int} (h : c.ok = true) (hk : ¬ k < 0) : ChoiceF c s k := by
  have h1 := cost_wait h
  obtain ⟨_, _, _, _, h5, h6, _⟩ := ok_parts h
  refine ⟨by unfold Conf.waitAt; omega, by unfold Conf.splitAt; omega, by unfold saidOf; split <;> simp_all, fun hl => ?_, fun hl => ?_⟩
  · unfold Conf.waitAt; rw [elem_rot (by omega) hl]
  · rw [elem_rot (by omega) hl]

def flt {α : Type} (p : α → Bool) (xs : List α) (j : Nat) : List α := (xs.take j).filter (fun y => !p y)
def dlT {α : Type} (p : α → Bool) (xs : List α) (j : Nat) : List α := flt p xs j ++ xs.drop (flt p xs j).length
theorem flt_le {α : Type} (p : α → Bool) (xs : List α) (j : Nat) : (flt p xs j).length ≤ j ∧ (flt p xs j).length ≤ xs.length := by
  have h := List.length_filter_le (fun y => !p y) (xs.take j)
  rw [List.length_take] at h
  unfold flt
  omega
theorem dl_len {α : Type} (p : α → Bool) (xs : List α) (j : Nat) : (dlT p xs j).length = xs.length := by
  have := (flt_le p xs j).2
  simp [dlT]; omega
theorem dl_at {α : Type} (p : α → Bool) {xs : List α} {j : Nat} {y : α} (r : α → List V) (h : xs[j]? = some y) : ((dlT p xs j).map r)[j]? = some (r y) := by
  have := (flt_le p xs j).1
  rw [List.getElem?_map, dlT, List.getElem?_append_right this, List.getElem?_drop, show (flt p xs j).length + (j - (flt p xs j).length) = j by omega, h]
  rfl
theorem dl_at2 {α : Type} (p : α → Bool) {xs : List α} {j : Nat} {y : α} (r : α → List V) (h : xs[(flt p xs j).length]? = some y) : ((dlT p xs j).map r)[(flt p xs j).length]? = some (r y) := by
  rw [List.getElem?_map, dlT, List.getElem?_append_right (Nat.le_refl _), List.getElem?_drop, Nat.sub_self, Nat.add_zero, h]
  rfl
theorem flt_keep {α : Type} {p : α → Bool} {xs : List α} {j : Nat} {y : α} (h : xs[j]? = some y) (hp : p y = false) : flt p xs (j + 1) = flt p xs j ++ [y] := by
  unfold flt; rw [take_get h, List.filter_append]; simp [hp]
theorem flt_skip {α : Type} {p : α → Bool} {xs : List α} {j : Nat} {y : α} (h : xs[j]? = some y) (hp : p y = true) : flt p xs (j + 1) = flt p xs j := by
  unfold flt; rw [take_get h, List.filter_append]; simp [hp]
theorem dl_keep {α : Type} {p : α → Bool} {xs : List α} {j : Nat} {y : α} (r : α → List V) (h : xs[j]? = some y) (hp : p y = false) : ((dlT p xs j).map r).set (flt p xs j).length (r y) = (dlT p xs (j + 1)).map r := by
  have h1 := (flt_le p xs j).1
  have h2 := (List.getElem?_eq_some_iff.1 h).1
  rw [← List.map_set]
  congr 1
  unfold dlT
  rw [flt_keep h hp, List.set_append_right _ _ (Nat.le_refl _), Nat.sub_self, List.append_assoc, List.length_append, List.length_singleton]
  congr 1
  rw [List.drop_eq_getElem_cons (show (flt p xs j).length < xs.length by omega), List.set_cons_zero]
  rfl
theorem dl_skip {α : Type} {p : α → Bool} {xs : List α} {j : Nat} {y : α} (h : xs[j]? = some y) (hp : p y = true) : dlT p xs j = dlT p xs (j + 1) := by
  unfold dlT; rw [flt_skip h hp]
theorem flt_end {α : Type} (p : α → Bool) {xs : List α} {j : Nat} (h : xs.length ≤ j) : flt p xs j = xs.filter (fun y => !p y) := by
  unfold flt; rw [List.take_of_length_le h]
theorem idx_cases {α : Type} (p : α → Bool) (xs : List α) : (idxOf p xs = -1 ∧ xs.any p = false) ∨ ∃ i : Nat, idxOf p xs = i ∧ i < xs.length ∧ flt p xs (i + 1) = xs.take i := by
  cases e : xs.findIdx? p with
  | none =>
    left
    refine ⟨by simp [idxOf, e], ?_⟩
    rw [List.findIdx?_eq_none_iff] at e
    rw [List.any_eq_false]
    intro x hx; simp [e x hx]
  | some i =>
    right
    refine ⟨i, by simp [idxOf, e], ?_⟩
    rw [List.findIdx?_eq_some_iff_getElem] at e
    obtain ⟨h, h1, h2⟩ := e
    have h3 : xs[i]? = some xs[i] := List.getElem?_eq_getElem h
    refine ⟨h, ?_⟩
    rw [flt_skip h3 h1, flt, List.filter_eq_self]
    intro x hx
    rw [List.mem_take_iff_getElem] at hx
    obtain ⟨j, hj, rfl⟩ := hx
    have := h2 j (by omega)
    simpa using this
theorem dl_start {α : Type} {p : α → Bool} {xs : List α} {i : Nat} (hi : i < xs.length) (h : flt p xs (i + 1) = xs.take i) : dlT p xs (i + 1) = xs := by
  unfold dlT
  rw [h, List.length_take, Nat.min_eq_left (by omega), List.take_append_drop]
theorem dl_fin {α : Type} (p : α → Bool) {xs : List α} {j : Nat} (r : α → List V) (zs : List (List V)) : (((dlT p xs j).map r).take (flt p xs j).length ++ zs).take (flt p xs j).length = (flt p xs j).map r := by
  have h : ((dlT p xs j).map r).take (flt p xs j).length = (flt p xs j).map r := by
    rw [← List.map_take]; congr 1; unfold dlT; simp
  rw [h]
  have h2 : ((flt p xs j).map r).length = (flt p xs j).length := by simp
  rw [List.take_append_of_le_length (by omega), List.take_of_length_le (by omega)]


theorem c_268 (xs : List Done) (hl : xs.length ≤ 140737488355328) (f : Nat) (caps : List V) (hc : caps.all (V.fzV 5) = true) (p : Done → Bool) (h : ∀ y, y ∈ xs → CV prg f (.agg (Done.r y) :: caps) (fun v => v = .w (.bool (p y)))) : CV prg 268 [.sl 7 (xs.map Done.r), .fn f caps] (fun res => res = .w (.int .i64 (idxOf p xs))) := by
  refine cv_in g268 ?_
  refine s_keep [0, 1] rfl ?_
  refine S_seq ?_
  refine s_rg ?_
  refine s_op (o_mv rfl) ?_
  refine s_nilO ?_
  refine q_seqN ?_
  refine s_keep [0, 1] rfl ?_
  refine S_seq ?_
  refine S_seq ?_
  refine s_rg ?_
  refine s_op (o_mv rfl) ?_
  first | refine s_op (o_lenM rfl) ?_ | refine s_op (o_len rfl) ?_
  refine s_op (o_mv rfl) ?_
  refine s_nilO ?_
  refine q_seqN ?_
  refine s_keep [0, 1, 7, 8] rfl ?_
  refine S_block ?_
  refine S_loop0 (ι := Nat) (fun i => i ≤ xs.length ∧ (xs.take i).any p = false) (fun i => [(8, .w (.int .i64 (i : Int)))]) (fun i => xs.length - i) 0 (by simp) rfl ⟨rfl, trivial⟩ (fun _ _ => rfl) rfl ?_
  intro i hi
  refine s_keep [0, 1, 7, 8] rfl ?_
  refine S_seq ?_
  refine s_rg ?_
  first | refine s_op (o_lss rfl rfl) ?_ | refine s_op (o_bin rfl rfl rfl rfl) ?_
  refine s_nilO ?_
  refine q_seqN ?_
  refine s_keep [0, 1, 7, 8, 9] rfl ?_
  refine S_seq ?_
  first | refine s_condD rfl ?_ ?_ | refine s_condN rfl ?_ ?_ | refine s_condNB rfl ?_ ?_ | refine s_condB rfl ?_ ?_
  · intro h1
    try rw [Decidable.not_not] at h1
    refine s_skip ?_
    refine q_seqN ?_
    refine s_keep [0, 1, 7, 8] rfl ?_
    refine S_seq ?_
    refine S_block ?_
    refine S_seq ?_
    refine s_rg ?_
    refine s_op (o_mv rfl) ?_
    refine s_op (o_mv rfl) ?_
    refine s_nilO ?_
    refine q_seqN ?_
    refine s_keep [0, 1, 5, 7, 8] rfl ?_
    refine S_seq ?_
    refine s_rg ?_
    refine s_op (o_mv rfl) ?_
    refine s_op (o_mv rfl) ?_
    refine s_op (o_mv rfl) ?_
    refine s_iaM rfl rfl (by simp at *; omega) ?_
    intro y2 e2
    try simp only [Int.toNat_natCast, Int.toNat_zero] at e2
    refine s_op (o_ldn rfl rfl) ?_
    refine s_calli rfl rfl (fz1 rfl hc) (h _ (List.mem_of_getElem? (by assumption))) ?_
    refine s_nilO ?_
    refine q_seqN ?_
    refine s_keep [0, 1, 5, 7, 8, 16] rfl ?_
    first | refine s_condD rfl ?_ ?_ | refine s_condN rfl ?_ ?_ | refine s_condNB rfl ?_ ?_ | refine s_condB rfl ?_ ?_
    · intro h3
      try rw [Decidable.not_not] at h3
      refine S_seq ?_
      refine s_rg ?_
      refine s_op (o_mv rfl) ?_
      refine s_op (o_mv rfl) ?_
      refine s_nilO ?_
      refine q_seqN ?_
      refine s_keep [4] rfl ?_
      refine s_ret ?_
      refine q_blkR ?_
      refine q_seqR ?_
      refine q_loopR ?_
      refine q_blkR ?_
      refine q_seqR ?_
      refine ret_leaf (.inr rfl) rfl rfl ?_
      refine congrArg (fun b => V.w (.int .i64 b)) ?_
      first | exact (idxOf_at (by assumption) hi.2 (by assumption)).symm | exact (idxOf_no (any_end hi.2 (by omega))).symm
    · intro h3
      try rw [Decidable.not_not] at h3
      refine s_skip ?_
      refine q_blkN ?_
      refine q_seqN ?_
      refine s_keep [0, 1, 7, 8] rfl ?_
      refine s_rg ?_
      first | refine s_op (o_addn rfl rfl (by omega)) ?_ | refine s_op (o_add rfl rfl) ?_
      refine s_op (o_mv rfl) ?_
      refine s_nilO ?_
      refine q_loopN ?_
      exact ⟨i + 1, ⟨by omega, any_take (by assumption) hi.2 (by assumption)⟩, by omega, hasOf ⟨rfl, trivial⟩ rfl⟩
  · intro h1
    try rw [Decidable.not_not] at h1
    refine s_exit ?_
    refine q_seqX ?_
    refine q_loopX ?_
    refine q_blkH ?_
    refine q_seqN ?_
    refine s_keep [] rfl ?_
    refine S_seq ?_
    refine s_rg ?_
    refine s_op (o_mv rfl) ?_
    refine s_nilO ?_
    refine q_seqN ?_
    refine s_keep [4] rfl ?_
    refine s_ret ?_
    refine ret_leaf (.inr rfl) rfl rfl ?_
    refine congrArg (fun b => V.w (.int .i64 b)) ?_
    first | exact (idxOf_at (by assumption) hi.2 (by assumption)).symm | exact (idxOf_no (any_end hi.2 (by omega))).symm

theorem cg_262 (xs : List Done) (hl : xs.length ≤ 1048576) (f : Nat) (c : Int) (p : Done → Bool) (h : ∀ y, y ∈ xs → CV prg f [.agg (Done.r y), .rp [.w (.int .i64 c)] 0] (fun v => v = .w (.bool (p y)))) : GV prg 262 [.arr 7 (xs.map Done.r), .cell [.w (.int .i64 c)]] [.ls 0 xs.length, .fn f [.cp 1 0]] (fun u L1 => (u = .ls 0 xs.length ∧ L1 = [.arr 7 (xs.map Done.r), .cell [.w (.int .i64 c)]] ∧ xs.any p = false) ∨ (u = .ls 2 (xs.filter (fun y => !p y)).length ∧ L1 = [.dead, .cell [.w (.int .i64 c)], .arr 7 ((xs.filter (fun y => !p y)).map Done.r)])) := by
  have hix : -1 ≤ idxOf p xs ∧ idxOf p xs < xs.length := by rcases idx_cases p xs with ⟨h1, _⟩ | ⟨i, h1, h2, _⟩ <;> omega
  refine gv_in g262 ?_
  refine s_keep [0, 1] rfl ?_
  refine S_seq ?_
  refine s_rg ?_
  refine s_op (o_mv rfl) ?_
  refine s_nilO ?_
  refine q_seqN ?_
  refine s_keep [0, 1] rfl ?_
  refine S_seq ?_
  refine s_rg ?_
  refine s_op (o_mv rfl) ?_
  refine s_op (o_mv rfl) ?_
  refine s_callL rfl rfl (by simp) (c_268 _ (by omega) _ [.rp [.w (.int .i64 c)] 0] rfl _ h) rfl ?_
  refine s_op (o_mv rfl) ?_
  refine s_nilO ?_
  refine q_seqN ?_
  refine s_keep [0, 1, 5] rfl ?_
  refine S_seq ?_
  refine S_seq ?_
  refine s_rg ?_
  refine s_op (o_mv rfl) ?_
  first | refine s_op (o_eql rfl rfl) ?_ | refine s_op (o_bin rfl rfl rfl rfl) ?_
  refine s_nilO ?_
  refine q_seqN ?_
  refine s_keep [0, 1, 5, 12] rfl ?_
  first | refine s_condD rfl ?_ ?_ | refine s_condN rfl ?_ ?_ | refine s_condNB rfl ?_ ?_ | refine s_condB rfl ?_ ?_
  · intro h1
    try rw [Decidable.not_not] at h1
    refine S_seq ?_
    refine s_rg ?_
    refine s_op (o_mv rfl) ?_
    refine s_op (o_mv rfl) ?_
    refine s_nilO ?_
    refine q_seqN ?_
    refine s_keep [4] rfl ?_
    refine s_ret ?_
    refine q_seqR ?_
    first | (refine retG_leaf [] (.inr rfl) rfl rfl rfl rfl (show (List.range 2 ++ []).Nodup by decide) (.inl ⟨rfl, rfl, ?_⟩); rcases idx_cases p xs with ⟨_, h1⟩ | ⟨i, h1, _⟩; exact h1; exfalso; omega) | (refine retG_leaf [2] (.inr rfl) rfl rfl rfl rfl (show (List.range 2 ++ [2]).Nodup by decide) (.inr ⟨?_, ?_⟩) <;> simp only [Int.toNat_natCast, Int.toNat_zero, List.drop_zero, dl_fin] <;> simp only [flt_end p (show xs.length ≤ j by omega), List.length_map] <;> rfl)
  · intro h1
    try rw [Decidable.not_not] at h1
    refine s_skip ?_
    refine q_seqN ?_
    refine s_keep [0, 1, 5] rfl ?_
    refine S_seq ?_
    refine S_seq ?_
    refine s_rg ?_
    refine s_op (o_mv rfl) ?_
    first | refine s_op (o_addn rfl rfl (by omega)) ?_ | refine s_op (o_add rfl rfl) ?_
    refine s_op (o_mv rfl) ?_
    refine s_nilO ?_
    refine q_seqN ?_
    refine s_keep [0, 1, 5, 6] rfl ?_
    refine S_block ?_
    obtain ⟨i0, e0, e1, e2⟩ : ∃ i0 : Nat, idxOf p xs = i0 ∧ i0 < xs.length ∧ flt p xs (i0 + 1) = xs.take i0 := by
      rcases idx_cases p xs with ⟨h1, _⟩ | h1
      · exact absurd h1 (by assumption)
      · exact h1
    refine S_loop (ι := Nat) (fun j => j ≤ xs.length) (fun j => [(5, .w (.int .i64 ((flt p xs j).length : Int))), (6, .w (.int .i64 (j : Int)))]) (fun j => [.arr 7 ((dlT p xs j).map Done.r), .cell [.w (.int .i64 c)]]) (fun j => xs.length - j) 2 (i0 + 1) (by omega) rfl (hasOf ⟨congrArg (fun b => some (V.w (.int .i64 b))) (by rw [e0, e2, List.length_take, Nat.min_eq_left (by omega)]), congrArg (fun b => some (V.w (.int .i64 b))) (by omega), trivial⟩ (by rw [dl_start e1 e2]; rfl)) rfl (fun _ _ => rfl) (fun _ _ => ⟨rfl, rfl⟩) ?_
    intro j hj
    have hfl := flt_le p xs j
    obtain ⟨y, hy⟩ : ∃ y, j < xs.length → xs[j]? = some y := by
      by_cases h : j < xs.length
      · exact ⟨xs[j], fun _ => List.getElem?_eq_getElem h⟩
      · exact ⟨⟨0, 0, false, 0, 0, 0, 0⟩, fun h2 => absurd h2 h⟩
    obtain ⟨y2, hy2⟩ : ∃ y, j < xs.length → xs[(flt p xs j).length]? = some y := by
      by_cases h : j < xs.length
      · exact ⟨xs[(flt p xs j).length], fun _ => List.getElem?_eq_getElem (by omega)⟩
      · exact ⟨⟨0, 0, false, 0, 0, 0, 0⟩, fun h2 => absurd h2 h⟩
    refine s_keep [0, 1, 5, 6] rfl ?_
    refine S_seq ?_
    refine S_seq ?_
    refine s_rg ?_
    refine s_op (o_mv rfl) ?_
    refine s_op (o_mv rfl) ?_
    refine s_op (o_lenL rfl rfl (by simp [dl_len]; try omega)) ?_
    first | refine s_op (o_lss rfl rfl) ?_ | refine s_op (o_bin rfl rfl rfl rfl) ?_
    refine s_nilO ?_
    refine q_seqN ?_
    refine s_keep [0, 1, 5, 6, 19] rfl ?_
    first | refine s_condD rfl ?_ ?_ | refine s_condN rfl ?_ ?_ | refine s_condNB rfl ?_ ?_ | refine s_condB rfl ?_ ?_
    · intro h2
      try rw [Decidable.not_not] at h2
      refine s_skip ?_
      refine q_seqN ?_
      refine s_keep [0, 1, 5, 6] rfl ?_
      refine S_seq ?_
      refine S_block ?_
      refine S_seq ?_
      refine s_rg ?_
      refine s_op (o_mv rfl) ?_
      refine s_op (o_mv rfl) ?_
      refine s_op (o_iaL rfl rfl (by simp [dl_len]; try omega) rfl (by omega)) ?_
      refine s_op (o_ldnA rfl rfl (by simp [dl_len]; try omega) (by rw [Int.toNat_natCast]; first | exact dl_at _ _ (hy (by omega)) | exact dl_at2 _ _ (hy2 (by omega))) rfl) ?_
      refine s_op (o_new rfl rfl) ?_
      refine s_opN (o_stnC rfl rfl rfl rfl rfl rfl rfl) ?_
      refine s_nilO ?_
      refine q_seqN ?_
      refine s_keep [0, 1, 5, 6, 7] rfl ?_
      refine S_seq ?_
      refine s_rg ?_
      refine s_op (o_mv rfl) ?_
      refine s_op (o_ldnC rfl rfl rfl) ?_
      refine s_calliL rfl rfl rfl (by simp) (h _ (List.mem_of_getElem? (hy (by omega)))) rfl ?_
      refine s_op (o_not rfl) ?_
      refine s_nilO ?_
      refine q_seqN ?_
      refine s_keep [0, 1, 5, 6, 7, 29] rfl ?_
      first | refine s_condD rfl ?_ ?_ | refine s_condN rfl ?_ ?_ | refine s_condNB rfl ?_ ?_ | refine s_condB rfl ?_ ?_
      · intro h4
        try rw [Decidable.not_not] at h4
        refine S_seq ?_
        refine s_rg ?_
        refine s_op (o_mv rfl) ?_
        refine s_op (o_mv rfl) ?_
        refine s_op (o_ldnC rfl rfl rfl) ?_
        refine s_op (o_iaL rfl rfl (by simp [dl_len]; try omega) rfl (by omega)) ?_
        refine s_opN (o_stnA rfl rfl rfl rfl rfl (by simp [dl_len]; try omega) (by rw [Int.toNat_natCast]; first | exact dl_at _ _ (hy (by omega)) | exact dl_at2 _ _ (hy2 (by omega))) rfl rfl) ?_
        refine s_nilO ?_
        refine q_seqN ?_
        refine s_keep [0, 1, 5, 6] rfl ?_
        refine s_rg ?_
        refine s_op (o_mv rfl) ?_
        first | refine s_op (o_addn rfl rfl (by omega)) ?_ | refine s_op (o_add rfl rfl) ?_
        refine s_op (o_mv rfl) ?_
        refine s_nilO ?_
        refine q_blkN ?_
        refine q_seqN ?_
        refine s_keep [0, 1, 5, 6] rfl ?_
        refine s_rg ?_
        refine s_op (o_mv rfl) ?_
        first | refine s_op (o_addn rfl rfl (by omega)) ?_ | refine s_op (o_add rfl rfl) ?_
        refine s_op (o_mv rfl) ?_
        refine s_nilO ?_
        refine q_loopN ?_
        first | (refine ⟨j + 1, by omega, by omega, hasOf ⟨congrArg (fun b => some (V.w (.int .i64 b))) (by rw [flt_skip (hy (by omega)) (by assumption)]), rfl, trivial⟩ ?_⟩; rw [← dl_skip (hy (by omega)) (by assumption)]; rfl) | (refine ⟨j + 1, by omega, by omega, hasOf ⟨congrArg (fun b => some (V.w (.int .i64 b))) (by rw [flt_keep (hy (by omega)) (by assumption)]; simp), rfl, trivial⟩ ?_⟩; simp only [Int.toNat_natCast]; rw [← dl_keep Done.r (hy (by omega)) (by assumption)]; rfl)
      · intro h4
        try rw [Decidable.not_not] at h4
        refine s_skip ?_
        refine q_blkN ?_
        refine q_seqN ?_
        refine s_keep [0, 1, 5, 6] rfl ?_
        refine s_rg ?_
        refine s_op (o_mv rfl) ?_
        first | refine s_op (o_addn rfl rfl (by omega)) ?_ | refine s_op (o_add rfl rfl) ?_
        refine s_op (o_mv rfl) ?_
        refine s_nilO ?_
        refine q_loopN ?_
        first | (refine ⟨j + 1, by omega, by omega, hasOf ⟨congrArg (fun b => some (V.w (.int .i64 b))) (by rw [flt_skip (hy (by omega)) (by assumption)]), rfl, trivial⟩ ?_⟩; rw [← dl_skip (hy (by omega)) (by assumption)]; rfl) | (refine ⟨j + 1, by omega, by omega, hasOf ⟨congrArg (fun b => some (V.w (.int .i64 b))) (by rw [flt_keep (hy (by omega)) (by assumption)]; simp), rfl, trivial⟩ ?_⟩; simp only [Int.toNat_natCast]; rw [← dl_keep Done.r (hy (by omega)) (by assumption)]; rfl)
    · intro h2
      try rw [Decidable.not_not] at h2
      refine s_exit ?_
      refine q_seqX ?_
      refine q_loopX ?_
      refine q_blkH ?_
      refine q_seqN ?_
      refine s_keep [0, 5] rfl ?_
      refine S_seq ?_
      refine s_rg ?_
      refine s_op (o_mv rfl) ?_
      refine s_op (o_mv rfl) ?_
      refine s_clrS (t := 0) rfl rfl (by simp [dl_len]; try omega) rfl (by simp [dl_len]; omega) rfl rfl rfl rfl ?_
      refine s_nilO ?_
      refine q_seqN ?_
      refine s_keep [0, 5] rfl ?_
      refine S_seq ?_
      refine s_rg ?_
      refine s_op (o_mv rfl) ?_
      refine s_op (o_mv rfl) ?_
      refine s_cut rfl rfl (by simp [dl_len]; try omega) rfl rfl (by simp [dl_len]; omega) rfl rfl ?_
      refine s_op (o_mv rfl) ?_
      refine s_nilO ?_
      refine q_seqN ?_
      refine s_keep [4] rfl ?_
      refine s_ret ?_
      first | (refine retG_leaf [] (.inr rfl) rfl rfl rfl rfl (show (List.range 2 ++ []).Nodup by decide) (.inl ⟨rfl, rfl, ?_⟩); rcases idx_cases p xs with ⟨_, h1⟩ | ⟨i, h1, _⟩; exact h1; exfalso; omega) | (refine retG_leaf [2] (.inr rfl) rfl rfl rfl rfl (show (List.range 2 ++ [2]).Nodup by decide) (.inr ⟨?_, ?_⟩) <;> simp only [Int.toNat_natCast, Int.toNat_zero, List.drop_zero, dl_fin] <;> simp only [flt_end p (show xs.length ≤ j by omega), List.length_map] <;> rfl)

theorem cg_255 (xs : List Done) (hl : xs.length ≤ 1048576) : GV prg 255 [] [.sl 7 (xs.map Done.r)] (fun u L1 => u = .ls 0 xs.length ∧ L1 = [.arr 7 (xs.map Done.r)]) := by
  refine gv_in g255 ?_
  refine s_keep [0] rfl ?_
  refine S_seq ?_
  refine s_rg ?_
  refine s_op (o_mv rfl) ?_
  refine s_nilO ?_
  refine q_seqN ?_
  refine s_keep [0] rfl ?_
  refine S_seq ?_
  refine S_seq ?_
  refine s_rg ?_
  refine s_op (o_mv rfl) ?_
  refine s_eqnilS rfl ?_ ?_
  · skip
    refine s_nilO ?_
    refine q_seqN ?_
    refine s_keep [0, 4] rfl ?_
    refine s_condF rfl ?_
    refine s_skip ?_
    refine q_seqN ?_
    refine s_keep [0] rfl ?_
    refine S_seq ?_
    refine s_rg ?_
    refine s_op (o_bs rfl rfl rfl rfl) ?_
    refine s_op (o_mv rfl) ?_
    first | refine s_op (o_appL rfl rfl rfl rfl rfl rfl rfl (by simp [roomy]; omega)) ?_ | refine s_op (o_app rfl rfl rfl rfl rfl (by simp [roomy]; omega)) ?_
    refine s_op (o_mv rfl) ?_
    refine s_nilO ?_
    refine q_seqN ?_
    refine s_keep [2] rfl ?_
    first | refine s_nil 2 7 rfl ⟨rfl, rfl⟩ rfl ?_ | skip
    refine s_ret ?_
    refine retG_leaf [0] (.inr rfl) rfl rfl rfl rfl (show (List.range 0 ++ [0]).Nodup by decide) ?_
    first | (have : xs = [] := List.map_eq_nil_iff.1 hnil
             subst this; exact ⟨rfl, rfl⟩) | exact ⟨by simp, rfl⟩
  · intro hnil
    refine s_nilO ?_
    refine q_seqN ?_
    refine s_keep [0, 4] rfl ?_
    refine s_condT rfl ?_
    refine S_seq ?_
    refine s_rg ?_
    refine s_op (o_mv rfl) ?_
    refine s_nilO ?_
    refine q_seqN ?_
    refine s_keep [2] rfl ?_
    first | refine s_nil 2 7 rfl ⟨rfl, rfl⟩ rfl ?_ | skip
    refine s_ret ?_
    refine q_seqR ?_
    refine retG_leaf [0] (.inr rfl) rfl rfl rfl rfl (show (List.range 0 ++ [0]).Nodup by decide) ?_
    first | (have : xs = [] := List.map_eq_nil_iff.1 hnil
             subst this; exact ⟨rfl, rfl⟩) | exact ⟨by simp, rfl⟩

theorem cg_162 (xs : List Done) (hl : xs.length ≤ 1048576) : GV prg 162 [] [.sl 7 (xs.map Done.r)] (fun u L1 => u = .ls 0 xs.length ∧ L1 = [.arr 7 (xs.map Done.r)]) := by
  refine gv_in g162 ?_
  refine s_keep [0] rfl ?_
  refine S_seq ?_
  refine s_rg ?_
  refine s_op (o_mv rfl) ?_
  refine s_nilO ?_
  refine q_seqN ?_
  refine s_keep [0] rfl ?_
  refine S_seq ?_
  refine s_rg ?_
  refine s_op (o_mv rfl) ?_
  first | refine s_op (o_lenM rfl) ?_ | refine s_op (o_len rfl) ?_
  refine s_op (o_mk rfl rfl rfl rfl ⟨by omega, by unfold roomy; omega, by unfold roomy; omega⟩ rfl) ?_
  refine s_op (o_mv rfl) ?_
  refine s_nilO ?_
  refine q_seqN ?_
  refine s_keep [0, 3] rfl ?_
  refine S_seq ?_
  refine S_seq ?_
  refine s_rg ?_
  refine s_op (o_mv rfl) ?_
  refine s_nilO ?_
  refine q_seqN ?_
  refine s_keep [0, 3, 4] rfl ?_
  refine S_block ?_
  refine S_loop (ι := Nat) (fun i => i ≤ xs.length) (fun i => [(4, .w (.int .i64 (i : Int)))]) (fun i => [.arr 7 (tabV Done.r [.w (.int .i64 0), .w (.int .i64 0), .w (.bool false), .w (.int .i64 0), .w (.int .i64 0), .w (.int .i64 0), .w (.int .i64 0)] xs i)]) (fun i => xs.length - i) 1 0 (by simp) rfl (hasOf ⟨rfl, trivial⟩ (by rw [tabV_zero]; rfl)) rfl (fun _ _ => rfl) (fun _ _ => ⟨rfl, rfl⟩) ?_
  intro i hi
  refine s_keep [0, 3, 4] rfl ?_
  refine S_seq ?_
  refine S_seq ?_
  refine s_rg ?_
  refine s_op (o_mv rfl) ?_
  refine s_op (o_mv rfl) ?_
  first | refine s_op (o_lenM rfl) ?_ | refine s_op (o_len rfl) ?_
  first | refine s_op (o_lss rfl rfl) ?_ | refine s_op (o_bin rfl rfl rfl rfl) ?_
  refine s_nilO ?_
  refine q_seqN ?_
  refine s_keep [0, 3, 4, 11] rfl ?_
  first | refine s_condD rfl ?_ ?_ | refine s_condN rfl ?_ ?_ | refine s_condNB rfl ?_ ?_ | refine s_condB rfl ?_ ?_
  · intro h1
    try rw [Decidable.not_not] at h1
    refine s_skip ?_
    refine q_seqN ?_
    refine s_keep [0, 3, 4] rfl ?_
    refine S_seq ?_
    refine S_block ?_
    refine s_rg ?_
    refine s_op (o_mv rfl) ?_
    refine s_op (o_mv rfl) ?_
    refine s_op (o_mv rfl) ?_
    refine s_op (o_mv rfl) ?_
    refine s_iaM rfl rfl (by first | omega | (rw [List.length_replicate]; omega)) ?_
    intro y2 e2
    try simp only [Int.toNat_natCast, Int.toNat_zero] at e2
    refine s_op (o_ldn rfl rfl) ?_
    first | refine s_call rfl rfl (c_161 _) ?_ | refine s_callL rfl rfl (by simp) (c_161 _) rfl ?_
    refine s_op (o_iaL rfl rfl (by rw [tabV_len _ _ _ _ (by omega), List.length_replicate]; rfl) rfl (by first | omega | (rw [List.length_replicate]; omega))) ?_
    refine s_opN (o_stnA rfl rfl rfl rfl rfl (by rw [tabV_len _ _ _ _ (by omega), List.length_replicate]; rfl) (by rw [Int.toNat_natCast]; exact tabV_at _ _ (by omega)) rfl rfl) ?_
    refine s_nilO ?_
    refine q_blkN ?_
    refine q_seqN ?_
    refine s_keep [0, 3, 4] rfl ?_
    refine s_rg ?_
    refine s_op (o_mv rfl) ?_
    first | refine s_op (o_addn rfl rfl (by omega)) ?_ | refine s_op (o_add rfl rfl) ?_
    refine s_op (o_mv rfl) ?_
    refine s_nilO ?_
    refine q_loopN ?_
    refine ⟨i + 1, by omega, by omega, hasOf ⟨rfl, trivial⟩ ?_⟩
    rw [← tabV_set Done.r [.w (.int .i64 0), .w (.int .i64 0), .w (.bool false), .w (.int .i64 0), .w (.int .i64 0), .w (.int .i64 0), .w (.int .i64 0)] (by assumption)]; rfl
  · intro h1
    try rw [Decidable.not_not] at h1
    refine s_exit ?_
    refine q_seqX ?_
    refine q_loopX ?_
    refine q_blkH ?_
    refine q_seqN ?_
    refine s_keep [3] rfl ?_
    refine S_seq ?_
    refine s_rg ?_
    refine s_op (o_mv rfl) ?_
    refine s_op (o_mv rfl) ?_
    refine s_nilO ?_
    refine q_seqN ?_
    refine s_keep [2] rfl ?_
    refine s_ret ?_
    refine retG_leaf [0] (.inr rfl) rfl rfl rfl rfl (show (List.range 0 ++ [0]).Nodup by decide) ?_
    exact ⟨by rw [List.length_replicate]; rfl, by rw [tabV_end _ _ _ (by omega)]⟩

def doneL (c : Int) (xs : List Done) : List Done := xs.filter (fun y => decide (y.who = c))
theorem doneL_le (c : Int) (xs : List Done) : (doneL c xs).length ≤ xs.length := List.length_filter_le ..
theorem doneL_del (c : Int) (xs : List Done) : xs.filter (fun y => !decide (¬ y.who = c)) = doneL c xs := by
  unfold doneL; congr 1; funext y; by_cases h : y.who = c <;> simp [h]
theorem doneL_none {c : Int} {xs : List Done} (h : xs.any (fun y => decide (¬ y.who = c)) = false) : doneL c xs = xs := by
  unfold doneL
  rw [List.filter_eq_self]
  intro x hx
  rw [List.any_eq_false] at h
  simpa using h x hx
theorem doneL_yes {c : Int} {xs : List Done} {i : Nat} {y : Done} (h : xs[i]? = some y) (e : y.who = c) : (doneL c (xs.take (i + 1))).map Done.r = (doneL c (xs.take i)).map Done.r ++ [Done.r y] := by
  unfold doneL; rw [take_get h, List.filter_append]; simp [e]
theorem doneL_no {c : Int} {xs : List Done} {i : Nat} {y : Done} (h : xs[i]? = some y) (e : ¬ y.who = c) : (doneL c (xs.take (i + 1))).map Done.r = (doneL c (xs.take i)).map Done.r := by
  unfold doneL; rw [take_get h, List.filter_append]; simp [e]
theorem doneL_end {c : Int} {xs : List Done} {i : Nat} (h : xs.length ≤ i) : doneL c (xs.take i) = doneL c xs := by
  rw [List.take_of_length_le h]

theorem c_43 (y : Done) (c : Int) : CV prg 43 [.agg y.r, .rp [.w (.int .i64 c)] 0] (fun res => res = .w (.bool (decide (¬ y.who = c)))) := by
  refine cv_in g43 ?_
  refine s_keep [0, 1] rfl ?_
  refine S_seq ?_
  refine s_rg ?_
  refine s_op (o_box rfl rfl rfl) ?_
  refine s_op (o_mv rfl) ?_
  refine s_nilO ?_
  refine q_seqN ?_
  refine s_keep [1, 2] rfl ?_
  refine S_seq ?_
  refine s_rg ?_
  refine s_op (o_faC rfl) ?_
  refine s_op (o_ldC rfl rfl rfl) ?_
  refine s_op (o_ld rfl rfl) ?_
  first | refine s_op (o_neq rfl rfl) ?_ | refine s_op (o_bin rfl rfl rfl rfl) ?_
  refine s_op (o_mv rfl) ?_
  refine s_nilO ?_
  refine q_seqN ?_
  refine s_keep [3] rfl ?_
  refine s_ret ?_
  refine ret_leaf (.inr rfl) rfl rfl ?_
  refine congrArg (fun b => V.w (.bool b)) ?_
  rfl

theorem cg_42 (xs : List Done) (hl : xs.length ≤ 1048576) (c : Int) : GV prg 42 [] [.sl 7 (xs.map Done.r), .w (.int .i64 c)] (fun u L1 => u = .ls 0 (doneL c xs).length ∧ L1 = [.arr 7 ((doneL c xs).map Done.r)]) := by
  refine gv_in g42 ?_
  refine s_keep [0, 1] rfl ?_
  refine S_seq ?_
  refine s_rg ?_
  refine s_op (o_box rfl rfl rfl) ?_
  refine s_op (o_mv rfl) ?_
  refine s_nilO ?_
  refine q_seqN ?_
  refine s_keep [0, 3] rfl ?_
  refine S_seq ?_
  refine s_rg ?_
  refine s_op (o_mv rfl) ?_
  refine s_callG [] rfl rfl rfl rfl (by simp) (.inl rfl) (cg_255 _ hl) ?_
  rintro u L1 ⟨rfl, rfl⟩
  refine ⟨_, _, rfl, rfl, ?_⟩
  refine s_op (o_fn rfl) ?_
  refine s_callG [1, 0] rfl rfl rfl rfl (by simp) (.inl rfl) (cg_262 _ hl 43 c _ (fun y _ => c_43 y c)) ?_
  rintro u L1 (⟨rfl, rfl, hany⟩ | ⟨rfl, rfl⟩)
  · refine ⟨_, _, rfl, rfl, ?_⟩
    refine s_op (o_mv rfl) ?_
    refine s_nilO ?_
    refine q_seqN ?_
    refine s_keep [4] rfl ?_
    refine s_ret ?_
    first | (refine retG_leaf [1] (.inr rfl) rfl rfl rfl rfl (show (List.range 0 ++ [1]).Nodup by decide) ?_; rw [doneL_none hany]; exact ⟨rfl, rfl⟩) | (refine retG_leaf [2] (.inr rfl) rfl rfl rfl rfl (show (List.range 0 ++ [2]).Nodup by decide) ?_; rw [← doneL_del]; exact ⟨rfl, rfl⟩)
  · refine ⟨_, _, rfl, rfl, ?_⟩
    refine s_op (o_mv rfl) ?_
    refine s_nilO ?_
    refine q_seqN ?_
    refine s_keep [4] rfl ?_
    refine s_ret ?_
    first | (refine retG_leaf [1] (.inr rfl) rfl rfl rfl rfl (show (List.range 0 ++ [1]).Nodup by decide) ?_; rw [doneL_none hany]; exact ⟨rfl, rfl⟩) | (refine retG_leaf [2] (.inr rfl) rfl rfl rfl rfl (show (List.range 0 ++ [2]).Nodup by decide) ?_; rw [← doneL_del]; exact ⟨rfl, rfl⟩)

theorem c_190 (xs : List Done) (c : Int) (hl : xs.length ≤ 1048576) : CV prg 190 [.sl 7 (xs.map Done.r), .w (.int .i64 c)] (fun res => res = .sl 7 ((doneL c xs).map Done.r)) := by
  refine cv_in g190 ?_
  refine s_keep [0, 1] rfl ?_
  refine S_seq ?_
  refine s_rg ?_
  refine s_op (o_mv rfl) ?_
  refine s_nilO ?_
  refine q_seqN ?_
  refine s_keep [0, 1] rfl ?_
  refine S_seq ?_
  refine s_rg ?_
  refine s_op (o_bs rfl rfl rfl rfl) ?_
  refine s_op (o_mv rfl) ?_
  refine s_nilO ?_
  refine q_seqN ?_
  refine s_keep [0, 1, 5] rfl ?_
  refine S_seq ?_
  refine S_seq ?_
  refine s_rg ?_
  refine s_op (o_mv rfl) ?_
  refine s_nilO ?_
  refine q_seqN ?_
  refine s_keep [0, 1, 5, 6] rfl ?_
  refine S_block ?_
  refine S_loop (ι := Nat) (fun i => i ≤ xs.length) (fun i => [(6, .w (.int .i64 (i : Int))), (5, .ls 0 ((doneL c (xs.take i)).map Done.r).length)]) (fun i => [.arr 7 ((doneL c (xs.take i)).map Done.r)]) (fun i => xs.length - i) 1 0 (by simp) rfl (hasOf ⟨rfl, rfl, trivial⟩ rfl) rfl (fun _ _ => rfl) (fun _ _ => ⟨rfl, rfl⟩) ?_
  intro i hi
  have hdl : (doneL c (xs.take i)).length ≤ i := by
    have := doneL_le c (xs.take i)
    rw [List.length_take] at this
    omega
  refine s_keep [0, 1, 5, 6] rfl ?_
  refine S_seq ?_
  refine S_seq ?_
  refine s_rg ?_
  refine s_op (o_mv rfl) ?_
  refine s_op (o_mv rfl) ?_
  first | refine s_op (o_lenM rfl) ?_ | refine s_op (o_len rfl) ?_
  first | refine s_op (o_lss rfl rfl) ?_ | refine s_op (o_bin rfl rfl rfl rfl) ?_
  refine s_nilO ?_
  refine q_seqN ?_
  refine s_keep [0, 1, 5, 6, 11] rfl ?_
  first | refine s_condD rfl ?_ ?_ | refine s_condN rfl ?_ ?_ | refine s_condNB rfl ?_ ?_ | refine s_condB rfl ?_ ?_
  · intro h1
    try rw [Decidable.not_not] at h1
    refine s_skip ?_
    refine q_seqN ?_
    refine s_keep [0, 1, 5, 6] rfl ?_
    refine S_seq ?_
    refine S_block ?_
    refine S_seq ?_
    refine s_rg ?_
    refine s_op (o_mv rfl) ?_
    refine s_op (o_mv rfl) ?_
    refine s_iaM rfl rfl (by omega) ?_
    intro y2 e2
    try simp only [Int.toNat_natCast, Int.toNat_zero] at e2
    refine s_op (o_fa rfl) ?_
    refine s_op (o_ld rfl rfl) ?_
    refine s_op (o_mv rfl) ?_
    first | refine s_op (o_eql rfl rfl) ?_ | refine s_op (o_bin rfl rfl rfl rfl) ?_
    refine s_nilO ?_
    refine q_seqN ?_
    refine s_keep [0, 1, 5, 6, 20] rfl ?_
    first | refine s_condD rfl ?_ ?_ | refine s_condN rfl ?_ ?_ | refine s_condNB rfl ?_ ?_ | refine s_condB rfl ?_ ?_
    · intro h3
      try rw [Decidable.not_not] at h3
      refine s_rg ?_
      refine s_op (o_mv rfl) ?_
      refine s_op (o_mv rfl) ?_
      refine s_op (o_mv rfl) ?_
      refine s_iaM rfl rfl (by omega) ?_
      intro y4 e4
      try simp only [Int.toNat_natCast, Int.toNat_zero] at e4
      refine s_op (o_ldn rfl rfl) ?_
      refine s_op (o_bs rfl rfl rfl rfl) ?_
      first | refine s_op (o_appL rfl rfl rfl rfl rfl rfl rfl (by simp [roomy]; omega)) ?_ | refine s_op (o_app rfl rfl rfl rfl rfl (by simp [roomy]; omega)) ?_
      refine s_op (o_mv rfl) ?_
      refine s_nilO ?_
      refine q_blkN ?_
      refine q_seqN ?_
      refine s_keep [0, 1, 5, 6] rfl ?_
      refine s_rg ?_
      refine s_op (o_mv rfl) ?_
      first | refine s_op (o_addn rfl rfl (by omega)) ?_ | refine s_op (o_add rfl rfl) ?_
      refine s_op (o_mv rfl) ?_
      refine s_nilO ?_
      refine q_loopN ?_
      first | (have hyes : ∀ y, xs[i]? = some y → y.who = c := fun y hy => by clear hi hdl; simp_all
               refine ⟨i + 1, by omega, by omega, hasOf ⟨rfl, ?_, trivial⟩ ?_⟩ <;> rw [doneL_yes (by assumption) (hyes _ (by assumption))] <;> rfl) | (refine ⟨i + 1, by omega, by omega, hasOf ⟨rfl, ?_, trivial⟩ ?_⟩ <;> rw [doneL_no (by assumption) (by assumption)] <;> rfl)
    · intro h3
      try rw [Decidable.not_not] at h3
      refine s_skip ?_
      refine q_blkN ?_
      refine q_seqN ?_
      refine s_keep [0, 1, 5, 6] rfl ?_
      refine s_rg ?_
      refine s_op (o_mv rfl) ?_
      first | refine s_op (o_addn rfl rfl (by omega)) ?_ | refine s_op (o_add rfl rfl) ?_
      refine s_op (o_mv rfl) ?_
      refine s_nilO ?_
      refine q_loopN ?_
      first | (have hyes : ∀ y, xs[i]? = some y → y.who = c := fun y hy => by clear hi hdl; simp_all
               refine ⟨i + 1, by omega, by omega, hasOf ⟨rfl, ?_, trivial⟩ ?_⟩ <;> rw [doneL_yes (by assumption) (hyes _ (by assumption))] <;> rfl) | (refine ⟨i + 1, by omega, by omega, hasOf ⟨rfl, ?_, trivial⟩ ?_⟩ <;> rw [doneL_no (by assumption) (by assumption)] <;> rfl)
  · intro h1
    try rw [Decidable.not_not] at h1
    refine s_exit ?_
    refine q_seqX ?_
    refine q_loopX ?_
    refine q_blkH ?_
    refine q_seqN ?_
    refine s_keep [5] rfl ?_
    refine S_seq ?_
    refine s_rg ?_
    refine s_op (o_mv rfl) ?_
    refine s_op (o_mv rfl) ?_
    refine s_nilO ?_
    refine q_seqN ?_
    refine s_keep [4] rfl ?_
    refine s_ret ?_
    refine ret_leafA (.inr rfl) rfl rfl rfl ?_
    rw [doneL_end (show xs.length ≤ i by omega)]

theorem c_109 (x : List Done) (hwx : x.length ≤ 140737488355328) (c : Int) : CV prg 109 [.sl 7 (x.map Done.r), .w (.int .i64 c)] (fun res => res = .w (.bool true)) := by
  refine cv_in g109 ?_
  refine s_keep [0, 1] rfl ?_
  refine S_seq ?_
  refine s_rg ?_
  refine s_op (o_mv rfl) ?_
  refine s_nilO ?_
  refine q_seqN ?_
  refine s_keep [0, 1] rfl ?_
  refine S_seq ?_
  refine s_rg ?_
  refine s_op (o_mv rfl) ?_
  refine s_nilO ?_
  refine q_seqN ?_
  refine s_keep [0, 1, 5] rfl ?_
  refine S_seq ?_
  refine s_rg ?_
  refine s_op (o_mv rfl) ?_
  refine s_op (o_mv rfl) ?_
  refine s_call rfl rfl (c_147 _ _ (by (try unfold room at *); omega) (by assumption)) ?_
  refine s_op (o_mv rfl) ?_
  refine s_nilO ?_
  refine q_seqN ?_
  refine s_keep [0, 1, 5] rfl ?_
  refine S_seq ?_
  refine S_seq ?_
  refine s_rg ?_
  refine s_op (o_mv rfl) ?_
  first | refine s_op (o_lss rfl rfl) ?_ | refine s_op (o_bin rfl rfl rfl rfl) ?_
  refine s_nilO ?_
  refine q_seqN ?_
  refine s_keep [0, 1, 17] rfl ?_
  first | refine s_condD rfl ?_ ?_ | refine s_condN rfl ?_ ?_ | refine s_condNB rfl ?_ ?_ | refine s_condB rfl ?_ ?_
  · intro h1
    try rw [Decidable.not_not] at h1
    try (have hlx : x.length ≤ 1048576 := by (try unfold room at *); omega)
    refine S_seq ?_
    refine s_rg ?_
    refine s_op (o_mv rfl) ?_
    refine s_nilO ?_
    refine q_seqN ?_
    refine s_keep [4] rfl ?_
    refine s_ret ?_
    refine q_seqR ?_
    refine ret_leaf (.inr rfl) rfl rfl ?_
    refine congrArg (fun b => V.w (.bool b)) ?_
    first | rfl | (exfalso; simp_all; done) | (exfalso; simp_all <;> omega) | (exfalso; omega)
  · intro h1
    try rw [Decidable.not_not] at h1
    try (have hlx : x.length ≤ 1048576 := by (try unfold room at *); omega)
    refine s_skip ?_
    refine q_seqN ?_
    refine s_keep [0, 1] rfl ?_
    refine S_seq ?_
    refine s_rg ?_
    refine s_op (o_mv rfl) ?_
    refine s_call rfl rfl (c_162 _ hlx) ?_
    have hb8 : (doneL c x).length ≤ 1048576 := Nat.le_trans (doneL_le c x) hlx
    refine s_op (o_mv rfl) ?_
    first | refine s_call rfl rfl (c_190 _ _ hlx) ?_ | refine s_callL rfl rfl (by simp) (c_190 _ _ hlx) rfl ?_
    refine s_op (o_mv rfl) ?_
    refine s_nilO ?_
    refine q_seqN ?_
    refine s_keep [0, 1, 6] rfl ?_
    refine S_seq ?_
    refine s_rg ?_
    refine s_op (o_mv rfl) ?_
    refine s_callG [] rfl rfl rfl rfl (by simp) (.inl rfl) (cg_162 _ hlx) ?_
    rintro u L1 ⟨rfl, rfl⟩
    refine ⟨_, _, rfl, rfl, ?_⟩
    refine s_op (o_mv rfl) ?_
    refine s_nilO ?_
    refine q_seqN ?_
    refine s_keep [0, 1, 6, 7] rfl ?_
    refine S_seq ?_
    refine s_rg ?_
    refine s_op (o_mv rfl) ?_
    refine s_op (o_mv rfl) ?_
    refine s_callGL rfl rfl (by simp) (cg_42 x hlx c) ?_
    rintro u L1 ⟨rfl, rfl⟩
    refine ⟨rfl, ?_, _, _, rfl, rfl, ?_⟩
    · intro lb hlb
      simp only [List.mem_cons, List.not_mem_nil, or_false] at hlb
      subst hlb
      exact words_map _ _ (fun y v hv => by simp [Done.r] at hv; rcases hv with rfl | rfl | rfl | rfl | rfl | rfl | rfl <;> exact ⟨_, rfl⟩)
    refine s_op (o_mv rfl) ?_
    refine s_nilO ?_
    refine q_seqN ?_
    refine s_keep [0, 1, 6, 7, 8] rfl ?_
    refine S_seq ?_
    refine S_seq ?_
    refine s_rg ?_
    refine s_op (o_mv rfl) ?_
    refine s_op (o_mv rfl) ?_
    first | refine s_call rfl rfl (c_131 _ _ (by first | exact hlx | exact hb8)) ?_ | refine s_callL rfl rfl (by simp) (c_131 _ _ (by first | exact hlx | exact hb8)) rfl ?_
    refine s_op (o_not rfl) ?_
    refine s_nilO ?_
    refine q_seqN ?_
    refine s_keep [0, 1, 6, 7, 8, 30] rfl ?_
    first | refine s_condD rfl ?_ ?_ | refine s_condN rfl ?_ ?_ | refine s_condNB rfl ?_ ?_ | refine s_condB rfl ?_ ?_
    · intro h2
      try rw [Decidable.not_not] at h2
      try (have hlx : x.length ≤ 1048576 := by (try unfold room at *); omega)
      refine S_seq ?_
      refine s_rg ?_
      refine s_op (o_mv rfl) ?_
      refine s_nilO ?_
      refine q_seqN ?_
      refine s_keep [4] rfl ?_
      refine s_ret ?_
      refine q_seqR ?_
      refine ret_leaf (.inr rfl) rfl rfl ?_
      refine congrArg (fun b => V.w (.bool b)) ?_
      first | rfl | (exfalso; simp_all; done) | (exfalso; simp_all <;> omega) | (exfalso; omega)
    · intro h2
      try rw [Decidable.not_not] at h2
      try (have hlx : x.length ≤ 1048576 := by (try unfold room at *); omega)
      refine s_skip ?_
      refine q_seqN ?_
      refine s_keep [0, 1, 6, 7, 8] rfl ?_
      refine S_seq ?_
      refine S_seq ?_
      refine s_rg ?_
      refine s_op (o_mv rfl) ?_
      refine s_op (o_mv rfl) ?_
      refine s_call rfl rfl (c_162 _ hlx) ?_
      first | refine s_call rfl rfl (c_131 _ _ (by first | exact hlx | exact hb8)) ?_ | refine s_callL rfl rfl (by simp) (c_131 _ _ (by first | exact hlx | exact hb8)) rfl ?_
      refine s_op (o_not rfl) ?_
      refine s_nilO ?_
      refine q_seqN ?_
      refine s_keep [0, 1, 6, 7, 8, 35] rfl ?_
      first | refine s_condD rfl ?_ ?_ | refine s_condN rfl ?_ ?_ | refine s_condNB rfl ?_ ?_ | refine s_condB rfl ?_ ?_
      · intro h3
        try rw [Decidable.not_not] at h3
        try (have hlx : x.length ≤ 1048576 := by (try unfold room at *); omega)
        refine S_seq ?_
        refine s_rg ?_
        refine s_op (o_mv rfl) ?_
        refine s_nilO ?_
        refine q_seqN ?_
        refine s_keep [4] rfl ?_
        refine s_ret ?_
        refine q_seqR ?_
        refine ret_leaf (.inr rfl) rfl rfl ?_
        refine congrArg (fun b => V.w (.bool b)) ?_
        first | rfl | (exfalso; simp_all; done) | (exfalso; simp_all <;> omega) | (exfalso; omega)
      · intro h3
        try rw [Decidable.not_not] at h3
        try (have hlx : x.length ≤ 1048576 := by (try unfold room at *); omega)
        refine s_skip ?_
        refine q_seqN ?_
        refine s_keep [0, 1, 6, 7, 8] rfl ?_
        refine S_seq ?_
        refine s_rg ?_
        refine s_op (o_mv rfl) ?_
        refine s_nilO ?_
        refine q_seqN ?_
        refine s_keep [0, 1, 6, 7, 8, 9] rfl ?_
        refine S_seq ?_
        refine s_rg ?_
        refine s_op (o_mv rfl) ?_
        refine s_op (o_mv rfl) ?_
        refine s_callG [0] rfl rfl rfl rfl (by simp) (.inl rfl) (cg_142 _ _ hlx (by omega)) ?_
        rintro u L1 ⟨rfl, rfl⟩
        refine ⟨_, _, rfl, rfl, ?_⟩
        refine s_op (o_mv rfl) ?_
        refine s_nilO ?_
        refine q_seqN ?_
        refine s_keep [0, 1, 6, 8, 9] rfl ?_
        refine S_seq ?_
        refine S_seq ?_
        refine s_rg ?_
        refine s_op (o_mv rfl) ?_
        first | refine s_op (o_lss rfl rfl) ?_ | refine s_op (o_bin rfl rfl rfl rfl) ?_
        refine s_op (o_mv rfl) ?_
        first | refine s_gDF rfl ?_ ?_ | refine s_gNDF rfl ?_ ?_ | refine s_gNF rfl ?_ ?_ | refine s_gB rfl ?_ ?_
        · intro h4
          try rw [Decidable.not_not] at h4
          try (have hlx : x.length ≤ 1048576 := by (try unfold room at *); omega)
          refine s_op (o_mv rfl) ?_
          refine s_gT rfl ?_
          refine s_op (o_mv rfl) ?_
          refine s_gT rfl ?_
          first | refine s_call rfl rfl (c_131 _ _ (by first | exact hlx | exact hb8)) ?_ | refine s_callL rfl rfl (by simp) (c_131 _ _ (by first | exact hlx | exact hb8)) rfl ?_
          refine s_gT rfl ?_
          refine s_op (o_not rfl) ?_
          refine s_op (o_pickF rfl rfl) ?_
          refine s_nilO ?_
          refine q_seqN ?_
          refine s_keep [0, 1, 6, 8, 46] rfl ?_
          first | refine s_condD rfl ?_ ?_ | refine s_condN rfl ?_ ?_ | refine s_condNB rfl ?_ ?_ | refine s_condB rfl ?_ ?_
          · intro h5
            try rw [Decidable.not_not] at h5
            try (have hlx : x.length ≤ 1048576 := by (try unfold room at *); omega)
            refine S_seq ?_
            refine s_rg ?_
            refine s_op (o_mv rfl) ?_
            refine s_nilO ?_
            refine q_seqN ?_
            refine s_keep [4] rfl ?_
            refine s_ret ?_
            refine q_seqR ?_
            refine ret_leaf (.inr rfl) rfl rfl ?_
            refine congrArg (fun b => V.w (.bool b)) ?_
            first | rfl | (exfalso; simp_all; done) | (exfalso; simp_all <;> omega) | (exfalso; omega)
          · intro h5
            try rw [Decidable.not_not] at h5
            try (have hlx : x.length ≤ 1048576 := by (try unfold room at *); omega)
            refine s_skip ?_
            refine q_seqN ?_
            refine s_keep [0, 1, 6, 8] rfl ?_
            refine S_seq ?_
            refine s_rg ?_
            refine s_op (o_mv rfl) ?_
            refine s_nilO ?_
            refine q_seqN ?_
            refine s_keep [0, 1, 6, 8, 10] rfl ?_
            refine S_seq ?_
            refine s_rg ?_
            refine s_op (o_mv rfl) ?_
            refine s_op (o_mv rfl) ?_
            refine s_callG [1] rfl rfl rfl rfl (by simp) (.inl rfl) (cg_142 _ _ hb8 (by omega)) ?_
            rintro u L1 ⟨rfl, rfl⟩
            refine ⟨_, _, rfl, rfl, ?_⟩
            refine s_op (o_mv rfl) ?_
            refine s_nilO ?_
            refine q_seqN ?_
            refine s_keep [0, 1, 6, 8, 10] rfl ?_
            refine S_seq ?_
            refine s_rg ?_
            refine s_op (o_mv rfl) ?_
            refine s_nilO ?_
            refine q_seqN ?_
            refine s_keep [0, 1, 6, 8, 10, 11] rfl ?_
            refine S_seq ?_
            refine s_rg ?_
            refine s_op (o_mv rfl) ?_
            refine s_op (o_mv rfl) ?_
            first | refine s_call rfl rfl (c_141 _ _ hb8 (by omega)) ?_ | refine s_callL rfl rfl (by simp) (c_141 _ _ hb8 (by omega)) rfl ?_
            refine s_op (o_mv rfl) ?_
            refine s_nilO ?_
            refine q_seqN ?_
            refine s_keep [0, 1, 6, 8, 10, 11] rfl ?_
            refine S_seq ?_
            refine S_seq ?_
            refine s_rg ?_
            refine s_op (o_mv rfl) ?_
            first | refine s_op (o_lss rfl rfl) ?_ | refine s_op (o_bin rfl rfl rfl rfl) ?_
            refine s_nilO ?_
            refine q_seqN ?_
            refine s_keep [0, 1, 6, 8, 10, 11, 54] rfl ?_
            first | refine s_condD rfl ?_ ?_ | refine s_condN rfl ?_ ?_ | refine s_condNB rfl ?_ ?_ | refine s_condB rfl ?_ ?_
            · intro h6
              try rw [Decidable.not_not] at h6
              try (have hlx : x.length ≤ 1048576 := by (try unfold room at *); omega)
              refine S_seq ?_
              refine s_rg ?_
              refine s_op (o_mv rfl) ?_
              refine s_nilO ?_
              refine q_seqN ?_
              refine s_keep [4] rfl ?_
              refine s_ret ?_
              refine q_seqR ?_
              refine ret_leaf (.inr rfl) rfl rfl ?_
              refine congrArg (fun b => V.w (.bool b)) ?_
              first | rfl | (exfalso; simp_all; done) | (exfalso; simp_all <;> omega) | (exfalso; omega)
            · intro h6
              try rw [Decidable.not_not] at h6
              try (have hlx : x.length ≤ 1048576 := by (try unfold room at *); omega)
              refine s_skip ?_
              refine q_seqN ?_
              refine s_keep [0, 1, 6, 8, 10, 11] rfl ?_
              refine S_seq ?_
              refine S_seq ?_
              refine s_rg ?_
              refine s_op (o_mv rfl) ?_
              refine s_op (o_mv rfl) ?_
              first | refine s_op (o_neq rfl rfl) ?_ | refine s_op (o_bin rfl rfl rfl rfl) ?_
              refine s_nilO ?_
              refine q_seqN ?_
              refine s_keep [0, 1, 6, 8, 10, 57] rfl ?_
              first | refine s_condD rfl ?_ ?_ | refine s_condN rfl ?_ ?_ | refine s_condNB rfl ?_ ?_ | refine s_condB rfl ?_ ?_
              · intro h7
                try rw [Decidable.not_not] at h7
                try (have hlx : x.length ≤ 1048576 := by (try unfold room at *); omega)
                refine S_seq ?_
                refine s_rg ?_
                refine s_op (o_mv rfl) ?_
                refine s_nilO ?_
                refine q_seqN ?_
                refine s_keep [4] rfl ?_
                refine s_ret ?_
                refine q_seqR ?_
                refine ret_leaf (.inr rfl) rfl rfl ?_
                refine congrArg (fun b => V.w (.bool b)) ?_
                first | rfl | (exfalso; simp_all; done) | (exfalso; simp_all <;> omega) | (exfalso; omega)
              · intro h7
                try rw [Decidable.not_not] at h7
                try (have hlx : x.length ≤ 1048576 := by (try unfold room at *); omega)
                refine s_skip ?_
                refine q_seqN ?_
                refine s_keep [0, 1, 6, 8, 10] rfl ?_
                refine S_seq ?_
                refine s_rg ?_
                refine s_op (o_mv rfl) ?_
                refine s_call rfl rfl (c_162 _ hlx) ?_
                refine s_op (o_mv rfl) ?_
                refine s_callG [] rfl rfl rfl rfl (by simp) (.inl rfl) (cg_42 x hlx c) ?_
                rintro u L1 ⟨rfl, rfl⟩
                refine ⟨_, _, rfl, rfl, ?_⟩
                refine s_op (o_mv rfl) ?_
                refine s_nilO ?_
                refine q_seqN ?_
                refine s_keep [6, 8, 10, 12] rfl ?_
                refine S_seq ?_
                refine S_seq ?_
                refine s_rg ?_
                refine s_op (o_mv rfl) ?_
                refine s_op (o_mv rfl) ?_
                first | refine s_call rfl rfl (c_131 _ _ (by first | exact hlx | exact hb8)) ?_ | refine s_callL rfl rfl (by simp) (c_131 _ _ (by first | exact hlx | exact hb8)) rfl ?_
                refine s_op (o_not rfl) ?_
                refine s_nilO ?_
                refine q_seqN ?_
                refine s_keep [8, 10, 65] rfl ?_
                first | refine s_condD rfl ?_ ?_ | refine s_condN rfl ?_ ?_ | refine s_condNB rfl ?_ ?_ | refine s_condB rfl ?_ ?_
                · intro h8
                  try rw [Decidable.not_not] at h8
                  try (have hlx : x.length ≤ 1048576 := by (try unfold room at *); omega)
                  refine S_seq ?_
                  refine s_rg ?_
                  refine s_op (o_mv rfl) ?_
                  refine s_nilO ?_
                  refine q_seqN ?_
                  refine s_keep [4] rfl ?_
                  refine s_ret ?_
                  refine q_seqR ?_
                  refine ret_leaf (.inr rfl) rfl rfl ?_
                  refine congrArg (fun b => V.w (.bool b)) ?_
                  first | rfl | (exfalso; simp_all; done) | (exfalso; simp_all <;> omega) | (exfalso; omega)
                · intro h8
                  try rw [Decidable.not_not] at h8
                  try (have hlx : x.length ≤ 1048576 := by (try unfold room at *); omega)
                  refine s_skip ?_
                  refine q_seqN ?_
                  refine s_keep [8, 10] rfl ?_
                  refine S_seq ?_
                  refine s_rg ?_
                  refine s_op (o_mv rfl) ?_
                  refine s_nilO ?_
                  refine q_seqN ?_
                  refine s_keep [8, 10, 11] rfl ?_
                  refine S_seq ?_
                  refine s_rg ?_
                  refine s_op (o_mv rfl) ?_
                  refine s_op (o_mv rfl) ?_
                  first | refine s_call rfl rfl (c_141 _ _ hb8 (by omega)) ?_ | refine s_callL rfl rfl (by simp) (c_141 _ _ hb8 (by omega)) rfl ?_
                  refine s_op (o_mv rfl) ?_
                  refine s_nilO ?_
                  refine q_seqN ?_
                  refine s_keep [10, 11] rfl ?_
                  refine S_seq ?_
                  refine S_seq ?_
                  refine s_rg ?_
                  refine s_op (o_mv rfl) ?_
                  first | refine s_op (o_lss rfl rfl) ?_ | refine s_op (o_bin rfl rfl rfl rfl) ?_
                  refine s_nilO ?_
                  refine q_seqN ?_
                  refine s_keep [10, 11, 70] rfl ?_
                  first | refine s_condD rfl ?_ ?_ | refine s_condN rfl ?_ ?_ | refine s_condNB rfl ?_ ?_ | refine s_condB rfl ?_ ?_
                  · intro h9
                    try rw [Decidable.not_not] at h9
                    try (have hlx : x.length ≤ 1048576 := by (try unfold room at *); omega)
                    refine S_seq ?_
                    refine s_rg ?_
                    refine s_op (o_mv rfl) ?_
                    refine s_nilO ?_
                    refine q_seqN ?_
                    refine s_keep [4] rfl ?_
                    refine s_ret ?_
                    refine q_seqR ?_
                    refine ret_leaf (.inr rfl) rfl rfl ?_
                    refine congrArg (fun b => V.w (.bool b)) ?_
                    first | rfl | (exfalso; simp_all; done) | (exfalso; simp_all <;> omega) | (exfalso; omega)
                  · intro h9
                    try rw [Decidable.not_not] at h9
                    try (have hlx : x.length ≤ 1048576 := by (try unfold room at *); omega)
                    refine s_skip ?_
                    refine q_seqN ?_
                    refine s_keep [10, 11] rfl ?_
                    refine S_seq ?_
                    refine S_seq ?_
                    refine s_rg ?_
                    refine s_op (o_mv rfl) ?_
                    refine s_op (o_mv rfl) ?_
                    first | refine s_op (o_neq rfl rfl) ?_ | refine s_op (o_bin rfl rfl rfl rfl) ?_
                    refine s_nilO ?_
                    refine q_seqN ?_
                    refine s_keep [73] rfl ?_
                    first | refine s_condD rfl ?_ ?_ | refine s_condN rfl ?_ ?_ | refine s_condNB rfl ?_ ?_ | refine s_condB rfl ?_ ?_
                    · intro h10
                      try rw [Decidable.not_not] at h10
                      try (have hlx : x.length ≤ 1048576 := by (try unfold room at *); omega)
                      refine S_seq ?_
                      refine s_rg ?_
                      refine s_op (o_mv rfl) ?_
                      refine s_nilO ?_
                      refine q_seqN ?_
                      refine s_keep [4] rfl ?_
                      refine s_ret ?_
                      refine q_seqR ?_
                      refine ret_leaf (.inr rfl) rfl rfl ?_
                      refine congrArg (fun b => V.w (.bool b)) ?_
                      first | rfl | (exfalso; simp_all; done) | (exfalso; simp_all <;> omega) | (exfalso; omega)
                    · intro h10
                      try rw [Decidable.not_not] at h10
                      try (have hlx : x.length ≤ 1048576 := by (try unfold room at *); omega)
                      refine s_skip ?_
                      refine q_seqN ?_
                      refine s_keep [] rfl ?_
                      refine S_seq ?_
                      refine s_rg ?_
                      refine s_op (o_mv rfl) ?_
                      refine s_nilO ?_
                      refine q_seqN ?_
                      refine s_keep [4] rfl ?_
                      refine s_ret ?_
                      refine ret_leaf (.inr rfl) rfl rfl ?_
                      refine congrArg (fun b => V.w (.bool b)) ?_
                      first | rfl | (exfalso; simp_all; done) | (exfalso; simp_all <;> omega) | (exfalso; omega)
        · intro h4
          try rw [Decidable.not_not] at h4
          try (have hlx : x.length ≤ 1048576 := by (try unfold room at *); omega)
          refine s_gF rfl ?_
          refine s_gF rfl ?_
          refine s_gF rfl ?_
          refine s_gF rfl ?_
          refine s_op (o_pickT rfl rfl) ?_
          refine s_nilO ?_
          refine q_seqN ?_
          refine s_keep [0, 1, 6, 8, 46] rfl ?_
          refine s_condT rfl ?_
          refine S_seq ?_
          refine s_rg ?_
          refine s_op (o_mv rfl) ?_
          refine s_nilO ?_
          refine q_seqN ?_
          refine s_keep [4] rfl ?_
          refine s_ret ?_
          refine q_seqR ?_
          refine ret_leaf (.inr rfl) rfl rfl ?_
          refine congrArg (fun b => V.w (.bool b)) ?_
          first | rfl | (exfalso; simp_all; done) | (exfalso; simp_all <;> omega) | (exfalso; omega)

end Go.Proofs.Ytojdedadgddhgaa.AL
