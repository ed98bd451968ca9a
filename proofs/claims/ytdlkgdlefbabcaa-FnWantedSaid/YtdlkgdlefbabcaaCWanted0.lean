/- What functions do with plain data, each by the form of its code. Printed by program. -/
import Derived.Test.YtdlkgdlefbabcaaSpec0
import Derived.Test.YtdlkgdlefbabcaaIrWanted
import Derived.Test.YtdlkgdlefbabcaaV8
namespace Go.Proofs.Ytdlkgdlefbabcaa.AL
open Go
set_option linter.unusedVariables false
set_option linter.unusedSimpArgs false
set_option maxRecDepth 4096

theorem c_230 (a b c : Int) : CV prg 230 [.w (.int .i64 a), .w (.int .i64 b), .w (.int .i64 c)] (fun res => res = .w (.bool (inB a b c))) := by
  refine cv_in g230 ?_
  refine s_keep [0, 1, 2] rfl ?_
  refine S_seq ?_
  refine s_rg ?_
  refine s_op (o_mv rfl) ?_
  refine s_nilO ?_
  refine q_seqN ?_
  refine s_keep [0, 1, 2] rfl ?_
  refine S_seq ?_
  refine s_rg ?_
  refine s_op (o_mv rfl) ?_
  refine s_op (o_mv rfl) ?_
  first | refine s_op (o_geq rfl rfl) ?_ | refine s_op (o_bin rfl rfl rfl rfl) ?_
  refine s_op (o_mv rfl) ?_
  first | refine s_gDT rfl ?_ ?_ | refine s_gNDT rfl ?_ ?_ | refine s_gNT rfl ?_ ?_ | refine s_gB rfl ?_ ?_
  · intro h1
    try rw [Decidable.not_not] at h1
    refine s_op (o_mv rfl) ?_
    refine s_gT rfl ?_
    refine s_op (o_mv rfl) ?_
    refine s_gT rfl ?_
    first | refine s_op (o_leq rfl rfl) ?_ | refine s_op (o_bin rfl rfl rfl rfl) ?_
    refine s_op (o_pickT rfl rfl) ?_
    refine s_op (o_mv rfl) ?_
    refine s_nilO ?_
    refine q_seqN ?_
    refine s_keep [6] rfl ?_
    refine s_ret ?_
    refine ret_leaf (.inr rfl) rfl rfl ?_
    refine congrArg (fun b => V.w (.bool b)) ?_
    simp_all [inB] <;> omega
  · intro h1
    try rw [Decidable.not_not] at h1
    refine s_gF rfl ?_
    refine s_gF rfl ?_
    refine s_gF rfl ?_
    refine s_op (o_pickF rfl rfl) ?_
    refine s_op (o_mv rfl) ?_
    refine s_nilO ?_
    refine q_seqN ?_
    refine s_keep [6] rfl ?_
    refine s_ret ?_
    refine ret_leaf (.inr rfl) rfl rfl ?_
    refine congrArg (fun b => V.w (.bool b)) ?_
    simp_all [inB] <;> omega

theorem c_103 (a b c : Int) : CV prg 103 [.w (.int .i64 a), .w (.int .i64 b), .w (.int .i64 c)] (fun res => res = .w (.bool (inB a b c))) := by
  refine cv_in g103 ?_
  refine s_keep [0, 1, 2] rfl ?_
  refine S_seq ?_
  refine s_rg ?_
  refine s_op (o_mv rfl) ?_
  refine s_nilO ?_
  refine q_seqN ?_
  refine s_keep [0, 1, 2] rfl ?_
  refine S_seq ?_
  refine s_rg ?_
  refine s_op (o_mv rfl) ?_
  refine s_op (o_mv rfl) ?_
  first | refine s_op (o_leq rfl rfl) ?_ | refine s_op (o_bin rfl rfl rfl rfl) ?_
  refine s_op (o_mv rfl) ?_
  first | refine s_gDT rfl ?_ ?_ | refine s_gNDT rfl ?_ ?_ | refine s_gNT rfl ?_ ?_ | refine s_gB rfl ?_ ?_
  · intro h1
    try rw [Decidable.not_not] at h1
    refine s_op (o_mv rfl) ?_
    refine s_gT rfl ?_
    refine s_op (o_mv rfl) ?_
    refine s_gT rfl ?_
    first | refine s_op (o_leq rfl rfl) ?_ | refine s_op (o_bin rfl rfl rfl rfl) ?_
    refine s_op (o_pickT rfl rfl) ?_
    refine s_op (o_mv rfl) ?_
    refine s_nilO ?_
    refine q_seqN ?_
    refine s_keep [6] rfl ?_
    refine s_ret ?_
    refine ret_leaf (.inr rfl) rfl rfl ?_
    refine congrArg (fun b => V.w (.bool b)) ?_
    simp_all [inB] <;> omega
  · intro h1
    try rw [Decidable.not_not] at h1
    refine s_gF rfl ?_
    refine s_gF rfl ?_
    refine s_gF rfl ?_
    refine s_op (o_pickF rfl rfl) ?_
    refine s_op (o_mv rfl) ?_
    refine s_nilO ?_
    refine q_seqN ?_
    refine s_keep [6] rfl ?_
    refine s_ret ?_
    refine ret_leaf (.inr rfl) rfl rfl ?_
    refine congrArg (fun b => V.w (.bool b)) ?_
    simp_all [inB] <;> omega

theorem cost_leaf {x : Conf} (h1 : inB x.maxRetry 0 3 = true) (h2 : inB x.maxWait 0 3 = true) : IntKind.wrap .i64 (IntKind.wrap .i64 (x.maxRetry + 2) * IntKind.wrap .i64 (x.maxWait + 6)) = x.cost := by
  unfold Conf.cost
  rw [h1, h2]
  simp only [inB, Bool.and_eq_true, decide_eq_true_eq] at h1 h2
  have hr : x.maxRetry = 0 ∨ x.maxRetry = 1 ∨ x.maxRetry = 2 ∨ x.maxRetry = 3 := by omega
  rw [wrap_in (x.maxRetry + 2) (by omega), wrap_in (x.maxWait + 6) (by omega), wrap_in]
  · rfl
  · rcases hr with h | h | h | h <;> rw [h] <;> omega


theorem prios_step {xs : List MConf} {i : Nat} {y : MConf} (h : xs[i]? = some y) : priosOf (xs.take (i + 1)) = priosOf (xs.take i) + if y.prio then 1 else 0 := by
  rw [take_get h, priosOf, List.countP_append]; simp [priosOf, List.countP_cons]
theorem prios_i (xs : List MConf) (i : Nat) : priosOf (xs.take i) ≤ i := by
  have := priosOf_le (xs.take i); rw [List.length_take] at this; omega
theorem prios_end {xs : List MConf} {i : Nat} (h : ¬ (i : Int) < xs.length) : priosOf (xs.take i) = priosOf xs := by rw [take_end (by omega)]


theorem least_a {x : Conf} (hl : x.masters.length ≤ 1048576) : IntKind.wrap .i64 (IntKind.wrap .i64 (2 * x.slot) * (priosOf x.masters : Int)) = x.least := by
  have h1 := x.slot_bd
  have h2 := priosOf_le x.masters
  rw [wrap_in (2 * x.slot) (by omega)]
  have h3 : 0 ≤ 2 * x.slot * (priosOf x.masters : Int) := Int.mul_nonneg (by omega) (by omega)
  have h4 : 2 * x.slot * (priosOf x.masters : Int) ≤ 260 * 1048576 := Int.mul_le_mul (by omega) (by omega) (by omega) (by omega)
  rw [wrap_in _ (by omega)]; rfl
theorem least_b {x : Conf} (hl : x.masters.length ≤ 1048576) : IntKind.wrap .i64 (IntKind.wrap .i64 (2 * (priosOf x.masters : Int)) * x.slot) = x.least := by
  rw [← least_a hl]
  have h1 := x.slot_bd
  have h2 := priosOf_le x.masters
  rw [wrap_in (2 * x.slot) (by omega), wrap_in (2 * (priosOf x.masters : Int)) (by omega), Int.mul_right_comm]


theorem MConf.ok_a {l : Int} {m : MConf} (h : inB m.weight 1 4 = false) : MConf.ok l m = false := by simp [MConf.ok, h]
theorem mok_p {l : Int} {m : MConf} (h : inB m.weight 1 4 = true) (hp : m.prio = true) : MConf.ok l m = (inB m.every l 1000 && inB m.cap 1 8) := by simp [MConf.ok, h, hp]
theorem mok_n {l : Int} {m : MConf} (h : inB m.weight 1 4 = true) (hp : m.prio = false) : MConf.ok l m = (decide (m.every = 0) && decide (m.cap = 0)) := by simp [MConf.ok, h, hp]


theorem ok_not (l : Int) (xs : List MConf) : (!xs.any (fun m => !MConf.ok l m)) = xs.all (MConf.ok l) := by
  induction xs with
  | nil => rfl
  | cons m xs ih => simp only [List.any_cons, List.all_cons, Bool.not_or, Bool.not_not, ih]


def Conf.small (x : Conf) : Prop := x.masters.length ≤ 1048576

def Conf.sz (x : Conf) : Nat := x.masters.length

theorem Conf.small_of {x : Conf} (h : x.sz ≤ 1048576) : x.small := by unfold Conf.small; unfold Conf.sz at h; omega

def Done.beq (x y : Done) : Bool := ((x.cycle == y.cycle) && ((x.who == y.who) && ((x.write == y.write) && ((x.addr == y.addr) && ((x.size == y.size) && ((x.value == y.value) && ((x.resp == y.resp) && true)))))))

theorem Done.of_beq {x y : Done} (h : Done.beq x y = true) : x = y := by
  cases x; cases y; simp_all [Done.beq]

theorem Done.no_beq {x y : Done} (h : Done.beq x y = false) : x ≠ y := by
  rintro rfl; simp [Done.beq] at h

theorem Done.beq_dec (x y : Done) : Done.beq x y = decide (x = y) := by
  cases h : Done.beq x y
  · exact (decide_eq_false (Done.no_beq h)).symm
  · exact (decide_eq_true (Done.of_beq h)).symm

def folOk (p : Done × Done) : Bool := (p.1.write == p.2.write) && decide (p.1.addr = p.2.addr) && decide (p.1.size = p.2.size) && !(p.1.write && decide (p.1.resp = 0) && decide (p.1.value ≠ p.2.value))
def follows (l w : List Done) : Bool := decide (l.length ≤ w.length) && (l.zip w).all folOk

theorem c_46 (l w : List Done) (hl : l.length ≤ 1048576) : CV prg 46 [.sl 7 (l.map Done.r), .sl 7 (w.map Done.r)] (fun res => res = .w (.bool (follows l w))) := by
  refine cv_in g46 ?_
  refine s_keep [0, 1] rfl ?_
  refine S_seq ?_
  refine s_rg ?_
  refine s_op (o_mv rfl) ?_
  refine s_nilO ?_
  refine q_seqN ?_
  refine s_keep [0, 1] rfl ?_
  refine S_seq ?_
  refine S_seq ?_
  refine s_rg ?_
  refine s_op (o_mv rfl) ?_
  first | refine s_op (o_lenM rfl) ?_ | refine s_op (o_len rfl) ?_
  refine s_op (o_mv rfl) ?_
  first | refine s_op (o_lenM rfl) ?_ | refine s_op (o_len rfl) ?_
  first | refine s_op (o_gtr rfl rfl) ?_ | refine s_op (o_bin rfl rfl rfl rfl) ?_
  refine s_nilO ?_
  refine q_seqN ?_
  refine s_keep [0, 1, 12] rfl ?_
  first | refine s_condD rfl ?_ ?_ | refine s_condN rfl ?_ ?_ | refine s_condNB rfl ?_ ?_ | refine s_condB rfl ?_ ?_
  · intro h1
    try rw [Decidable.not_not] at h1
    refine S_seq ?_
    refine s_rg ?_
    refine s_op (o_mv rfl) ?_
    refine s_nilO ?_
    refine q_seqN ?_
    refine s_keep [4] rfl ?_
    refine s_ret ?_
    refine q_seqR ?_
    refine ret_leaf (.inr rfl) rfl rfl ?_
    refine congrArg (fun b => V.w (.bool b)) ?_
    first | (unfold follows; rw [all_no (zip_get (by assumption) (by assumption)) (by clear hi; simp_all [folOk])]; simp; done) | (unfold follows; rw [all_end hi.2.1 (by rw [zip_len hi.2.2]; omega)]; simp; omega) | (unfold follows; simp; omega)
  · intro h1
    try rw [Decidable.not_not] at h1
    refine s_skip ?_
    refine q_seqN ?_
    refine s_keep [0, 1] rfl ?_
    refine S_seq ?_
    refine S_seq ?_
    refine s_rg ?_
    refine s_op (o_mv rfl) ?_
    first | refine s_op (o_lenM rfl) ?_ | refine s_op (o_len rfl) ?_
    refine s_op (o_mv rfl) ?_
    refine s_nilO ?_
    refine q_seqN ?_
    refine s_keep [1, 13, 14, 15] rfl ?_
    refine S_block ?_
    refine S_loop0 (ι := Nat) (fun i => i ≤ l.length ∧ ((l.zip w).take i).all folOk = true ∧ l.length ≤ w.length) (fun i => [(15, .w (.int .i64 (i : Int)))]) (fun i => l.length - i) 0 ⟨by simp, by simp, by omega⟩ rfl ⟨rfl, trivial⟩ (fun _ _ => rfl) rfl ?_
    intro i hi
    refine s_keep [1, 13, 14, 15] rfl ?_
    refine S_seq ?_
    refine s_rg ?_
    first | refine s_op (o_lss rfl rfl) ?_ | refine s_op (o_bin rfl rfl rfl rfl) ?_
    refine s_nilO ?_
    refine q_seqN ?_
    refine s_keep [1, 13, 14, 15, 16] rfl ?_
    refine S_seq ?_
    first | refine s_condD rfl ?_ ?_ | refine s_condN rfl ?_ ?_ | refine s_condNB rfl ?_ ?_ | refine s_condB rfl ?_ ?_
    · intro h2
      try rw [Decidable.not_not] at h2
      refine s_skip ?_
      refine q_seqN ?_
      refine s_keep [1, 13, 14, 15] rfl ?_
      refine S_seq ?_
      refine S_block ?_
      refine S_seq ?_
      refine s_rg ?_
      refine s_op (o_mv rfl) ?_
      refine s_iaM rfl rfl (by omega) ?_
      intro y3 e3
      try simp only [Int.toNat_natCast, Int.toNat_zero] at e3
      refine s_op (o_ldn rfl rfl) ?_
      refine s_op (o_new rfl rfl) ?_
      refine s_op (o_mv rfl) ?_
      refine s_opN (o_stnC rfl rfl rfl rfl rfl rfl rfl) ?_
      refine s_nilO ?_
      refine q_seqN ?_
      refine s_keep [1, 5, 6, 13, 14, 15] rfl ?_
      refine S_seq ?_
      refine s_rg ?_
      refine s_op (o_mv rfl) ?_
      refine s_op (o_mv rfl) ?_
      refine s_iaM rfl rfl (by omega) ?_
      intro y4 e4
      try simp only [Int.toNat_natCast, Int.toNat_zero] at e4
      refine s_op (o_ldn rfl rfl) ?_
      refine s_op (o_new rfl rfl) ?_
      refine s_opN (o_stnC rfl rfl rfl rfl rfl rfl rfl) ?_
      refine s_nilO ?_
      refine q_seqN ?_
      refine s_keep [1, 6, 7, 13, 14, 15] rfl ?_
      refine S_seq ?_
      refine s_rg ?_
      refine s_op (o_faC rfl) ?_
      refine s_op (o_ldC rfl rfl rfl) ?_
      refine s_op (o_faC rfl) ?_
      refine s_op (o_ldC rfl rfl rfl) ?_
      refine s_op (o_eqb rfl rfl) ?_
      refine s_op (o_mv rfl) ?_
      first | refine s_gDF rfl ?_ ?_ | refine s_gNDF rfl ?_ ?_ | refine s_gNF rfl ?_ ?_ | refine s_gB rfl ?_ ?_
      · intro h5
        try rw [Decidable.not_not] at h5
        refine s_op (o_faC rfl) ?_
        refine s_gT rfl ?_
        refine s_op (o_ldC rfl rfl rfl) ?_
        refine s_gT rfl ?_
        refine s_op (o_faC rfl) ?_
        refine s_gT rfl ?_
        refine s_op (o_ldC rfl rfl rfl) ?_
        refine s_gT rfl ?_
        first | refine s_op (o_neq rfl rfl) ?_ | refine s_op (o_bin rfl rfl rfl rfl) ?_
        refine s_op (o_pickF rfl rfl) ?_
        refine s_op (o_mv rfl) ?_
        first | refine s_gDF rfl ?_ ?_ | refine s_gNDF rfl ?_ ?_ | refine s_gNF rfl ?_ ?_ | refine s_gB rfl ?_ ?_
        · intro h6
          try rw [Decidable.not_not] at h6
          refine s_op (o_faC rfl) ?_
          refine s_keepO (is := [1, 6, 7, 13, 14, 15, 30, 31, 32, 33, 34, 36, 37]) rfl ?_
          refine s_gT rfl ?_
          refine s_op (o_ldC rfl rfl rfl) ?_
          refine s_gT rfl ?_
          refine s_op (o_faC rfl) ?_
          refine s_gT rfl ?_
          refine s_op (o_ldC rfl rfl rfl) ?_
          refine s_gT rfl ?_
          first | refine s_op (o_neq rfl rfl) ?_ | refine s_op (o_bin rfl rfl rfl rfl) ?_
          refine s_op (o_pickF rfl rfl) ?_
          refine s_op (o_mv rfl) ?_
          first | refine s_gDF rfl ?_ ?_ | refine s_gNDF rfl ?_ ?_ | refine s_gNF rfl ?_ ?_ | refine s_gB rfl ?_ ?_
          · intro h7
            try rw [Decidable.not_not] at h7
            refine s_op (o_faC rfl) ?_
            refine s_gT rfl ?_
            refine s_op (o_ldC rfl rfl rfl) ?_
            refine s_gT rfl ?_
            refine s_op (o_mv rfl) ?_
            first | refine s_gDT rfl ?_ ?_ | refine s_gNDT rfl ?_ ?_ | refine s_gNT rfl ?_ ?_ | refine s_gB rfl ?_ ?_
            · intro h8
              try rw [Decidable.not_not] at h8
              refine s_op (o_faC rfl) ?_
              refine s_gT rfl ?_
              refine s_op (o_ldC rfl rfl rfl) ?_
              refine s_gT rfl ?_
              first | refine s_op (o_eql rfl rfl) ?_ | refine s_op (o_bin rfl rfl rfl rfl) ?_
              refine s_gT rfl ?_
              refine s_op (o_pickT rfl rfl) ?_
              refine s_gT rfl ?_
              refine s_op (o_mv rfl) ?_
              refine s_keepO (is := [1, 6, 7, 13, 14, 15, 30, 31, 32, 33, 34, 37, 38, 39, 40, 41, 43, 44, 45, 46, 47, 48, 49, 50, 51]) rfl ?_
              first | refine s_gDT rfl ?_ ?_ | refine s_gNDT rfl ?_ ?_ | refine s_gNT rfl ?_ ?_ | refine s_gB rfl ?_ ?_
              · intro h9
                try rw [Decidable.not_not] at h9
                refine s_op (o_faC rfl) ?_
                refine s_gT rfl ?_
                refine s_op (o_ldC rfl rfl rfl) ?_
                refine s_gT rfl ?_
                refine s_op (o_faC rfl) ?_
                refine s_gT rfl ?_
                refine s_op (o_ldC rfl rfl rfl) ?_
                refine s_gT rfl ?_
                first | refine s_op (o_neq rfl rfl) ?_ | refine s_op (o_bin rfl rfl rfl rfl) ?_
                refine s_gT rfl ?_
                refine s_op (o_pickT rfl rfl) ?_
                refine s_op (o_pickF rfl rfl) ?_
                refine s_nilO ?_
                refine q_seqN ?_
                refine s_keep [1, 13, 14, 15, 30, 31, 32, 33, 34, 37, 38, 39, 40, 41, 44, 45, 46, 47, 48, 49, 50, 51, 52, 53, 54, 55, 56, 57, 58] rfl ?_
                first | refine s_condD rfl ?_ ?_ | refine s_condN rfl ?_ ?_ | refine s_condNB rfl ?_ ?_ | refine s_condB rfl ?_ ?_
                · intro h10
                  try rw [Decidable.not_not] at h10
                  refine S_seq ?_
                  refine s_rg ?_
                  refine s_op (o_mv rfl) ?_
                  refine s_nilO ?_
                  refine q_seqN ?_
                  refine s_keep [4] rfl ?_
                  refine s_ret ?_
                  refine q_blkR ?_
                  refine q_seqR ?_
                  refine q_loopR ?_
                  refine q_blkR ?_
                  refine q_seqR ?_
                  refine ret_leaf (.inr rfl) rfl rfl ?_
                  refine congrArg (fun b => V.w (.bool b)) ?_
                  first | (unfold follows; rw [all_no (zip_get (by assumption) (by assumption)) (by clear hi; simp_all [folOk])]; simp; done) | (unfold follows; rw [all_end hi.2.1 (by rw [zip_len hi.2.2]; omega)]; simp; omega) | (unfold follows; simp; omega)
                · intro h10
                  try rw [Decidable.not_not] at h10
                  refine s_skip ?_
                  refine q_blkN ?_
                  refine q_seqN ?_
                  refine s_keep [1, 13, 14, 15, 30, 31, 32, 33, 34, 37, 38, 39, 40, 41, 44, 45, 46, 47, 48, 49, 50, 51, 52, 53, 54, 55, 56, 57] rfl ?_
                  refine s_rg ?_
                  first | refine s_op (o_addn rfl rfl (by omega)) ?_ | refine s_op (o_add rfl rfl) ?_
                  refine s_op (o_mv rfl) ?_
                  refine s_nilO ?_
                  refine q_loopN ?_
                  exact ⟨i + 1, ⟨by omega, all_take (zip_get (by assumption) (by assumption)) hi.2.1 (by clear hi; simp_all [folOk]), hi.2.2⟩, by omega, hasOf ⟨rfl, trivial⟩ rfl⟩
              · intro h9
                try rw [Decidable.not_not] at h9
                refine s_gF rfl ?_
                refine s_gF rfl ?_
                refine s_gF rfl ?_
                refine s_gF rfl ?_
                refine s_gF rfl ?_
                refine s_gT rfl ?_
                refine s_op (o_pickF rfl rfl) ?_
                refine s_op (o_pickF rfl rfl) ?_
                refine s_nilO ?_
                refine q_seqN ?_
                refine s_keep [1, 13, 14, 15, 30, 31, 32, 33, 34, 37, 38, 39, 40, 41, 44, 45, 46, 47, 48, 49, 50, 51, 52, 53, 54, 55, 56, 57, 58] rfl ?_
                refine s_condF rfl ?_
                refine s_skip ?_
                refine q_blkN ?_
                refine q_seqN ?_
                refine s_keep [1, 13, 14, 15, 30, 31, 32, 33, 34, 37, 38, 39, 40, 41, 44, 45, 46, 47, 48, 49, 50, 51, 52, 53, 54, 55, 56, 57] rfl ?_
                refine s_rg ?_
                first | refine s_op (o_addn rfl rfl (by omega)) ?_ | refine s_op (o_add rfl rfl) ?_
                refine s_op (o_mv rfl) ?_
                refine s_nilO ?_
                refine q_loopN ?_
                exact ⟨i + 1, ⟨by omega, all_take (zip_get (by assumption) (by assumption)) hi.2.1 (by clear hi; simp_all [folOk]), hi.2.2⟩, by omega, hasOf ⟨rfl, trivial⟩ rfl⟩
            · intro h8
              try rw [Decidable.not_not] at h8
              refine s_gF rfl ?_
              refine s_gF rfl ?_
              refine s_gF rfl ?_
              refine s_gT rfl ?_
              refine s_op (o_pickF rfl rfl) ?_
              refine s_gT rfl ?_
              refine s_op (o_mv rfl) ?_
              refine s_keepO (is := [1, 6, 7, 13, 14, 15, 30, 31, 32, 33, 34, 37, 38, 39, 40, 41, 43, 44, 45, 46, 47, 48, 49, 50, 51]) rfl ?_
              refine s_gF rfl ?_
              refine s_gF rfl ?_
              refine s_gF rfl ?_
              refine s_gF rfl ?_
              refine s_gF rfl ?_
              refine s_gT rfl ?_
              refine s_op (o_pickF rfl rfl) ?_
              refine s_op (o_pickF rfl rfl) ?_
              refine s_nilO ?_
              refine q_seqN ?_
              refine s_keep [1, 13, 14, 15, 30, 31, 32, 33, 34, 37, 38, 39, 40, 41, 44, 45, 46, 47, 48, 49, 50, 51, 52, 53, 54, 55, 56, 57, 58] rfl ?_
              refine s_condF rfl ?_
              refine s_skip ?_
              refine q_blkN ?_
              refine q_seqN ?_
              refine s_keep [1, 13, 14, 15, 30, 31, 32, 33, 34, 37, 38, 39, 40, 41, 44, 45, 46, 47, 48, 49, 50, 51, 52, 53, 54, 55, 56, 57] rfl ?_
              refine s_rg ?_
              first | refine s_op (o_addn rfl rfl (by omega)) ?_ | refine s_op (o_add rfl rfl) ?_
              refine s_op (o_mv rfl) ?_
              refine s_nilO ?_
              refine q_loopN ?_
              exact ⟨i + 1, ⟨by omega, all_take (zip_get (by assumption) (by assumption)) hi.2.1 (by clear hi; simp_all [folOk]), hi.2.2⟩, by omega, hasOf ⟨rfl, trivial⟩ rfl⟩
          · intro h7
            try rw [Decidable.not_not] at h7
            refine s_gF rfl ?_
            refine s_gF rfl ?_
            refine s_gF rfl ?_
            refine s_gN rfl ?_
            refine s_gN rfl ?_
            refine s_gN rfl ?_
            refine s_gF rfl ?_
            refine s_gF rfl ?_
            refine s_keepO (is := [1, 6, 7, 13, 14, 15, 30, 31, 32, 33, 34, 37, 38, 39, 40, 41, 43, 44, 45, 46, 47, 48, 49, 50, 51]) rfl ?_
            refine s_gN rfl ?_
            refine s_gN rfl ?_
            refine s_gN rfl ?_
            refine s_gN rfl ?_
            refine s_gN rfl ?_
            refine s_gF rfl ?_
            refine s_op (o_pickT rfl rfl) ?_
            refine s_nilO ?_
            refine q_seqN ?_
            refine s_keep [1, 13, 14, 15, 30, 31, 32, 33, 34, 37, 38, 39, 40, 41, 44, 45, 46, 47, 48, 49, 50, 51, 52, 53, 54, 55, 56, 57, 58] rfl ?_
            refine s_condT rfl ?_
            refine S_seq ?_
            refine s_rg ?_
            refine s_op (o_mv rfl) ?_
            refine s_nilO ?_
            refine q_seqN ?_
            refine s_keep [4] rfl ?_
            refine s_ret ?_
            refine q_blkR ?_
            refine q_seqR ?_
            refine q_loopR ?_
            refine q_blkR ?_
            refine q_seqR ?_
            refine ret_leaf (.inr rfl) rfl rfl ?_
            refine congrArg (fun b => V.w (.bool b)) ?_
            first | (unfold follows; rw [all_no (zip_get (by assumption) (by assumption)) (by clear hi; simp_all [folOk])]; simp; done) | (unfold follows; rw [all_end hi.2.1 (by rw [zip_len hi.2.2]; omega)]; simp; omega) | (unfold follows; simp; omega)
        · intro h6
          try rw [Decidable.not_not] at h6
          refine s_gF rfl ?_
          refine s_keepO (is := [1, 6, 7, 13, 14, 15, 30, 31, 32, 33, 34, 36, 37]) rfl ?_
          refine s_gF rfl ?_
          refine s_gF rfl ?_
          refine s_gF rfl ?_
          refine s_gF rfl ?_
          refine s_op (o_pickT rfl rfl) ?_
          refine s_op (o_mv rfl) ?_
          refine s_gF rfl ?_
          refine s_gF rfl ?_
          refine s_gF rfl ?_
          refine s_gN rfl ?_
          refine s_gN rfl ?_
          refine s_gN rfl ?_
          refine s_gF rfl ?_
          refine s_gF rfl ?_
          refine s_keepO (is := [1, 6, 7, 13, 14, 15, 30, 31, 32, 33, 34, 37, 38, 39, 40, 41, 43, 44, 45, 46, 47, 48, 49, 50, 51]) rfl ?_
          refine s_gN rfl ?_
          refine s_gN rfl ?_
          refine s_gN rfl ?_
          refine s_gN rfl ?_
          refine s_gN rfl ?_
          refine s_gF rfl ?_
          refine s_op (o_pickT rfl rfl) ?_
          refine s_nilO ?_
          refine q_seqN ?_
          refine s_keep [1, 13, 14, 15, 30, 31, 32, 33, 34, 37, 38, 39, 40, 41, 44, 45, 46, 47, 48, 49, 50, 51, 52, 53, 54, 55, 56, 57, 58] rfl ?_
          refine s_condT rfl ?_
          refine S_seq ?_
          refine s_rg ?_
          refine s_op (o_mv rfl) ?_
          refine s_nilO ?_
          refine q_seqN ?_
          refine s_keep [4] rfl ?_
          refine s_ret ?_
          refine q_blkR ?_
          refine q_seqR ?_
          refine q_loopR ?_
          refine q_blkR ?_
          refine q_seqR ?_
          refine ret_leaf (.inr rfl) rfl rfl ?_
          refine congrArg (fun b => V.w (.bool b)) ?_
          first | (unfold follows; rw [all_no (zip_get (by assumption) (by assumption)) (by clear hi; simp_all [folOk])]; simp; done) | (unfold follows; rw [all_end hi.2.1 (by rw [zip_len hi.2.2]; omega)]; simp; omega) | (unfold follows; simp; omega)
      · intro h5
        try rw [Decidable.not_not] at h5
        refine s_gF rfl ?_
        refine s_gF rfl ?_
        refine s_gF rfl ?_
        refine s_gF rfl ?_
        refine s_gF rfl ?_
        refine s_op (o_pickT rfl rfl) ?_
        refine s_op (o_mv rfl) ?_
        refine s_gF rfl ?_
        refine s_keepO (is := [1, 6, 7, 13, 14, 15, 30, 31, 32, 33, 34, 36, 37]) rfl ?_
        refine s_gF rfl ?_
        refine s_gF rfl ?_
        refine s_gF rfl ?_
        refine s_gF rfl ?_
        refine s_op (o_pickT rfl rfl) ?_
        refine s_op (o_mv rfl) ?_
        refine s_gF rfl ?_
        refine s_gF rfl ?_
        refine s_gF rfl ?_
        refine s_gN rfl ?_
        refine s_gN rfl ?_
        refine s_gN rfl ?_
        refine s_gF rfl ?_
        refine s_gF rfl ?_
        refine s_keepO (is := [1, 6, 7, 13, 14, 15, 30, 31, 32, 33, 34, 37, 38, 39, 40, 41, 43, 44, 45, 46, 47, 48, 49, 50, 51]) rfl ?_
        refine s_gN rfl ?_
        refine s_gN rfl ?_
        refine s_gN rfl ?_
        refine s_gN rfl ?_
        refine s_gN rfl ?_
        refine s_gF rfl ?_
        refine s_op (o_pickT rfl rfl) ?_
        refine s_nilO ?_
        refine q_seqN ?_
        refine s_keep [1, 13, 14, 15, 30, 31, 32, 33, 34, 37, 38, 39, 40, 41, 44, 45, 46, 47, 48, 49, 50, 51, 52, 53, 54, 55, 56, 57, 58] rfl ?_
        refine s_condT rfl ?_
        refine S_seq ?_
        refine s_rg ?_
        refine s_op (o_mv rfl) ?_
        refine s_nilO ?_
        refine q_seqN ?_
        refine s_keep [4] rfl ?_
        refine s_ret ?_
        refine q_blkR ?_
        refine q_seqR ?_
        refine q_loopR ?_
        refine q_blkR ?_
        refine q_seqR ?_
        refine ret_leaf (.inr rfl) rfl rfl ?_
        refine congrArg (fun b => V.w (.bool b)) ?_
        first | (unfold follows; rw [all_no (zip_get (by assumption) (by assumption)) (by clear hi; simp_all [folOk])]; simp; done) | (unfold follows; rw [all_end hi.2.1 (by rw [zip_len hi.2.2]; omega)]; simp; omega) | (unfold follows; simp; omega)
    · intro h2
      try rw [Decidable.not_not] at h2
      refine s_exit ?_
      refine q_seqX ?_
      refine q_loopX ?_
      refine q_blkH ?_
      refine q_seqN ?_
      refine s_keep [] rfl ?_
      refine S_seq ?_
      refine s_rg ?_
      refine s_op (o_mv rfl) ?_
      refine s_nilO ?_
      refine q_seqN ?_
      refine s_keep [4] rfl ?_
      refine s_ret ?_
      refine ret_leaf (.inr rfl) rfl rfl ?_
      refine congrArg (fun b => V.w (.bool b)) ?_
      first | (unfold follows; rw [all_no (zip_get (by assumption) (by assumption)) (by clear hi; simp_all [folOk])]; simp; done) | (unfold follows; rw [all_end hi.2.1 (by rw [zip_len hi.2.2]; omega)]; simp; omega) | (unfold follows; simp; omega)

theorem c_198 (l w : List Done) (hl : l.length ≤ 1048576) : CV prg 198 [.sl 7 (l.map Done.r), .sl 7 (w.map Done.r)] (fun res => res = .w (.bool (follows l w))) := by
  refine cv_in g198 ?_
  refine s_keep [0, 1] rfl ?_
  refine S_seq ?_
  refine s_rg ?_
  refine s_op (o_mv rfl) ?_
  refine s_nilO ?_
  refine q_seqN ?_
  refine s_keep [0, 1] rfl ?_
  refine S_seq ?_
  refine S_seq ?_
  refine s_rg ?_
  refine s_op (o_mv rfl) ?_
  first | refine s_op (o_lenM rfl) ?_ | refine s_op (o_len rfl) ?_
  refine s_op (o_mv rfl) ?_
  first | refine s_op (o_lenM rfl) ?_ | refine s_op (o_len rfl) ?_
  first | refine s_op (o_gtr rfl rfl) ?_ | refine s_op (o_bin rfl rfl rfl rfl) ?_
  refine s_nilO ?_
  refine q_seqN ?_
  refine s_keep [0, 1, 12] rfl ?_
  first | refine s_condD rfl ?_ ?_ | refine s_condN rfl ?_ ?_ | refine s_condNB rfl ?_ ?_ | refine s_condB rfl ?_ ?_
  · intro h1
    try rw [Decidable.not_not] at h1
    refine S_seq ?_
    refine s_rg ?_
    refine s_op (o_mv rfl) ?_
    refine s_nilO ?_
    refine q_seqN ?_
    refine s_keep [4] rfl ?_
    refine s_ret ?_
    refine q_seqR ?_
    refine ret_leaf (.inr rfl) rfl rfl ?_
    refine congrArg (fun b => V.w (.bool b)) ?_
    first | (unfold follows; rw [all_no (zip_get (by assumption) (by assumption)) (by clear hi; simp_all [folOk])]; simp; done) | (unfold follows; rw [all_end hi.2.1 (by rw [zip_len hi.2.2]; omega)]; simp; omega) | (unfold follows; simp; omega)
  · intro h1
    try rw [Decidable.not_not] at h1
    refine s_skip ?_
    refine q_seqN ?_
    refine s_keep [0, 1] rfl ?_
    refine S_seq ?_
    refine S_seq ?_
    refine s_rg ?_
    refine s_op (o_mv rfl) ?_
    refine s_nilO ?_
    refine q_seqN ?_
    refine s_keep [0, 1, 5] rfl ?_
    refine S_block ?_
    refine S_loop0 (ι := Nat) (fun i => i ≤ l.length ∧ ((l.zip w).take i).all folOk = true ∧ l.length ≤ w.length) (fun i => [(5, .w (.int .i64 (i : Int)))]) (fun i => l.length - i) 0 ⟨by simp, by simp, by omega⟩ rfl ⟨rfl, trivial⟩ (fun _ _ => rfl) rfl ?_
    intro i hi
    refine s_keep [0, 1, 5] rfl ?_
    refine S_seq ?_
    refine S_seq ?_
    refine s_rg ?_
    refine s_op (o_mv rfl) ?_
    refine s_op (o_mv rfl) ?_
    first | refine s_op (o_lenM rfl) ?_ | refine s_op (o_len rfl) ?_
    first | refine s_op (o_lss rfl rfl) ?_ | refine s_op (o_bin rfl rfl rfl rfl) ?_
    refine s_nilO ?_
    refine q_seqN ?_
    refine s_keep [0, 1, 5, 16] rfl ?_
    first | refine s_condD rfl ?_ ?_ | refine s_condN rfl ?_ ?_ | refine s_condNB rfl ?_ ?_ | refine s_condB rfl ?_ ?_
    · intro h2
      try rw [Decidable.not_not] at h2
      refine s_skip ?_
      refine q_seqN ?_
      refine s_keep [0, 1, 5] rfl ?_
      refine S_seq ?_
      refine S_block ?_
      refine S_seq ?_
      refine s_rg ?_
      refine s_op (o_mv rfl) ?_
      refine s_op (o_mv rfl) ?_
      refine s_iaM rfl rfl (by omega) ?_
      intro y3 e3
      try simp only [Int.toNat_natCast, Int.toNat_zero] at e3
      refine s_op (o_ldn rfl rfl) ?_
      refine s_op (o_new rfl rfl) ?_
      refine s_opN (o_stnC rfl rfl rfl rfl rfl rfl rfl) ?_
      refine s_nilO ?_
      refine q_seqN ?_
      refine s_keep [0, 1, 5, 6] rfl ?_
      refine S_seq ?_
      refine s_rg ?_
      refine s_op (o_mv rfl) ?_
      refine s_op (o_mv rfl) ?_
      refine s_iaM rfl rfl (by omega) ?_
      intro y4 e4
      try simp only [Int.toNat_natCast, Int.toNat_zero] at e4
      refine s_op (o_ldn rfl rfl) ?_
      refine s_op (o_new rfl rfl) ?_
      refine s_opN (o_stnC rfl rfl rfl rfl rfl rfl rfl) ?_
      refine s_nilO ?_
      refine q_seqN ?_
      refine s_keep [0, 1, 5, 6, 7] rfl ?_
      refine S_seq ?_
      refine s_rg ?_
      refine s_op (o_faC rfl) ?_
      refine s_op (o_ldC rfl rfl rfl) ?_
      refine s_op (o_faC rfl) ?_
      refine s_op (o_ldC rfl rfl rfl) ?_
      refine s_op (o_eqb rfl rfl) ?_
      refine s_op (o_mv rfl) ?_
      first | refine s_gDF rfl ?_ ?_ | refine s_gNDF rfl ?_ ?_ | refine s_gNF rfl ?_ ?_ | refine s_gB rfl ?_ ?_
      · intro h5
        try rw [Decidable.not_not] at h5
        refine s_op (o_faC rfl) ?_
        refine s_gT rfl ?_
        refine s_op (o_ldC rfl rfl rfl) ?_
        refine s_gT rfl ?_
        refine s_op (o_faC rfl) ?_
        refine s_gT rfl ?_
        refine s_op (o_ldC rfl rfl rfl) ?_
        refine s_gT rfl ?_
        first | refine s_op (o_neq rfl rfl) ?_ | refine s_op (o_bin rfl rfl rfl rfl) ?_
        refine s_op (o_pickF rfl rfl) ?_
        refine s_op (o_mv rfl) ?_
        first | refine s_gDF rfl ?_ ?_ | refine s_gNDF rfl ?_ ?_ | refine s_gNF rfl ?_ ?_ | refine s_gB rfl ?_ ?_
        · intro h6
          try rw [Decidable.not_not] at h6
          refine s_op (o_faC rfl) ?_
          refine s_keepO (is := [0, 1, 5, 6, 7, 33, 34, 35, 36, 37, 39, 40]) rfl ?_
          refine s_gT rfl ?_
          refine s_op (o_ldC rfl rfl rfl) ?_
          refine s_gT rfl ?_
          refine s_op (o_faC rfl) ?_
          refine s_gT rfl ?_
          refine s_op (o_ldC rfl rfl rfl) ?_
          refine s_gT rfl ?_
          first | refine s_op (o_neq rfl rfl) ?_ | refine s_op (o_bin rfl rfl rfl rfl) ?_
          refine s_op (o_pickF rfl rfl) ?_
          refine s_op (o_mv rfl) ?_
          first | refine s_gDF rfl ?_ ?_ | refine s_gNDF rfl ?_ ?_ | refine s_gNF rfl ?_ ?_ | refine s_gB rfl ?_ ?_
          · intro h7
            try rw [Decidable.not_not] at h7
            refine s_op (o_faC rfl) ?_
            refine s_gT rfl ?_
            refine s_op (o_ldC rfl rfl rfl) ?_
            refine s_gT rfl ?_
            refine s_op (o_mv rfl) ?_
            first | refine s_gDT rfl ?_ ?_ | refine s_gNDT rfl ?_ ?_ | refine s_gNT rfl ?_ ?_ | refine s_gB rfl ?_ ?_
            · intro h8
              try rw [Decidable.not_not] at h8
              refine s_op (o_faC rfl) ?_
              refine s_gT rfl ?_
              refine s_op (o_ldC rfl rfl rfl) ?_
              refine s_gT rfl ?_
              first | refine s_op (o_eql rfl rfl) ?_ | refine s_op (o_bin rfl rfl rfl rfl) ?_
              refine s_gT rfl ?_
              refine s_op (o_pickT rfl rfl) ?_
              refine s_gT rfl ?_
              refine s_op (o_mv rfl) ?_
              refine s_keepO (is := [0, 1, 5, 6, 7, 33, 34, 35, 36, 37, 40, 41, 42, 43, 44, 46, 47, 48, 49, 50, 51, 52, 53, 54]) rfl ?_
              first | refine s_gDT rfl ?_ ?_ | refine s_gNDT rfl ?_ ?_ | refine s_gNT rfl ?_ ?_ | refine s_gB rfl ?_ ?_
              · intro h9
                try rw [Decidable.not_not] at h9
                refine s_op (o_faC rfl) ?_
                refine s_gT rfl ?_
                refine s_op (o_ldC rfl rfl rfl) ?_
                refine s_gT rfl ?_
                refine s_op (o_faC rfl) ?_
                refine s_gT rfl ?_
                refine s_op (o_ldC rfl rfl rfl) ?_
                refine s_gT rfl ?_
                first | refine s_op (o_neq rfl rfl) ?_ | refine s_op (o_bin rfl rfl rfl rfl) ?_
                refine s_gT rfl ?_
                refine s_op (o_pickT rfl rfl) ?_
                refine s_op (o_pickF rfl rfl) ?_
                refine s_nilO ?_
                refine q_seqN ?_
                refine s_keep [0, 1, 5, 33, 34, 35, 36, 37, 40, 41, 42, 43, 44, 47, 48, 49, 50, 51, 52, 53, 54, 55, 56, 57, 58, 59, 60, 61] rfl ?_
                first | refine s_condD rfl ?_ ?_ | refine s_condN rfl ?_ ?_ | refine s_condNB rfl ?_ ?_ | refine s_condB rfl ?_ ?_
                · intro h10
                  try rw [Decidable.not_not] at h10
                  refine S_seq ?_
                  refine s_rg ?_
                  refine s_op (o_mv rfl) ?_
                  refine s_nilO ?_
                  refine q_seqN ?_
                  refine s_keep [4] rfl ?_
                  refine s_ret ?_
                  refine q_blkR ?_
                  refine q_seqR ?_
                  refine q_loopR ?_
                  refine q_blkR ?_
                  refine q_seqR ?_
                  refine ret_leaf (.inr rfl) rfl rfl ?_
                  refine congrArg (fun b => V.w (.bool b)) ?_
                  first | (unfold follows; rw [all_no (zip_get (by assumption) (by assumption)) (by clear hi; simp_all [folOk])]; simp; done) | (unfold follows; rw [all_end hi.2.1 (by rw [zip_len hi.2.2]; omega)]; simp; omega) | (unfold follows; simp; omega)
                · intro h10
                  try rw [Decidable.not_not] at h10
                  refine s_skip ?_
                  refine q_blkN ?_
                  refine q_seqN ?_
                  refine s_keep [0, 1, 5, 33, 34, 35, 36, 37, 40, 41, 42, 43, 44, 47, 48, 49, 50, 51, 52, 53, 54, 55, 56, 57, 58, 59, 60] rfl ?_
                  refine s_rg ?_
                  refine s_op (o_mv rfl) ?_
                  first | refine s_op (o_addn rfl rfl (by omega)) ?_ | refine s_op (o_add rfl rfl) ?_
                  refine s_op (o_mv rfl) ?_
                  refine s_nilO ?_
                  refine q_loopN ?_
                  exact ⟨i + 1, ⟨by omega, all_take (zip_get (by assumption) (by assumption)) hi.2.1 (by clear hi; simp_all [folOk]), hi.2.2⟩, by omega, hasOf ⟨rfl, trivial⟩ rfl⟩
              · intro h9
                try rw [Decidable.not_not] at h9
                refine s_gF rfl ?_
                refine s_gF rfl ?_
                refine s_gF rfl ?_
                refine s_gF rfl ?_
                refine s_gF rfl ?_
                refine s_gT rfl ?_
                refine s_op (o_pickF rfl rfl) ?_
                refine s_op (o_pickF rfl rfl) ?_
                refine s_nilO ?_
                refine q_seqN ?_
                refine s_keep [0, 1, 5, 33, 34, 35, 36, 37, 40, 41, 42, 43, 44, 47, 48, 49, 50, 51, 52, 53, 54, 55, 56, 57, 58, 59, 60, 61] rfl ?_
                refine s_condF rfl ?_
                refine s_skip ?_
                refine q_blkN ?_
                refine q_seqN ?_
                refine s_keep [0, 1, 5, 33, 34, 35, 36, 37, 40, 41, 42, 43, 44, 47, 48, 49, 50, 51, 52, 53, 54, 55, 56, 57, 58, 59, 60] rfl ?_
                refine s_rg ?_
                refine s_op (o_mv rfl) ?_
                first | refine s_op (o_addn rfl rfl (by omega)) ?_ | refine s_op (o_add rfl rfl) ?_
                refine s_op (o_mv rfl) ?_
                refine s_nilO ?_
                refine q_loopN ?_
                exact ⟨i + 1, ⟨by omega, all_take (zip_get (by assumption) (by assumption)) hi.2.1 (by clear hi; simp_all [folOk]), hi.2.2⟩, by omega, hasOf ⟨rfl, trivial⟩ rfl⟩
            · intro h8
              try rw [Decidable.not_not] at h8
              refine s_gF rfl ?_
              refine s_gF rfl ?_
              refine s_gF rfl ?_
              refine s_gT rfl ?_
              refine s_op (o_pickF rfl rfl) ?_
              refine s_gT rfl ?_
              refine s_op (o_mv rfl) ?_
              refine s_keepO (is := [0, 1, 5, 6, 7, 33, 34, 35, 36, 37, 40, 41, 42, 43, 44, 46, 47, 48, 49, 50, 51, 52, 53, 54]) rfl ?_
              refine s_gF rfl ?_
              refine s_gF rfl ?_
              refine s_gF rfl ?_
              refine s_gF rfl ?_
              refine s_gF rfl ?_
              refine s_gT rfl ?_
              refine s_op (o_pickF rfl rfl) ?_
              refine s_op (o_pickF rfl rfl) ?_
              refine s_nilO ?_
              refine q_seqN ?_
              refine s_keep [0, 1, 5, 33, 34, 35, 36, 37, 40, 41, 42, 43, 44, 47, 48, 49, 50, 51, 52, 53, 54, 55, 56, 57, 58, 59, 60, 61] rfl ?_
              refine s_condF rfl ?_
              refine s_skip ?_
              refine q_blkN ?_
              refine q_seqN ?_
              refine s_keep [0, 1, 5, 33, 34, 35, 36, 37, 40, 41, 42, 43, 44, 47, 48, 49, 50, 51, 52, 53, 54, 55, 56, 57, 58, 59, 60] rfl ?_
              refine s_rg ?_
              refine s_op (o_mv rfl) ?_
              first | refine s_op (o_addn rfl rfl (by omega)) ?_ | refine s_op (o_add rfl rfl) ?_
              refine s_op (o_mv rfl) ?_
              refine s_nilO ?_
              refine q_loopN ?_
              exact ⟨i + 1, ⟨by omega, all_take (zip_get (by assumption) (by assumption)) hi.2.1 (by clear hi; simp_all [folOk]), hi.2.2⟩, by omega, hasOf ⟨rfl, trivial⟩ rfl⟩
          · intro h7
            try rw [Decidable.not_not] at h7
            refine s_gF rfl ?_
            refine s_gF rfl ?_
            refine s_gF rfl ?_
            refine s_gN rfl ?_
            refine s_gN rfl ?_
            refine s_gN rfl ?_
            refine s_gF rfl ?_
            refine s_gF rfl ?_
            refine s_keepO (is := [0, 1, 5, 6, 7, 33, 34, 35, 36, 37, 40, 41, 42, 43, 44, 46, 47, 48, 49, 50, 51, 52, 53, 54]) rfl ?_
            refine s_gN rfl ?_
            refine s_gN rfl ?_
            refine s_gN rfl ?_
            refine s_gN rfl ?_
            refine s_gN rfl ?_
            refine s_gF rfl ?_
            refine s_op (o_pickT rfl rfl) ?_
            refine s_nilO ?_
            refine q_seqN ?_
            refine s_keep [0, 1, 5, 33, 34, 35, 36, 37, 40, 41, 42, 43, 44, 47, 48, 49, 50, 51, 52, 53, 54, 55, 56, 57, 58, 59, 60, 61] rfl ?_
            refine s_condT rfl ?_
            refine S_seq ?_
            refine s_rg ?_
            refine s_op (o_mv rfl) ?_
            refine s_nilO ?_
            refine q_seqN ?_
            refine s_keep [4] rfl ?_
            refine s_ret ?_
            refine q_blkR ?_
            refine q_seqR ?_
            refine q_loopR ?_
            refine q_blkR ?_
            refine q_seqR ?_
            refine ret_leaf (.inr rfl) rfl rfl ?_
            refine congrArg (fun b => V.w (.bool b)) ?_
            first | (unfold follows; rw [all_no (zip_get (by assumption) (by assumption)) (by clear hi; simp_all [folOk])]; simp; done) | (unfold follows; rw [all_end hi.2.1 (by rw [zip_len hi.2.2]; omega)]; simp; omega) | (unfold follows; simp; omega)
        · intro h6
          try rw [Decidable.not_not] at h6
          refine s_gF rfl ?_
          refine s_keepO (is := [0, 1, 5, 6, 7, 33, 34, 35, 36, 37, 39, 40]) rfl ?_
          refine s_gF rfl ?_
          refine s_gF rfl ?_
          refine s_gF rfl ?_
          refine s_gF rfl ?_
          refine s_op (o_pickT rfl rfl) ?_
          refine s_op (o_mv rfl) ?_
          refine s_gF rfl ?_
          refine s_gF rfl ?_
          refine s_gF rfl ?_
          refine s_gN rfl ?_
          refine s_gN rfl ?_
          refine s_gN rfl ?_
          refine s_gF rfl ?_
          refine s_gF rfl ?_
          refine s_keepO (is := [0, 1, 5, 6, 7, 33, 34, 35, 36, 37, 40, 41, 42, 43, 44, 46, 47, 48, 49, 50, 51, 52, 53, 54]) rfl ?_
          refine s_gN rfl ?_
          refine s_gN rfl ?_
          refine s_gN rfl ?_
          refine s_gN rfl ?_
          refine s_gN rfl ?_
          refine s_gF rfl ?_
          refine s_op (o_pickT rfl rfl) ?_
          refine s_nilO ?_
          refine q_seqN ?_
          refine s_keep [0, 1, 5, 33, 34, 35, 36, 37, 40, 41, 42, 43, 44, 47, 48, 49, 50, 51, 52, 53, 54, 55, 56, 57, 58, 59, 60, 61] rfl ?_
          refine s_condT rfl ?_
          refine S_seq ?_
          refine s_rg ?_
          refine s_op (o_mv rfl) ?_
          refine s_nilO ?_
          refine q_seqN ?_
          refine s_keep [4] rfl ?_
          refine s_ret ?_
          refine q_blkR ?_
          refine q_seqR ?_
          refine q_loopR ?_
          refine q_blkR ?_
          refine q_seqR ?_
          refine ret_leaf (.inr rfl) rfl rfl ?_
          refine congrArg (fun b => V.w (.bool b)) ?_
          first | (unfold follows; rw [all_no (zip_get (by assumption) (by assumption)) (by clear hi; simp_all [folOk])]; simp; done) | (unfold follows; rw [all_end hi.2.1 (by rw [zip_len hi.2.2]; omega)]; simp; omega) | (unfold follows; simp; omega)
      · intro h5
        try rw [Decidable.not_not] at h5
        refine s_gF rfl ?_
        refine s_gF rfl ?_
        refine s_gF rfl ?_
        refine s_gF rfl ?_
        refine s_gF rfl ?_
        refine s_op (o_pickT rfl rfl) ?_
        refine s_op (o_mv rfl) ?_
        refine s_gF rfl ?_
        refine s_keepO (is := [0, 1, 5, 6, 7, 33, 34, 35, 36, 37, 39, 40]) rfl ?_
        refine s_gF rfl ?_
        refine s_gF rfl ?_
        refine s_gF rfl ?_
        refine s_gF rfl ?_
        refine s_op (o_pickT rfl rfl) ?_
        refine s_op (o_mv rfl) ?_
        refine s_gF rfl ?_
        refine s_gF rfl ?_
        refine s_gF rfl ?_
        refine s_gN rfl ?_
        refine s_gN rfl ?_
        refine s_gN rfl ?_
        refine s_gF rfl ?_
        refine s_gF rfl ?_
        refine s_keepO (is := [0, 1, 5, 6, 7, 33, 34, 35, 36, 37, 40, 41, 42, 43, 44, 46, 47, 48, 49, 50, 51, 52, 53, 54]) rfl ?_
        refine s_gN rfl ?_
        refine s_gN rfl ?_
        refine s_gN rfl ?_
        refine s_gN rfl ?_
        refine s_gN rfl ?_
        refine s_gF rfl ?_
        refine s_op (o_pickT rfl rfl) ?_
        refine s_nilO ?_
        refine q_seqN ?_
        refine s_keep [0, 1, 5, 33, 34, 35, 36, 37, 40, 41, 42, 43, 44, 47, 48, 49, 50, 51, 52, 53, 54, 55, 56, 57, 58, 59, 60, 61] rfl ?_
        refine s_condT rfl ?_
        refine S_seq ?_
        refine s_rg ?_
        refine s_op (o_mv rfl) ?_
        refine s_nilO ?_
        refine q_seqN ?_
        refine s_keep [4] rfl ?_
        refine s_ret ?_
        refine q_blkR ?_
        refine q_seqR ?_
        refine q_loopR ?_
        refine q_blkR ?_
        refine q_seqR ?_
        refine ret_leaf (.inr rfl) rfl rfl ?_
        refine congrArg (fun b => V.w (.bool b)) ?_
        first | (unfold follows; rw [all_no (zip_get (by assumption) (by assumption)) (by clear hi; simp_all [folOk])]; simp; done) | (unfold follows; rw [all_end hi.2.1 (by rw [zip_len hi.2.2]; omega)]; simp; omega) | (unfold follows; simp; omega)
    · intro h2
      try rw [Decidable.not_not] at h2
      refine s_exit ?_
      refine q_seqX ?_
      refine q_loopX ?_
      refine q_blkH ?_
      refine q_seqN ?_
      refine s_keep [] rfl ?_
      refine S_seq ?_
      refine s_rg ?_
      refine s_op (o_mv rfl) ?_
      refine s_nilO ?_
      refine q_seqN ?_
      refine s_keep [4] rfl ?_
      refine s_ret ?_
      refine ret_leaf (.inr rfl) rfl rfl ?_
      refine congrArg (fun b => V.w (.bool b)) ?_
      first | (unfold follows; rw [all_no (zip_get (by assumption) (by assumption)) (by clear hi; simp_all [folOk])]; simp; done) | (unfold follows; rw [all_end hi.2.1 (by rw [zip_len hi.2.2]; omega)]; simp; omega) | (unfold follows; simp; omega)

def Req.small (x : Req) : Prop := x.data.length ≤ 1048576

def Req.sz (x : Req) : Nat := x.data.length

theorem Req.small_of {x : Req} (h : x.sz ≤ 1048576) : x.small := by unfold Req.small; unfold Req.sz at h; omega

def Mst.small (x : Mst) : Prop := x.queue.length ≤ 1048576 ∧ (∀ y, y ∈ x.queue → Req.small y)

def Mst.sz (x : Mst) : Nat := x.queue.length + sumL Req.sz x.queue

theorem Mst.small_of {x : Mst} (h : x.sz ≤ 1048576) : x.small := ⟨by unfold Mst.sz at h; omega, fun y hy => Req.small_of (by have := sumL_mem Req.sz hy; unfold Mst.sz at h; omega)⟩

def roundStep (c : Conf) (s : Int) (i : Nat) : Int := IntKind.wrap .i64 (s + IntKind.wrap .i64 (c.turn i * c.slot))
def Conf.round (c : Conf) : Int := if c.ok then (List.range c.masters.length).foldl (roundStep c) (IntKind.wrap .i64 (c.cost * c.masters.length)) else 0
def Conf.bound (c : Conf) (beats : Int) : Int := if c.ok && inB beats 1 8 then
  IntKind.wrap .i64 (IntKind.wrap .i64 (IntKind.wrap .i64 (2 * IntKind.wrap .i64 (IntKind.wrap .i64 (beats * IntKind.wrap .i64 (IntKind.wrap .i64 (IntKind.wrap .i64 (2 * c.round) + c.maxSplit) + c.cost)) + c.caps)) + IntKind.wrap .i64 (2 * c.slot)) + 10) else 0
theorem minL2 (a b : Int) : minL a [b] = min a b := by simp only [minL]; omega
theorem maxL2 (a b : Int) : maxL a [b] = max a b := by simp only [maxL]; omega
def Wrr.back (w : Wrr) (c : Conf) (who : Int) : Wrr := if w.ok c && decide (who = w.pos) then { w with credit := min (IntKind.wrap .i64 (w.credit + 1)) (c.turn who) } else w
theorem range_end {i n : Nat} {f : Int → Nat → Int} {a : Int} (h : ¬ (i : Int) < n) (hi : i ≤ n) : (List.range i).foldl f a = (List.range n).foldl f a := by
  have : i = n := by omega
  rw [this]

def Post.small (x : Post) : Prop := x.req.small

def Post.sz (x : Post) : Nat := x.req.sz

theorem Post.small_of {x : Post} (h : x.sz ≤ 1048576) : x.small := Req.small_of (by unfold Post.sz at h; omega)

def Script.small (x : Script) : Prop := x.posts.length ≤ 1048576 ∧ (∀ y, y ∈ x.posts → Post.small y) ∧ x.waits.length ≤ 1048576 ∧ x.says.length ≤ 1048576

def Script.sz (x : Script) : Nat := x.posts.length + sumL Post.sz x.posts + x.waits.length + x.says.length

theorem Script.small_of {x : Script} (h : x.sz ≤ 1048576) : x.small := ⟨by unfold Script.sz at h; omega, fun y hy => Post.small_of (by have := sumL_mem Post.sz hy; unfold Script.sz at h; omega), by unfold Script.sz at h; omega, by unfold Script.sz at h; omega⟩

def elem (l : List Int) (k : Int) : Int := if l.length = 0 ∨ k < 0 then 0 else (l[(k.tmod l.length).toNat]?).getD 0
theorem elem_i64 {l : List Int} {k : Int} (h : ∀ y, y ∈ l → i64 y) : i64 (elem l k) := by
  unfold elem
  split
  · unfold AL.i64; omega
  · cases e : l[(k.tmod l.length).toNat]? with
    | none => unfold AL.i64; simp
    | some y => exact h y (List.mem_of_getElem? e)
def Conf.splitAt (c : Conf) (s : Script) (k : Int) : Int := max 1 (min (min (elem s.waits k) 99 + 1) c.maxSplit)

def Dev.small (x : Dev) : Prop := x.regs.length ≤ 1048576 ∧ x.fifo.length ≤ 1048576

def Dev.sz (x : Dev) : Nat := x.regs.length + x.fifo.length

theorem Dev.small_of {x : Dev} (h : x.sz ≤ 1048576) : x.small := ⟨by unfold Dev.sz at h; omega, by unfold Dev.sz at h; omega⟩

def Model.small (x : Model) : Prop := x.ram.length ≤ 1048576 ∧ x.dev.small

def Model.sz (x : Model) : Nat := x.ram.length + x.dev.sz

theorem Model.small_of {x : Model} (h : x.sz ≤ 1048576) : x.small := ⟨by unfold Model.sz at h; omega, Dev.small_of (by unfold Model.sz at h; omega)⟩

def Bus.small (x : Bus) : Prop := x.conf.small ∧ x.ms.length ≤ 1048576 ∧ (∀ y, y ∈ x.ms → Mst.small y) ∧ x.buckets.length ≤ 1048576 ∧ x.splits.length ≤ 1048576 ∧ x.model.small ∧ x.log.length ≤ 1048576

def Bus.sz (x : Bus) : Nat := x.conf.sz + x.ms.length + sumL Mst.sz x.ms + x.buckets.length + x.splits.length + x.model.sz + x.log.length

theorem Bus.small_of {x : Bus} (h : x.sz ≤ 1048576) : x.small := ⟨Conf.small_of (by unfold Bus.sz at h; omega), by unfold Bus.sz at h; omega, fun y hy => Mst.small_of (by have := sumL_mem Mst.sz hy; unfold Bus.sz at h; omega), by unfold Bus.sz at h; omega, by unfold Bus.sz at h; omega, Model.small_of (by unfold Bus.sz at h; omega), by unfold Bus.sz at h; omega⟩

def MConf.beq (x y : MConf) : Bool := ((x.weight == y.weight) && ((x.prio == y.prio) && ((x.every == y.every) && ((x.cap == y.cap) && true))))

theorem MConf.of_beq {x y : MConf} (h : MConf.beq x y = true) : x = y := by
  cases x; cases y; simp_all [MConf.beq]

theorem MConf.no_beq {x y : MConf} (h : MConf.beq x y = false) : x ≠ y := by
  rintro rfl; simp [MConf.beq] at h

theorem MConf.beq_dec (x y : MConf) : MConf.beq x y = decide (x = y) := by
  cases h : MConf.beq x y
  · exact (decide_eq_false (MConf.no_beq h)).symm
  · exact (decide_eq_true (MConf.of_beq h)).symm

def Bucket.beq (x y : Bucket) : Bool := ((x.tokens == y.tokens) && ((x.count == y.count) && true))

theorem Bucket.of_beq {x y : Bucket} (h : Bucket.beq x y = true) : x = y := by
  cases x; cases y; simp_all [Bucket.beq]

theorem Bucket.no_beq {x y : Bucket} (h : Bucket.beq x y = false) : x ≠ y := by
  rintro rfl; simp [Bucket.beq] at h

theorem Bucket.beq_dec (x y : Bucket) : Bucket.beq x y = decide (x = y) := by
  cases h : Bucket.beq x y
  · exact (decide_eq_false (Bucket.no_beq h)).symm
  · exact (decide_eq_true (Bucket.of_beq h)).symm

def Beat.beq (x y : Beat) : Bool := ((x.live == y.live) && ((x.who == y.who) && ((x.num == y.num) && ((x.first == y.first) && ((x.via == y.via) && ((x.left == y.left) && ((x.resp == y.resp) && ((x.second == y.second) && true))))))))

theorem Beat.of_beq {x y : Beat} (h : Beat.beq x y = true) : x = y := by
  cases x; cases y; simp_all [Beat.beq]

theorem Beat.no_beq {x y : Beat} (h : Beat.beq x y = false) : x ≠ y := by
  rintro rfl; simp [Beat.beq] at h

theorem Beat.beq_dec (x y : Beat) : Beat.beq x y = decide (x = y) := by
  cases h : Beat.beq x y
  · exact (decide_eq_false (Beat.no_beq h)).symm
  · exact (decide_eq_true (Beat.of_beq h)).symm

def Wrr.beq (x y : Wrr) : Bool := ((x.pos == y.pos) && ((x.credit == y.credit) && true))

theorem Wrr.of_beq {x y : Wrr} (h : Wrr.beq x y = true) : x = y := by
  cases x; cases y; simp_all [Wrr.beq]

theorem Wrr.no_beq {x y : Wrr} (h : Wrr.beq x y = false) : x ≠ y := by
  rintro rfl; simp [Wrr.beq] at h

theorem Wrr.beq_dec (x y : Wrr) : Wrr.beq x y = decide (x = y) := by
  cases h : Wrr.beq x y
  · exact (decide_eq_false (Wrr.no_beq h)).symm
  · exact (decide_eq_true (Wrr.of_beq h)).symm

structure Bus.parts (x y : Bus) : Prop where
  conf : x.conf = y.conf
  now : x.now = y.now
  ms : x.ms = y.ms
  arb : x.arb = y.arb
  buckets : x.buckets = y.buckets
  splits : x.splits = y.splits
  holder : x.holder = y.holder
  kept : x.kept = y.kept
  last : x.last = y.last
  addr : x.addr = y.addr
  data : x.data = y.data
  model : x.model = y.model
  picks : x.picks = y.picks
  log : x.log = y.log
theorem Bus.of_parts {x y : Bus} (h : Bus.parts x y) : x = y := by
  obtain ⟨h1, h2, h3, h4, h5, h6, h7, h8, h9, h10, h11, h12, h13, h14⟩ := h
  cases x; cases y; simp only at *; subst h1 h2 h3 h4 h5 h6 h7 h8 h9 h10 h11 h12 h13 h14; rfl
theorem Bus.log_dec {x y : Bus} (h : x.log = y.log → Bus.parts x y) : decide (x.log = y.log) = decide (x = y) := by
  by_cases hl : x.log = y.log
  · rw [decide_eq_true hl, decide_eq_true (Bus.of_parts (h hl))]
  · rw [decide_eq_false hl, decide_eq_false (fun e => hl (congrArg Bus.log e))]

def bytes (size : Int) : Int := if inB size 0 2 then (if size = 0 then 1 else if size = 1 then 2 else 4) else 0
def limit (size : Int) : Int := if inB size 0 2 then (if size = 0 then 256 else if size = 1 then 65536 else 4294967296) else 0
def beatsN (b : Int) : Int := if b = 0 then 1 else if b = 3 then 8 else 4
def beats (b : Int) : Int := if inB b 0 3 then beatsN b else 0
theorem in3 {x : Int} (h : inB x 0 2 = true) : x = 0 ∨ x = 1 ∨ x = 2 := by have := inB_t h; omega
theorem in4 {x : Int} (h : inB x 0 3 = true) : x = 0 ∨ x = 1 ∨ x = 2 ∨ x = 3 := by have := inB_t h; omega
theorem bytes_leaf {x : Int} (h : inB x 0 2 = true) : IntKind.wrap .i64 (1 * 2 ^ (min x.toNat IntKind.i64.bits)) = bytes x := by
  unfold bytes; rw [if_pos h]; rcases in3 h with rfl | rfl | rfl <;> decide
theorem bytes_pos {x : Int} (h : inB x 0 2 = true) : bytes x = 1 ∨ bytes x = 2 ∨ bytes x = 4 := by
  unfold bytes; rw [if_pos h]; rcases in3 h with rfl | rfl | rfl <;> simp
theorem bytes_no {x : Int} (h : inB x 0 2 = false) : bytes x = 0 := by unfold bytes; rw [if_neg (by simp [h])]
theorem bytes_z {x : Int} : bytes x = 0 ∧ inB x 0 2 = false ∨ inB x 0 2 = true ∧ (bytes x = 1 ∨ bytes x = 2 ∨ bytes x = 4) := by
  cases h : inB x 0 2 with
  | false => exact .inl ⟨bytes_no h, rfl⟩
  | true => exact .inr ⟨rfl, bytes_pos h⟩
theorem limit_leaf {x : Int} (h : ¬ bytes x = 0) : IntKind.wrap .i64 (1 * 2 ^ (min (IntKind.wrap .i64 (8 * bytes x)).toNat IntKind.i64.bits)) = limit x := by
  rcases bytes_z (x := x) with ⟨h1, _⟩ | ⟨h1, _⟩
  · exact absurd h1 h
  · unfold limit bytes; rw [if_pos h1, if_pos h1]; rcases in3 h1 with rfl | rfl | rfl <;> decide
theorem limit_no {x : Int} (h : bytes x = 0) : limit x = 0 := by
  rcases bytes_z (x := x) with ⟨_, h1⟩ | ⟨_, h1⟩
  · unfold limit; rw [if_neg (by simp [h1])]
  · omega
theorem limit_bd (x : Int) : 0 ≤ limit x ∧ limit x ≤ 4294967296 := by
  unfold limit
  split
  · rename_i h; rcases in3 h with rfl | rfl | rfl <;> simp
  · simp
theorem beats_row {b : Int} {t : IntKind} (h : inB b 0 3 = true) : [[V.w (.int .i64 1)], [V.w (.int .i64 4)], [V.w (.int .i64 4)], [V.w (.int .i64 8)]][b.toNat]? = some [V.w (.int .i64 (beatsN b))] := by
  rcases in4 h with rfl | rfl | rfl | rfl <;> rfl
theorem beats_bd (b : Int) : 0 ≤ beats b ∧ beats b ≤ 8 := by
  unfold beats
  split
  · rename_i h; rcases in4 h with rfl | rfl | rfl | rfl <;> simp [beatsN]
  · simp
def aligned (a size : Int) : Bool := inB size 0 2 && decide (0 ≤ a) && decide (a.tmod (bytes size) = 0)
def nextA (a size burst : Int) : Int :=
  if aligned a size && decide (a < 512) && decide (beats burst ≠ 0) then
    (if burst = 2 ∧ (a + bytes size).tmod (4 * bytes size) = 0 then a + bytes size - 4 * bytes size else a + bytes size)
  else -1

theorem c_33 (size : Int) : CV prg 33 [.w (.int .i64 size)] (fun res => res = .w (.int .i64 (bytes size))) := by
  refine cv_in g33 ?_
  refine s_keep [0] rfl ?_
  refine S_seq ?_
  refine s_rg ?_
  refine s_op (o_mv rfl) ?_
  refine s_nilO ?_
  refine q_seqN ?_
  refine s_keep [0] rfl ?_
  refine S_seq ?_
  refine S_seq ?_
  refine s_rg ?_
  refine s_op (o_mv rfl) ?_
  refine s_call rfl rfl (c_103 ..) ?_
  refine s_op (o_not rfl) ?_
  refine s_nilO ?_
  refine q_seqN ?_
  refine s_keep [0, 5] rfl ?_
  first | refine s_condD rfl ?_ ?_ | refine s_condN rfl ?_ ?_ | refine s_condNB rfl ?_ ?_ | refine s_condB rfl ?_ ?_
  · intro h1
    try rw [Decidable.not_not] at h1
    try have h1' := inB_t h1
    refine S_seq ?_
    refine s_rg ?_
    refine s_op (o_mv rfl) ?_
    refine s_nilO ?_
    refine q_seqN ?_
    refine s_keep [2] rfl ?_
    refine s_ret ?_
    refine q_seqR ?_
    refine ret_leaf (.inr rfl) rfl rfl ?_
    refine congrArg (fun b => V.w (.int .i64 b)) ?_
    first | exact bytes_leaf (by assumption) | exact (bytes_no (by assumption)).symm
  · intro h1
    try rw [Decidable.not_not] at h1
    try have h1' := inB_t h1
    refine s_skip ?_
    refine q_seqN ?_
    refine s_keep [0] rfl ?_
    refine S_seq ?_
    refine s_rg ?_
    refine s_op (o_mv rfl) ?_
    refine s_op (o_shl rfl rfl (by omega)) ?_
    refine s_op (o_mv rfl) ?_
    refine s_nilO ?_
    refine q_seqN ?_
    refine s_keep [2] rfl ?_
    refine s_ret ?_
    refine ret_leaf (.inr rfl) rfl rfl ?_
    refine congrArg (fun b => V.w (.int .i64 b)) ?_
    first | exact bytes_leaf (by assumption) | exact (bytes_no (by assumption)).symm

theorem c_183 (size : Int) : CV prg 183 [.w (.int .i64 size)] (fun res => res = .w (.int .i64 (bytes size))) := by
  refine cv_in g183 ?_
  refine s_keep [0] rfl ?_
  refine S_seq ?_
  refine s_rg ?_
  refine s_op (o_mv rfl) ?_
  refine s_nilO ?_
  refine q_seqN ?_
  refine s_keep [0] rfl ?_
  refine S_seq ?_
  refine S_seq ?_
  refine s_rg ?_
  refine s_op (o_mv rfl) ?_
  refine s_call rfl rfl (c_230 ..) ?_
  refine s_op (o_not rfl) ?_
  refine s_nilO ?_
  refine q_seqN ?_
  refine s_keep [0, 5] rfl ?_
  first | refine s_condD rfl ?_ ?_ | refine s_condN rfl ?_ ?_ | refine s_condNB rfl ?_ ?_ | refine s_condB rfl ?_ ?_
  · intro h1
    try rw [Decidable.not_not] at h1
    try have h1' := inB_t h1
    refine S_seq ?_
    refine s_rg ?_
    refine s_op (o_mv rfl) ?_
    refine s_nilO ?_
    refine q_seqN ?_
    refine s_keep [2] rfl ?_
    refine s_ret ?_
    refine q_seqR ?_
    refine ret_leaf (.inr rfl) rfl rfl ?_
    refine congrArg (fun b => V.w (.int .i64 b)) ?_
    first | exact bytes_leaf (by assumption) | exact (bytes_no (by assumption)).symm
  · intro h1
    try rw [Decidable.not_not] at h1
    try have h1' := inB_t h1
    refine s_skip ?_
    refine q_seqN ?_
    refine s_keep [0] rfl ?_
    refine S_seq ?_
    refine s_rg ?_
    refine s_op (o_mv rfl) ?_
    refine s_op (o_shl rfl rfl (by omega)) ?_
    refine s_op (o_mv rfl) ?_
    refine s_nilO ?_
    refine q_seqN ?_
    refine s_keep [2] rfl ?_
    refine s_ret ?_
    refine ret_leaf (.inr rfl) rfl rfl ?_
    refine congrArg (fun b => V.w (.int .i64 b)) ?_
    first | exact bytes_leaf (by assumption) | exact (bytes_no (by assumption)).symm

theorem c_22 (b : Int) : CV prg 22 [.w (.int .i64 b)] (fun res => res = .w (.int .i64 (beats b))) := by
  refine cv_in g22 ?_
  refine s_keep [0] rfl ?_
  refine S_seq ?_
  refine s_rg ?_
  refine s_op (o_mv rfl) ?_
  refine s_nilO ?_
  refine q_seqN ?_
  refine s_keep [0] rfl ?_
  refine S_seq ?_
  refine S_seq ?_
  refine s_rg ?_
  refine s_op (o_mv rfl) ?_
  refine s_call rfl rfl (c_103 ..) ?_
  refine s_op (o_not rfl) ?_
  refine s_nilO ?_
  refine q_seqN ?_
  refine s_keep [0, 5] rfl ?_
  first | refine s_condD rfl ?_ ?_ | refine s_condN rfl ?_ ?_ | refine s_condNB rfl ?_ ?_ | refine s_condB rfl ?_ ?_
  · intro h1
    try rw [Decidable.not_not] at h1
    try have h1' := inB_t h1
    refine S_seq ?_
    refine s_rg ?_
    refine s_op (o_mv rfl) ?_
    refine s_nilO ?_
    refine q_seqN ?_
    refine s_keep [2] rfl ?_
    refine s_ret ?_
    refine q_seqR ?_
    refine ret_leaf (.inr rfl) rfl rfl ?_
    refine congrArg (fun b => V.w (.int .i64 b)) ?_
    simp_all [beats]
  · intro h1
    try rw [Decidable.not_not] at h1
    try have h1' := inB_t h1
    refine s_skip ?_
    refine q_seqN ?_
    refine s_keep [0] rfl ?_
    refine S_seq ?_
    refine s_rg ?_
    refine s_op (o_bs rfl rfl rfl rfl) ?_
    refine s_op (o_mv rfl) ?_
    refine s_op (o_iaL rfl rfl rfl rfl (by simp; omega)) ?_
    refine s_op (o_ldA rfl rfl rfl (beats_row (t := .i64) (by assumption)) rfl) ?_
    refine s_op (o_mv rfl) ?_
    refine s_nilO ?_
    refine q_seqN ?_
    refine s_keep [2] rfl ?_
    refine s_ret ?_
    refine ret_leaf (.inr rfl) rfl rfl ?_
    refine congrArg (fun b => V.w (.int .i64 b)) ?_
    simp_all [beats]

theorem c_173 (b : Int) : CV prg 173 [.w (.int .i64 b)] (fun res => res = .w (.int .i64 (beats b))) := by
  refine cv_in g173 ?_
  refine s_keep [0] rfl ?_
  refine S_seq ?_
  refine s_rg ?_
  refine s_op (o_mv rfl) ?_
  refine s_nilO ?_
  refine q_seqN ?_
  refine s_keep [0] rfl ?_
  refine S_seq ?_
  refine S_seq ?_
  refine s_rg ?_
  refine s_op (o_mv rfl) ?_
  refine s_call rfl rfl (c_230 ..) ?_
  refine s_op (o_not rfl) ?_
  refine s_nilO ?_
  refine q_seqN ?_
  refine s_keep [0, 5] rfl ?_
  first | refine s_condD rfl ?_ ?_ | refine s_condN rfl ?_ ?_ | refine s_condNB rfl ?_ ?_ | refine s_condB rfl ?_ ?_
  · intro h1
    try rw [Decidable.not_not] at h1
    try have h1' := inB_t h1
    refine S_seq ?_
    refine s_rg ?_
    refine s_op (o_mv rfl) ?_
    refine s_nilO ?_
    refine q_seqN ?_
    refine s_keep [2] rfl ?_
    refine s_ret ?_
    refine q_seqR ?_
    refine ret_leaf (.inr rfl) rfl rfl ?_
    refine congrArg (fun b => V.w (.int .i64 b)) ?_
    simp_all [beats]
  · intro h1
    try rw [Decidable.not_not] at h1
    try have h1' := inB_t h1
    refine s_skip ?_
    refine q_seqN ?_
    refine s_keep [0] rfl ?_
    refine S_seq ?_
    refine s_rg ?_
    refine s_op (o_bs rfl rfl rfl rfl) ?_
    refine s_op (o_mv rfl) ?_
    refine s_op (o_iaL rfl rfl rfl rfl (by simp; omega)) ?_
    refine s_op (o_ldA rfl rfl rfl (beats_row (t := .i64) (by assumption)) rfl) ?_
    refine s_op (o_mv rfl) ?_
    refine s_nilO ?_
    refine q_seqN ?_
    refine s_keep [2] rfl ?_
    refine s_ret ?_
    refine ret_leaf (.inr rfl) rfl rfl ?_
    refine congrArg (fun b => V.w (.int .i64 b)) ?_
    simp_all [beats]

theorem c_51 (size : Int) : CV prg 51 [.w (.int .i64 size)] (fun res => res = .w (.int .i64 (limit size))) := by
  have hz := bytes_z (x := size)
  refine cv_in g51 ?_
  refine s_keep [0] rfl ?_
  refine S_seq ?_
  refine s_rg ?_
  refine s_op (o_mv rfl) ?_
  refine s_nilO ?_
  refine q_seqN ?_
  refine s_keep [0] rfl ?_
  refine S_seq ?_
  refine S_seq ?_
  refine s_rg ?_
  refine s_op (o_mv rfl) ?_
  refine s_call rfl rfl (c_33 ..) ?_
  first | refine s_op (o_eql rfl rfl) ?_ | refine s_op (o_bin rfl rfl rfl rfl) ?_
  refine s_nilO ?_
  refine q_seqN ?_
  refine s_keep [0, 5] rfl ?_
  first | refine s_condD rfl ?_ ?_ | refine s_condN rfl ?_ ?_ | refine s_condNB rfl ?_ ?_ | refine s_condB rfl ?_ ?_
  · intro h1
    try rw [Decidable.not_not] at h1
    refine S_seq ?_
    refine s_rg ?_
    refine s_op (o_mv rfl) ?_
    refine s_nilO ?_
    refine q_seqN ?_
    refine s_keep [2] rfl ?_
    refine s_ret ?_
    refine q_seqR ?_
    refine ret_leaf (.inr rfl) rfl rfl ?_
    refine congrArg (fun b => V.w (.int .i64 b)) ?_
    first | exact limit_leaf (by assumption) | exact (limit_no (by assumption)).symm
  · intro h1
    try rw [Decidable.not_not] at h1
    refine s_skip ?_
    refine q_seqN ?_
    refine s_keep [0] rfl ?_
    refine S_seq ?_
    refine s_rg ?_
    refine s_op (o_mv rfl) ?_
    refine s_call rfl rfl (c_33 ..) ?_
    refine s_op (o_mul rfl rfl) ?_
    refine s_op (o_shl rfl rfl (by rw [wrap_in _ (by omega)]; omega)) ?_
    refine s_op (o_mv rfl) ?_
    refine s_nilO ?_
    refine q_seqN ?_
    refine s_keep [2] rfl ?_
    refine s_ret ?_
    refine ret_leaf (.inr rfl) rfl rfl ?_
    refine congrArg (fun b => V.w (.int .i64 b)) ?_
    first | exact limit_leaf (by assumption) | exact (limit_no (by assumption)).symm

theorem c_201 (size : Int) : CV prg 201 [.w (.int .i64 size)] (fun res => res = .w (.int .i64 (limit size))) := by
  have hz := bytes_z (x := size)
  refine cv_in g201 ?_
  refine s_keep [0] rfl ?_
  refine S_seq ?_
  refine s_rg ?_
  refine s_op (o_mv rfl) ?_
  refine s_nilO ?_
  refine q_seqN ?_
  refine s_keep [0] rfl ?_
  refine S_seq ?_
  refine S_seq ?_
  refine s_rg ?_
  refine s_op (o_mv rfl) ?_
  refine s_call rfl rfl (c_183 ..) ?_
  first | refine s_op (o_eql rfl rfl) ?_ | refine s_op (o_bin rfl rfl rfl rfl) ?_
  refine s_nilO ?_
  refine q_seqN ?_
  refine s_keep [0, 5] rfl ?_
  first | refine s_condD rfl ?_ ?_ | refine s_condN rfl ?_ ?_ | refine s_condNB rfl ?_ ?_ | refine s_condB rfl ?_ ?_
  · intro h1
    try rw [Decidable.not_not] at h1
    refine S_seq ?_
    refine s_rg ?_
    refine s_op (o_mv rfl) ?_
    refine s_nilO ?_
    refine q_seqN ?_
    refine s_keep [2] rfl ?_
    refine s_ret ?_
    refine q_seqR ?_
    refine ret_leaf (.inr rfl) rfl rfl ?_
    refine congrArg (fun b => V.w (.int .i64 b)) ?_
    first | exact limit_leaf (by assumption) | exact (limit_no (by assumption)).symm
  · intro h1
    try rw [Decidable.not_not] at h1
    refine s_skip ?_
    refine q_seqN ?_
    refine s_keep [0] rfl ?_
    refine S_seq ?_
    refine s_rg ?_
    refine s_op (o_mv rfl) ?_
    refine s_call rfl rfl (c_183 ..) ?_
    refine s_op (o_mul rfl rfl) ?_
    refine s_op (o_shl rfl rfl (by rw [wrap_in _ (by omega)]; omega)) ?_
    refine s_op (o_mv rfl) ?_
    refine s_nilO ?_
    refine q_seqN ?_
    refine s_keep [2] rfl ?_
    refine s_ret ?_
    refine ret_leaf (.inr rfl) rfl rfl ?_
    refine congrArg (fun b => V.w (.int .i64 b)) ?_
    first | exact limit_leaf (by assumption) | exact (limit_no (by assumption)).symm

theorem c_92 (v size : Int) : CV prg 92 [.w (.int .i64 v), .w (.int .i64 size)] (fun res => res = .w (.bool (inB v 0 (limit size - 1)))) := by
  have hz := limit_bd size
  refine cv_in g92 ?_
  refine s_keep [0, 1] rfl ?_
  refine S_seq ?_
  refine s_rg ?_
  refine s_op (o_mv rfl) ?_
  refine s_nilO ?_
  refine q_seqN ?_
  refine s_keep [0, 1] rfl ?_
  refine S_seq ?_
  refine s_rg ?_
  refine s_op (o_mv rfl) ?_
  refine s_op (o_mv rfl) ?_
  refine s_call rfl rfl (c_51 ..) ?_
  first | refine s_op (o_subn rfl rfl (by omega)) ?_ | refine s_op (o_sub rfl rfl) ?_
  refine s_call rfl rfl (c_103 ..) ?_
  refine s_op (o_mv rfl) ?_
  refine s_nilO ?_
  refine q_seqN ?_
  refine s_keep [4] rfl ?_
  refine s_ret ?_
  refine ret_leaf (.inr rfl) rfl rfl ?_
  refine congrArg (fun b => V.w (.bool b)) ?_
  rfl

theorem c_21 (a size : Int) : CV prg 21 [.w (.int .i64 a), .w (.int .i64 size)] (fun res => res = .w (.bool (aligned a size))) := by
  have hz := bytes_z (x := size)
  refine cv_in g21 ?_
  refine s_keep [0, 1] rfl ?_
  refine S_seq ?_
  refine s_rg ?_
  refine s_op (o_mv rfl) ?_
  refine s_nilO ?_
  refine q_seqN ?_
  refine s_keep [0, 1] rfl ?_
  refine S_seq ?_
  refine s_rg ?_
  refine s_op (o_mv rfl) ?_
  refine s_call rfl rfl (c_103 ..) ?_
  refine s_op (o_mv rfl) ?_
  first | refine s_gDT rfl ?_ ?_ | refine s_gNDT rfl ?_ ?_ | refine s_gNT rfl ?_ ?_ | refine s_gB rfl ?_ ?_
  · intro h1
    try rw [Decidable.not_not] at h1
    try (have h1' := hz; rw [h1] at h1'; simp at h1')
    refine s_op (o_mv rfl) ?_
    refine s_gT rfl ?_
    first | refine s_op (o_geq rfl rfl) ?_ | refine s_op (o_bin rfl rfl rfl rfl) ?_
    refine s_op (o_pickT rfl rfl) ?_
    refine s_op (o_mv rfl) ?_
    first | refine s_gDT rfl ?_ ?_ | refine s_gNDT rfl ?_ ?_ | refine s_gNT rfl ?_ ?_ | refine s_gB rfl ?_ ?_
    · intro h2
      try rw [Decidable.not_not] at h2
      try (have h2' := hz; rw [h2] at h2'; simp at h2')
      refine s_op (o_mv rfl) ?_
      refine s_gT rfl ?_
      refine s_op (o_mv rfl) ?_
      refine s_gT rfl ?_
      refine s_call rfl rfl (c_33 ..) ?_
      refine s_gT rfl ?_
      first | refine s_op (o_rem rfl rfl (by decide)) ?_ | refine s_op (o_rem rfl rfl (by omega)) ?_
      refine s_gT rfl ?_
      first | refine s_op (o_eql rfl rfl) ?_ | refine s_op (o_bin rfl rfl rfl rfl) ?_
      refine s_op (o_pickT rfl rfl) ?_
      refine s_op (o_mv rfl) ?_
      refine s_nilO ?_
      refine q_seqN ?_
      refine s_keep [4] rfl ?_
      refine s_ret ?_
      refine ret_leaf (.inr rfl) rfl rfl ?_
      refine congrArg (fun b => V.w (.bool b)) ?_
      first | (simp_all [aligned]; done) | (simp_all [aligned] <;> omega)
    · intro h2
      try rw [Decidable.not_not] at h2
      try (have h2' := hz; rw [h2] at h2'; simp at h2')
      refine s_gF rfl ?_
      refine s_gF rfl ?_
      refine s_gF rfl ?_
      refine s_gF rfl ?_
      refine s_gF rfl ?_
      refine s_op (o_pickF rfl rfl) ?_
      refine s_op (o_mv rfl) ?_
      refine s_nilO ?_
      refine q_seqN ?_
      refine s_keep [4] rfl ?_
      refine s_ret ?_
      refine ret_leaf (.inr rfl) rfl rfl ?_
      refine congrArg (fun b => V.w (.bool b)) ?_
      first | (simp_all [aligned]; done) | (simp_all [aligned] <;> omega)
  · intro h1
    try rw [Decidable.not_not] at h1
    try (have h1' := hz; rw [h1] at h1'; simp at h1')
    refine s_gF rfl ?_
    refine s_gF rfl ?_
    refine s_op (o_pickF rfl rfl) ?_
    refine s_op (o_mv rfl) ?_
    refine s_gF rfl ?_
    refine s_gF rfl ?_
    refine s_gF rfl ?_
    refine s_gF rfl ?_
    refine s_gF rfl ?_
    refine s_op (o_pickF rfl rfl) ?_
    refine s_op (o_mv rfl) ?_
    refine s_nilO ?_
    refine q_seqN ?_
    refine s_keep [4] rfl ?_
    refine s_ret ?_
    refine ret_leaf (.inr rfl) rfl rfl ?_
    refine congrArg (fun b => V.w (.bool b)) ?_
    first | (simp_all [aligned]; done) | (simp_all [aligned] <;> omega)

theorem c_172 (a size : Int) : CV prg 172 [.w (.int .i64 a), .w (.int .i64 size)] (fun res => res = .w (.bool (aligned a size))) := by
  have hz := bytes_z (x := size)
  refine cv_in g172 ?_
  refine s_keep [0, 1] rfl ?_
  refine S_seq ?_
  refine s_rg ?_
  refine s_op (o_mv rfl) ?_
  refine s_nilO ?_
  refine q_seqN ?_
  refine s_keep [0, 1] rfl ?_
  refine S_seq ?_
  refine s_rg ?_
  refine s_op (o_mv rfl) ?_
  refine s_call rfl rfl (c_183 ..) ?_
  first | refine s_op (o_gtr rfl rfl) ?_ | refine s_op (o_bin rfl rfl rfl rfl) ?_
  refine s_op (o_mv rfl) ?_
  first | refine s_gDT rfl ?_ ?_ | refine s_gNDT rfl ?_ ?_ | refine s_gNT rfl ?_ ?_ | refine s_gB rfl ?_ ?_
  · intro h1
    try rw [Decidable.not_not] at h1
    refine s_op (o_mv rfl) ?_
    refine s_gT rfl ?_
    first | refine s_op (o_geq rfl rfl) ?_ | refine s_op (o_bin rfl rfl rfl rfl) ?_
    refine s_op (o_pickT rfl rfl) ?_
    refine s_op (o_mv rfl) ?_
    first | refine s_gDT rfl ?_ ?_ | refine s_gNDT rfl ?_ ?_ | refine s_gNT rfl ?_ ?_ | refine s_gB rfl ?_ ?_
    · intro h2
      try rw [Decidable.not_not] at h2
      refine s_op (o_mv rfl) ?_
      refine s_gT rfl ?_
      refine s_op (o_mv rfl) ?_
      refine s_gT rfl ?_
      refine s_call rfl rfl (c_183 ..) ?_
      refine s_gT rfl ?_
      first | refine s_op (o_rem rfl rfl (by decide)) ?_ | refine s_op (o_rem rfl rfl (by omega)) ?_
      refine s_gT rfl ?_
      first | refine s_op (o_eql rfl rfl) ?_ | refine s_op (o_bin rfl rfl rfl rfl) ?_
      refine s_op (o_pickT rfl rfl) ?_
      refine s_op (o_mv rfl) ?_
      refine s_nilO ?_
      refine q_seqN ?_
      refine s_keep [4] rfl ?_
      refine s_ret ?_
      refine ret_leaf (.inr rfl) rfl rfl ?_
      refine congrArg (fun b => V.w (.bool b)) ?_
      first | (rcases hz with ⟨h8, h9⟩ | ⟨h8, h9⟩ <;> simp_all [aligned]; done) | (rcases hz with ⟨h8, h9⟩ | ⟨h8, h9⟩ <;> simp_all [aligned] <;> omega)
    · intro h2
      try rw [Decidable.not_not] at h2
      refine s_gF rfl ?_
      refine s_gF rfl ?_
      refine s_gF rfl ?_
      refine s_gF rfl ?_
      refine s_gF rfl ?_
      refine s_op (o_pickF rfl rfl) ?_
      refine s_op (o_mv rfl) ?_
      refine s_nilO ?_
      refine q_seqN ?_
      refine s_keep [4] rfl ?_
      refine s_ret ?_
      refine ret_leaf (.inr rfl) rfl rfl ?_
      refine congrArg (fun b => V.w (.bool b)) ?_
      first | (rcases hz with ⟨h8, h9⟩ | ⟨h8, h9⟩ <;> simp_all [aligned]; done) | (rcases hz with ⟨h8, h9⟩ | ⟨h8, h9⟩ <;> simp_all [aligned] <;> omega)
  · intro h1
    try rw [Decidable.not_not] at h1
    refine s_gF rfl ?_
    refine s_gF rfl ?_
    refine s_op (o_pickF rfl rfl) ?_
    refine s_op (o_mv rfl) ?_
    refine s_gF rfl ?_
    refine s_gF rfl ?_
    refine s_gF rfl ?_
    refine s_gF rfl ?_
    refine s_gF rfl ?_
    refine s_op (o_pickF rfl rfl) ?_
    refine s_op (o_mv rfl) ?_
    refine s_nilO ?_
    refine q_seqN ?_
    refine s_keep [4] rfl ?_
    refine s_ret ?_
    refine ret_leaf (.inr rfl) rfl rfl ?_
    refine congrArg (fun b => V.w (.bool b)) ?_
    first | (rcases hz with ⟨h8, h9⟩ | ⟨h8, h9⟩ <;> simp_all [aligned]; done) | (rcases hz with ⟨h8, h9⟩ | ⟨h8, h9⟩ <;> simp_all [aligned] <;> omega)

theorem aligned_t {a s : Int} (h : aligned a s = true) : inB s 0 2 = true ∧ 0 ≤ a ∧ (bytes s = 1 ∨ bytes s = 2 ∨ bytes s = 4) := by
  simp only [aligned, Bool.and_eq_true, decide_eq_true_eq] at h
  exact ⟨h.1.1, h.1.2, bytes_pos h.1.1⟩

theorem c_60 (a size burst : Int) : CV prg 60 [.w (.int .i64 a), .w (.int .i64 size), .w (.int .i64 burst)] (fun res => res = .w (.int .i64 (nextA a size burst))) := by
  refine cv_in g60 ?_
  refine s_keep [0, 1, 2] rfl ?_
  refine S_seq ?_
  refine s_rg ?_
  refine s_op (o_mv rfl) ?_
  refine s_nilO ?_
  refine q_seqN ?_
  refine s_keep [0, 1, 2] rfl ?_
  refine S_seq ?_
  refine S_seq ?_
  refine s_rg ?_
  refine s_op (o_mv rfl) ?_
  refine s_op (o_mv rfl) ?_
  refine s_call rfl rfl (c_21 ..) ?_
  refine s_op (o_not rfl) ?_
  refine s_op (o_mv rfl) ?_
  first | refine s_gDF rfl ?_ ?_ | refine s_gNDF rfl ?_ ?_ | refine s_gNF rfl ?_ ?_ | refine s_gB rfl ?_ ?_
  · intro h1
    try rw [Decidable.not_not] at h1
    try have h1' := aligned_t h1
    try have h1' := inB_t h1
    try have h1' := inB_f h1
    refine s_op (o_mv rfl) ?_
    refine s_gT rfl ?_
    first | refine s_op (o_geq rfl rfl) ?_ | refine s_op (o_bin rfl rfl rfl rfl) ?_
    refine s_op (o_pickF rfl rfl) ?_
    refine s_op (o_mv rfl) ?_
    first | refine s_gDF rfl ?_ ?_ | refine s_gNDF rfl ?_ ?_ | refine s_gNF rfl ?_ ?_ | refine s_gB rfl ?_ ?_
    · intro h2
      try rw [Decidable.not_not] at h2
      try have h2' := aligned_t h2
      try have h2' := inB_t h2
      try have h2' := inB_f h2
      refine s_op (o_mv rfl) ?_
      refine s_gT rfl ?_
      refine s_call rfl rfl (c_22 ..) ?_
      refine s_gT rfl ?_
      first | refine s_op (o_eql rfl rfl) ?_ | refine s_op (o_bin rfl rfl rfl rfl) ?_
      refine s_op (o_pickF rfl rfl) ?_
      refine s_nilO ?_
      refine q_seqN ?_
      refine s_keep [0, 1, 2, 21] rfl ?_
      first | refine s_condD rfl ?_ ?_ | refine s_condN rfl ?_ ?_ | refine s_condNB rfl ?_ ?_ | refine s_condB rfl ?_ ?_
      · intro h3
        try rw [Decidable.not_not] at h3
        try have h3' := aligned_t h3
        try have h3' := inB_t h3
        try have h3' := inB_f h3
        refine S_seq ?_
        refine s_rg ?_
        refine s_op (o_mv rfl) ?_
        refine s_nilO ?_
        refine q_seqN ?_
        refine s_keep [6] rfl ?_
        refine s_ret ?_
        refine q_seqR ?_
        refine ret_leaf (.inr rfl) rfl rfl ?_
        refine congrArg (fun b => V.w (.int .i64 b)) ?_
        first | (simp_all [nextA]; done) | (simp_all [nextA] <;> omega)
      · intro h3
        try rw [Decidable.not_not] at h3
        try have h3' := aligned_t h3
        try have h3' := inB_t h3
        try have h3' := inB_f h3
        refine s_skip ?_
        refine q_seqN ?_
        refine s_keep [0, 1, 2] rfl ?_
        refine S_seq ?_
        refine s_rg ?_
        refine s_op (o_mv rfl) ?_
        refine s_op (o_mv rfl) ?_
        refine s_call rfl rfl (c_33 ..) ?_
        first | refine s_op (o_addn rfl rfl (by omega)) ?_ | refine s_op (o_add rfl rfl) ?_
        refine s_op (o_mv rfl) ?_
        refine s_call rfl rfl (c_33 ..) ?_
        first | refine s_op (o_muln rfl rfl (by omega)) ?_ | refine s_op (o_mul rfl rfl) ?_
        refine s_op (o_mv rfl) ?_
        refine s_op (o_mv rfl) ?_
        refine s_nilO ?_
        refine q_seqN ?_
        refine s_keep [2, 7, 8] rfl ?_
        refine S_seq ?_
        refine S_seq ?_
        refine s_rg ?_
        refine s_op (o_mv rfl) ?_
        first | refine s_op (o_eql rfl rfl) ?_ | refine s_op (o_bin rfl rfl rfl rfl) ?_
        refine s_op (o_mv rfl) ?_
        first | refine s_gDT rfl ?_ ?_ | refine s_gNDT rfl ?_ ?_ | refine s_gNT rfl ?_ ?_ | refine s_gB rfl ?_ ?_
        · intro h4
          try rw [Decidable.not_not] at h4
          try have h4' := aligned_t h4
          try have h4' := inB_t h4
          try have h4' := inB_f h4
          refine s_op (o_mv rfl) ?_
          refine s_gT rfl ?_
          refine s_op (o_mv rfl) ?_
          refine s_gT rfl ?_
          first | refine s_op (o_rem rfl rfl (by decide)) ?_ | refine s_op (o_rem rfl rfl (by omega)) ?_
          refine s_gT rfl ?_
          first | refine s_op (o_eql rfl rfl) ?_ | refine s_op (o_bin rfl rfl rfl rfl) ?_
          refine s_op (o_pickT rfl rfl) ?_
          refine s_nilO ?_
          refine q_seqN ?_
          refine s_keep [7, 8, 36] rfl ?_
          first | refine s_condD rfl ?_ ?_ | refine s_condN rfl ?_ ?_ | refine s_condNB rfl ?_ ?_ | refine s_condB rfl ?_ ?_
          · intro h5
            try rw [Decidable.not_not] at h5
            try have h5' := aligned_t h5
            try have h5' := inB_t h5
            try have h5' := inB_f h5
            refine s_rg ?_
            refine s_op (o_mv rfl) ?_
            refine s_op (o_mv rfl) ?_
            first | refine s_op (o_subn rfl rfl (by omega)) ?_ | refine s_op (o_sub rfl rfl) ?_
            refine s_op (o_mv rfl) ?_
            refine s_nilO ?_
            refine q_seqN ?_
            refine s_keep [7] rfl ?_
            refine S_seq ?_
            refine s_rg ?_
            refine s_op (o_mv rfl) ?_
            refine s_op (o_mv rfl) ?_
            refine s_nilO ?_
            refine q_seqN ?_
            refine s_keep [6] rfl ?_
            refine s_ret ?_
            refine ret_leaf (.inr rfl) rfl rfl ?_
            refine congrArg (fun b => V.w (.int .i64 b)) ?_
            first | (simp_all [nextA]; done) | (simp_all [nextA] <;> omega)
          · intro h5
            try rw [Decidable.not_not] at h5
            try have h5' := aligned_t h5
            try have h5' := inB_t h5
            try have h5' := inB_f h5
            refine s_skip ?_
            refine q_seqN ?_
            refine s_keep [7] rfl ?_
            refine S_seq ?_
            refine s_rg ?_
            refine s_op (o_mv rfl) ?_
            refine s_op (o_mv rfl) ?_
            refine s_nilO ?_
            refine q_seqN ?_
            refine s_keep [6] rfl ?_
            refine s_ret ?_
            refine ret_leaf (.inr rfl) rfl rfl ?_
            refine congrArg (fun b => V.w (.int .i64 b)) ?_
            first | (simp_all [nextA]; done) | (simp_all [nextA] <;> omega)
        · intro h4
          try rw [Decidable.not_not] at h4
          try have h4' := aligned_t h4
          try have h4' := inB_t h4
          try have h4' := inB_f h4
          refine s_gF rfl ?_
          refine s_gF rfl ?_
          refine s_gF rfl ?_
          refine s_gF rfl ?_
          refine s_op (o_pickF rfl rfl) ?_
          refine s_nilO ?_
          refine q_seqN ?_
          refine s_keep [7, 8, 36] rfl ?_
          refine s_condF rfl ?_
          refine s_skip ?_
          refine q_seqN ?_
          refine s_keep [7] rfl ?_
          refine S_seq ?_
          refine s_rg ?_
          refine s_op (o_mv rfl) ?_
          refine s_op (o_mv rfl) ?_
          refine s_nilO ?_
          refine q_seqN ?_
          refine s_keep [6] rfl ?_
          refine s_ret ?_
          refine ret_leaf (.inr rfl) rfl rfl ?_
          refine congrArg (fun b => V.w (.int .i64 b)) ?_
          first | (simp_all [nextA]; done) | (simp_all [nextA] <;> omega)
    · intro h2
      try rw [Decidable.not_not] at h2
      try have h2' := aligned_t h2
      try have h2' := inB_t h2
      try have h2' := inB_f h2
      refine s_gF rfl ?_
      refine s_gF rfl ?_
      refine s_gF rfl ?_
      refine s_op (o_pickT rfl rfl) ?_
      refine s_nilO ?_
      refine q_seqN ?_
      refine s_keep [0, 1, 2, 21] rfl ?_
      refine s_condT rfl ?_
      refine S_seq ?_
      refine s_rg ?_
      refine s_op (o_mv rfl) ?_
      refine s_nilO ?_
      refine q_seqN ?_
      refine s_keep [6] rfl ?_
      refine s_ret ?_
      refine q_seqR ?_
      refine ret_leaf (.inr rfl) rfl rfl ?_
      refine congrArg (fun b => V.w (.int .i64 b)) ?_
      first | (simp_all [nextA]; done) | (simp_all [nextA] <;> omega)
  · intro h1
    try rw [Decidable.not_not] at h1
    try have h1' := aligned_t h1
    try have h1' := inB_t h1
    try have h1' := inB_f h1
    refine s_gF rfl ?_
    refine s_gF rfl ?_
    refine s_op (o_pickT rfl rfl) ?_
    refine s_op (o_mv rfl) ?_
    refine s_gF rfl ?_
    refine s_gF rfl ?_
    refine s_gF rfl ?_
    refine s_op (o_pickT rfl rfl) ?_
    refine s_nilO ?_
    refine q_seqN ?_
    refine s_keep [0, 1, 2, 21] rfl ?_
    refine s_condT rfl ?_
    refine S_seq ?_
    refine s_rg ?_
    refine s_op (o_mv rfl) ?_
    refine s_nilO ?_
    refine q_seqN ?_
    refine s_keep [6] rfl ?_
    refine s_ret ?_
    refine q_seqR ?_
    refine ret_leaf (.inr rfl) rfl rfl ?_
    refine congrArg (fun b => V.w (.int .i64 b)) ?_
    first | (simp_all [nextA]; done) | (simp_all [nextA] <;> omega)

theorem c_205 (a size burst : Int) : CV prg 205 [.w (.int .i64 a), .w (.int .i64 size), .w (.int .i64 burst)] (fun res => res = .w (.int .i64 (nextA a size burst))) := by
  refine cv_in g205 ?_
  refine s_keep [0, 1, 2] rfl ?_
  refine S_seq ?_
  refine s_rg ?_
  refine s_op (o_mv rfl) ?_
  refine s_nilO ?_
  refine q_seqN ?_
  refine s_keep [0, 1, 2] rfl ?_
  refine S_seq ?_
  refine s_rg ?_
  refine s_op (o_mv rfl) ?_
  refine s_call rfl rfl (c_183 ..) ?_
  refine s_op (o_mv rfl) ?_
  refine s_nilO ?_
  refine q_seqN ?_
  refine s_keep [0, 1, 2, 7] rfl ?_
  refine S_seq ?_
  refine S_seq ?_
  refine s_rg ?_
  refine s_op (o_mv rfl) ?_
  refine s_op (o_mv rfl) ?_
  refine s_call rfl rfl (c_172 ..) ?_
  refine s_op (o_not rfl) ?_
  refine s_op (o_mv rfl) ?_
  first | refine s_gDF rfl ?_ ?_ | refine s_gNDF rfl ?_ ?_ | refine s_gNF rfl ?_ ?_ | refine s_gB rfl ?_ ?_
  · intro h1
    try rw [Decidable.not_not] at h1
    try have h1' := aligned_t h1
    try have h1' := inB_t h1
    try have h1' := inB_f h1
    refine s_op (o_mv rfl) ?_
    refine s_gT rfl ?_
    refine s_call rfl rfl (c_230 ..) ?_
    refine s_gT rfl ?_
    refine s_op (o_not rfl) ?_
    refine s_op (o_pickF rfl rfl) ?_
    refine s_op (o_mv rfl) ?_
    first | refine s_gDF rfl ?_ ?_ | refine s_gNDF rfl ?_ ?_ | refine s_gNF rfl ?_ ?_ | refine s_gB rfl ?_ ?_
    · intro h2
      try rw [Decidable.not_not] at h2
      try have h2' := aligned_t h2
      try have h2' := inB_t h2
      try have h2' := inB_f h2
      refine s_op (o_mv rfl) ?_
      refine s_gT rfl ?_
      refine s_call rfl rfl (c_173 ..) ?_
      refine s_gT rfl ?_
      first | refine s_op (o_eql rfl rfl) ?_ | refine s_op (o_bin rfl rfl rfl rfl) ?_
      refine s_op (o_pickF rfl rfl) ?_
      refine s_nilO ?_
      refine q_seqN ?_
      refine s_keep [0, 2, 7, 23] rfl ?_
      first | refine s_condD rfl ?_ ?_ | refine s_condN rfl ?_ ?_ | refine s_condNB rfl ?_ ?_ | refine s_condB rfl ?_ ?_
      · intro h3
        try rw [Decidable.not_not] at h3
        try have h3' := aligned_t h3
        try have h3' := inB_t h3
        try have h3' := inB_f h3
        refine S_seq ?_
        refine s_rg ?_
        refine s_op (o_mv rfl) ?_
        refine s_nilO ?_
        refine q_seqN ?_
        refine s_keep [6] rfl ?_
        refine s_ret ?_
        refine q_seqR ?_
        refine ret_leaf (.inr rfl) rfl rfl ?_
        refine congrArg (fun b => V.w (.int .i64 b)) ?_
        first | (simp_all [nextA]; done) | (simp_all [nextA] <;> omega)
      · intro h3
        try rw [Decidable.not_not] at h3
        try have h3' := aligned_t h3
        try have h3' := inB_t h3
        try have h3' := inB_f h3
        refine s_skip ?_
        refine q_seqN ?_
        refine s_keep [0, 2, 7] rfl ?_
        refine S_seq ?_
        refine S_seq ?_
        refine s_rg ?_
        refine s_op (o_mv rfl) ?_
        first | refine s_op (o_eql rfl rfl) ?_ | refine s_op (o_bin rfl rfl rfl rfl) ?_
        refine s_op (o_mv rfl) ?_
        first | refine s_gDT rfl ?_ ?_ | refine s_gNDT rfl ?_ ?_ | refine s_gNT rfl ?_ ?_ | refine s_gB rfl ?_ ?_
        · intro h4
          try rw [Decidable.not_not] at h4
          try have h4' := aligned_t h4
          try have h4' := inB_t h4
          try have h4' := inB_f h4
          refine s_op (o_mv rfl) ?_
          refine s_gT rfl ?_
          refine s_op (o_mv rfl) ?_
          refine s_gT rfl ?_
          first | refine s_op (o_addn rfl rfl (by omega)) ?_ | refine s_op (o_add rfl rfl) ?_
          refine s_gT rfl ?_
          refine s_op (o_mv rfl) ?_
          refine s_gT rfl ?_
          first | refine s_op (o_muln rfl rfl (by omega)) ?_ | refine s_op (o_mul rfl rfl) ?_
          refine s_gT rfl ?_
          first | refine s_op (o_rem rfl rfl (by decide)) ?_ | refine s_op (o_rem rfl rfl (by omega)) ?_
          refine s_gT rfl ?_
          first | refine s_op (o_eql rfl rfl) ?_ | refine s_op (o_bin rfl rfl rfl rfl) ?_
          refine s_op (o_pickT rfl rfl) ?_
          refine s_nilO ?_
          refine q_seqN ?_
          refine s_keep [0, 7, 34] rfl ?_
          first | refine s_condD rfl ?_ ?_ | refine s_condN rfl ?_ ?_ | refine s_condNB rfl ?_ ?_ | refine s_condB rfl ?_ ?_
          · intro h5
            try rw [Decidable.not_not] at h5
            try have h5' := aligned_t h5
            try have h5' := inB_t h5
            try have h5' := inB_f h5
            refine S_seq ?_
            refine s_rg ?_
            refine s_op (o_mv rfl) ?_
            refine s_op (o_mv rfl) ?_
            first | refine s_op (o_addn rfl rfl (by omega)) ?_ | refine s_op (o_add rfl rfl) ?_
            refine s_op (o_mv rfl) ?_
            first | refine s_op (o_muln rfl rfl (by omega)) ?_ | refine s_op (o_mul rfl rfl) ?_
            first | refine s_op (o_subn rfl rfl (by omega)) ?_ | refine s_op (o_sub rfl rfl) ?_
            refine s_op (o_mv rfl) ?_
            refine s_nilO ?_
            refine q_seqN ?_
            refine s_keep [6] rfl ?_
            refine s_ret ?_
            refine q_seqR ?_
            refine ret_leaf (.inr rfl) rfl rfl ?_
            refine congrArg (fun b => V.w (.int .i64 b)) ?_
            first | (simp_all [nextA]; done) | (simp_all [nextA] <;> omega)
          · intro h5
            try rw [Decidable.not_not] at h5
            try have h5' := aligned_t h5
            try have h5' := inB_t h5
            try have h5' := inB_f h5
            refine s_skip ?_
            refine q_seqN ?_
            refine s_keep [0, 7] rfl ?_
            refine S_seq ?_
            refine s_rg ?_
            refine s_op (o_mv rfl) ?_
            refine s_op (o_mv rfl) ?_
            first | refine s_op (o_addn rfl rfl (by omega)) ?_ | refine s_op (o_add rfl rfl) ?_
            refine s_op (o_mv rfl) ?_
            refine s_nilO ?_
            refine q_seqN ?_
            refine s_keep [6] rfl ?_
            refine s_ret ?_
            refine ret_leaf (.inr rfl) rfl rfl ?_
            refine congrArg (fun b => V.w (.int .i64 b)) ?_
            first | (simp_all [nextA]; done) | (simp_all [nextA] <;> omega)
        · intro h4
          try rw [Decidable.not_not] at h4
          try have h4' := aligned_t h4
          try have h4' := inB_t h4
          try have h4' := inB_f h4
          refine s_gF rfl ?_
          refine s_gF rfl ?_
          refine s_gF rfl ?_
          refine s_gF rfl ?_
          refine s_gF rfl ?_
          refine s_gF rfl ?_
          refine s_gF rfl ?_
          refine s_op (o_pickF rfl rfl) ?_
          refine s_nilO ?_
          refine q_seqN ?_
          refine s_keep [0, 7, 34] rfl ?_
          refine s_condF rfl ?_
          refine s_skip ?_
          refine q_seqN ?_
          refine s_keep [0, 7] rfl ?_
          refine S_seq ?_
          refine s_rg ?_
          refine s_op (o_mv rfl) ?_
          refine s_op (o_mv rfl) ?_
          first | refine s_op (o_addn rfl rfl (by omega)) ?_ | refine s_op (o_add rfl rfl) ?_
          refine s_op (o_mv rfl) ?_
          refine s_nilO ?_
          refine q_seqN ?_
          refine s_keep [6] rfl ?_
          refine s_ret ?_
          refine ret_leaf (.inr rfl) rfl rfl ?_
          refine congrArg (fun b => V.w (.int .i64 b)) ?_
          first | (simp_all [nextA]; done) | (simp_all [nextA] <;> omega)
    · intro h2
      try rw [Decidable.not_not] at h2
      try have h2' := aligned_t h2
      try have h2' := inB_t h2
      try have h2' := inB_f h2
      refine s_gF rfl ?_
      refine s_gF rfl ?_
      refine s_gF rfl ?_
      refine s_op (o_pickT rfl rfl) ?_
      refine s_nilO ?_
      refine q_seqN ?_
      refine s_keep [0, 2, 7, 23] rfl ?_
      refine s_condT rfl ?_
      refine S_seq ?_
      refine s_rg ?_
      refine s_op (o_mv rfl) ?_
      refine s_nilO ?_
      refine q_seqN ?_
      refine s_keep [6] rfl ?_
      refine s_ret ?_
      refine q_seqR ?_
      refine ret_leaf (.inr rfl) rfl rfl ?_
      refine congrArg (fun b => V.w (.int .i64 b)) ?_
      first | (simp_all [nextA]; done) | (simp_all [nextA] <;> omega)
  · intro h1
    try rw [Decidable.not_not] at h1
    try have h1' := aligned_t h1
    try have h1' := inB_t h1
    try have h1' := inB_f h1
    refine s_gF rfl ?_
    refine s_gF rfl ?_
    refine s_gF rfl ?_
    refine s_op (o_pickT rfl rfl) ?_
    refine s_op (o_mv rfl) ?_
    refine s_gF rfl ?_
    refine s_gF rfl ?_
    refine s_gF rfl ?_
    refine s_op (o_pickT rfl rfl) ?_
    refine s_nilO ?_
    refine q_seqN ?_
    refine s_keep [0, 2, 7, 23] rfl ?_
    refine s_condT rfl ?_
    refine S_seq ?_
    refine s_rg ?_
    refine s_op (o_mv rfl) ?_
    refine s_nilO ?_
    refine q_seqN ?_
    refine s_keep [6] rfl ?_
    refine s_ret ?_
    refine q_seqR ?_
    refine ret_leaf (.inr rfl) rfl rfl ?_
    refine congrArg (fun b => V.w (.int .i64 b)) ?_
    first | (simp_all [nextA]; done) | (simp_all [nextA] <;> omega)

def bl (s b : Int) : Nat → Int → Option (List Int)
  | 0, _ => some []
  | n + 1, a => if nextA a s b < 0 then none else (bl s b n (nextA a s b)).map (a :: ·)
def burstL (a s b : Int) : List Int := (bl s b (beats b).toNat a).getD []
theorem bl_step {s b a c : Int} {n i : Nat} {pre : List Int} (h : bl s b n a = (bl s b (n - i) c).map (pre ++ ·)) (hi : i < n) (hn : ¬ nextA c s b < 0) : bl s b n a = (bl s b (n - (i + 1)) (nextA c s b)).map ((pre ++ [c]) ++ ·) := by
  rw [h]
  have e : n - i = (n - (i + 1)) + 1 := by omega
  rw [e, bl, if_neg hn]
  cases bl s b (n - (i + 1)) (nextA c s b) <;> simp
theorem bl_none {s b a c : Int} {i : Nat} {pre : List Int} (h : bl s b (beats b).toNat a = (bl s b ((beats b).toNat - i) c).map (pre ++ ·)) (hi : i < (beats b).toNat) (hn : nextA c s b < 0) : burstL a s b = [] := by
  unfold burstL
  rw [h]
  have e : (beats b).toNat - i = ((beats b).toNat - (i + 1)) + 1 := by omega
  rw [e, bl, if_pos hn]; rfl
theorem bl_end {s b a c : Int} {i : Nat} {pre : List Int} (h : bl s b (beats b).toNat a = (bl s b ((beats b).toNat - i) c).map (pre ++ ·)) (hi : (beats b).toNat ≤ i) : burstL a s b = pre := by
  unfold burstL
  rw [h, show (beats b).toNat - i = 0 by omega, bl]; simp
theorem bl_len (s b : Int) : ∀ (n : Nat) (a : Int) l, bl s b n a = some l → l.length = n
  | 0, a, l, h => by simp [bl] at h; subst h; rfl
  | n + 1, a, l, h => by
    simp only [bl] at h
    split at h
    · cases h
    · cases e : bl s b n (nextA a s b) with
      | none => rw [e] at h; cases h
      | some r => rw [e] at h; cases h; simp [bl_len s b n _ r e]
theorem burstL_len (a s b : Int) : (burstL a s b).length = 0 ∨ (burstL a s b).length = (beats b).toNat := by
  unfold burstL
  cases e : bl s b (beats b).toNat a with
  | none => exact .inl rfl
  | some l => exact .inr (bl_len s b _ _ _ e)
theorem burstL_le (a s b : Int) : (burstL a s b).length ≤ 8 := by
  have h1 := burstL_len a s b
  have h2 := beats_bd b
  omega
theorem iR_app (pre : List Int) (c : Int) : (pre ++ [c]).map iR = pre.map iR ++ [[V.w (.int .i64 c)]] := by rw [List.map_append]; rfl

theorem c_29 (a s b : Int) : CV prg 29 [.w (.int .i64 a), .w (.int .i64 s), .w (.int .i64 b)] (fun res => res = .sl 1 ((burstL a s b).map iR)) := by
  have hb := beats_bd b
  refine cv_in g29 ?_
  refine s_keep [0, 1, 2] rfl ?_
  refine S_seq ?_
  refine s_rg ?_
  refine s_op (o_mv rfl) ?_
  refine s_nilO ?_
  refine q_seqN ?_
  refine s_keep [0, 1, 2] rfl ?_
  refine S_seq ?_
  refine s_rg ?_
  refine s_op (o_bs rfl rfl rfl rfl) ?_
  refine s_op (o_mv rfl) ?_
  refine s_nilO ?_
  refine q_seqN ?_
  refine s_keep [0, 1, 2, 7] rfl ?_
  refine S_seq ?_
  refine S_seq ?_
  refine s_rg ?_
  refine s_op (o_mv rfl) ?_
  refine s_call rfl rfl (c_22 ..) ?_
  refine s_op (o_mv rfl) ?_
  refine s_nilO ?_
  refine q_seqN ?_
  refine s_keep [0, 1, 2, 7, 11, 12] rfl ?_
  refine S_block ?_
  refine S_loop (ι := (Nat × List Int × Int)) (fun p => p.1 ≤ (beats b).toNat ∧ p.2.1.length = p.1 ∧ bl s b (beats b).toNat a = (bl s b ((beats b).toNat - p.1) p.2.2).map (p.2.1 ++ ·)) (fun p => [(12, .w (.int .i64 (p.1 : Int))), (7, .ls 0 (p.2.1.map iR).length), (0, .w (.int .i64 p.2.2))]) (fun p => [.arr 1 (p.2.1.map iR)]) (fun p => (beats b).toNat - p.1) 1 (0, [], a) ⟨by simp, rfl, by simp⟩ rfl (hasOf ⟨rfl, rfl, rfl, trivial⟩ rfl) rfl (fun _ _ => rfl) (fun _ _ => ⟨rfl, rfl⟩) ?_
  rintro ⟨i, pre, c⟩ hi
  obtain ⟨hi1, hi2, hi3⟩ := hi
  simp only at hi1 hi2 hi3
  refine s_keep [0, 1, 2, 7, 11, 12] rfl ?_
  dsimp only
  refine S_seq ?_
  refine s_rg ?_
  first | refine s_op (o_lss rfl rfl) ?_ | refine s_op (o_bin rfl rfl rfl rfl) ?_
  refine s_nilO ?_
  refine q_seqN ?_
  refine s_keep [0, 1, 2, 7, 11, 12, 13] rfl ?_
  refine S_seq ?_
  first | refine s_condD rfl ?_ ?_ | refine s_condN rfl ?_ ?_ | refine s_condNB rfl ?_ ?_ | refine s_condB rfl ?_ ?_
  · intro h1
    try rw [Decidable.not_not] at h1
    refine s_skip ?_
    refine q_seqN ?_
    refine s_keep [0, 1, 2, 7, 11, 12] rfl ?_
    refine S_seq ?_
    refine S_block ?_
    refine S_seq ?_
    refine s_rg ?_
    refine s_op (o_mv rfl) ?_
    refine s_op (o_mv rfl) ?_
    refine s_op (o_mv rfl) ?_
    refine s_call rfl rfl (c_60 ..) ?_
    refine s_op (o_mv rfl) ?_
    refine s_nilO ?_
    refine q_seqN ?_
    refine s_keep [0, 1, 2, 7, 8, 11, 12] rfl ?_
    refine S_seq ?_
    refine S_seq ?_
    refine s_rg ?_
    refine s_op (o_mv rfl) ?_
    first | refine s_op (o_lss rfl rfl) ?_ | refine s_op (o_bin rfl rfl rfl rfl) ?_
    refine s_nilO ?_
    refine q_seqN ?_
    refine s_keep [0, 1, 2, 7, 8, 11, 12, 19] rfl ?_
    first | refine s_condD rfl ?_ ?_ | refine s_condN rfl ?_ ?_ | refine s_condNB rfl ?_ ?_ | refine s_condB rfl ?_ ?_
    · intro h2
      try rw [Decidable.not_not] at h2
      refine S_seq ?_
      refine s_rg ?_
      refine s_op (o_mv rfl) ?_
      refine s_nilO ?_
      refine q_seqN ?_
      refine s_keep [6] rfl ?_
      refine s_ret ?_
      refine q_seqR ?_
      refine q_blkR ?_
      refine q_seqR ?_
      refine q_loopR ?_
      refine q_blkR ?_
      refine q_seqR ?_
      first | (refine ret_leafW (.inr rfl) rfl rfl (.nil 1 _) ?_; rw [bl_none hi3 (by omega) (by assumption)]; rfl; done) | (refine ret_leafA (.inr rfl) rfl rfl rfl ?_; rw [bl_end hi3 (by omega)]; done) | (refine ret_leafA (.inr rfl) rfl rfl rfl ?_; rw [bl_none hi3 (by omega) (by omega)]; rfl; done)
    · intro h2
      try rw [Decidable.not_not] at h2
      refine s_skip ?_
      refine q_seqN ?_
      refine s_keep [0, 1, 2, 7, 8, 11, 12] rfl ?_
      refine S_seq ?_
      refine s_rg ?_
      refine s_op (o_mv rfl) ?_
      refine s_op (o_mv rfl) ?_
      refine s_op (o_bs rfl rfl rfl rfl) ?_
      first | refine s_op (o_appL rfl rfl rfl rfl rfl rfl rfl (by simp [roomy]; omega)) ?_ | refine s_op (o_app rfl rfl rfl rfl rfl (by simp [roomy]; omega)) ?_
      refine s_op (o_mv rfl) ?_
      refine s_nilO ?_
      refine q_seqN ?_
      refine s_keep [1, 2, 7, 8, 11, 12] rfl ?_
      refine s_rg ?_
      refine s_op (o_mv rfl) ?_
      refine s_op (o_mv rfl) ?_
      refine s_nilO ?_
      refine q_blkN ?_
      refine q_seqN ?_
      refine s_keep [0, 1, 2, 7, 11, 12] rfl ?_
      refine s_rg ?_
      first | refine s_op (o_addn rfl rfl (by omega)) ?_ | refine s_op (o_add rfl rfl) ?_
      refine s_op (o_mv rfl) ?_
      refine s_nilO ?_
      refine q_loopN ?_
      refine ⟨(i + 1, pre ++ [c], nextA c s b), ⟨by simp only; omega, by simp only [List.length_append, List.length_cons, List.length_nil]; omega, bl_step hi3 (by omega) (by assumption)⟩, by simp only; omega, hasOf ⟨rfl, ?_, rfl, trivial⟩ ?_⟩
      · rw [iR_app]; rfl
      · simp only; rw [iR_app]; rfl
  · intro h1
    try rw [Decidable.not_not] at h1
    refine s_exit ?_
    refine q_seqX ?_
    refine q_loopX ?_
    refine q_blkH ?_
    refine q_seqN ?_
    refine s_keep [7] rfl ?_
    refine S_seq ?_
    refine s_rg ?_
    refine s_op (o_mv rfl) ?_
    refine s_op (o_mv rfl) ?_
    refine s_nilO ?_
    refine q_seqN ?_
    refine s_keep [6] rfl ?_
    refine s_ret ?_
    first | (refine ret_leafW (.inr rfl) rfl rfl (.nil 1 _) ?_; rw [bl_none hi3 (by omega) (by assumption)]; rfl; done) | (refine ret_leafA (.inr rfl) rfl rfl rfl ?_; rw [bl_end hi3 (by omega)]; done) | (refine ret_leafA (.inr rfl) rfl rfl rfl ?_; rw [bl_none hi3 (by omega) (by omega)]; rfl; done)

theorem c_179 (a s b : Int) : CV prg 179 [.w (.int .i64 a), .w (.int .i64 s), .w (.int .i64 b)] (fun res => res = .sl 1 ((burstL a s b).map iR)) := by
  have hb := beats_bd b
  refine cv_in g179 ?_
  refine s_keep [0, 1, 2] rfl ?_
  refine S_seq ?_
  refine s_rg ?_
  refine s_op (o_mv rfl) ?_
  refine s_nilO ?_
  refine q_seqN ?_
  refine s_keep [0, 1, 2] rfl ?_
  refine S_seq ?_
  refine s_rg ?_
  refine s_op (o_bs rfl rfl rfl rfl) ?_
  refine s_op (o_mv rfl) ?_
  refine s_nilO ?_
  refine q_seqN ?_
  refine s_keep [0, 1, 2, 7] rfl ?_
  refine S_seq ?_
  refine S_block ?_
  refine S_loop (ι := (List Int × Int)) (fun p => p.1.length ≤ (beats b).toNat ∧ bl s b (beats b).toNat a = (bl s b ((beats b).toNat - p.1.length) p.2).map (p.1 ++ ·)) (fun p => [(7, .ls 0 (p.1.map iR).length), (0, .w (.int .i64 p.2))]) (fun p => [.arr 1 (p.1.map iR)]) (fun p => (beats b).toNat - p.1.length) 1 ([], a) ⟨by simp, by simp⟩ rfl (hasOf ⟨rfl, rfl, trivial⟩ rfl) rfl (fun _ _ => rfl) (fun _ _ => ⟨rfl, rfl⟩) ?_
  rintro ⟨pre, c⟩ hi
  obtain ⟨hi1, hi3⟩ := hi
  simp only at hi1 hi3
  have hml : (pre.map iR).length = pre.length := List.length_map ..
  refine s_keep [0, 1, 2, 7] rfl ?_
  dsimp only
  refine S_seq ?_
  refine S_seq ?_
  refine s_rg ?_
  refine s_op (o_mv rfl) ?_
  refine s_op (o_lenL rfl rfl rfl) ?_
  refine s_op (o_mv rfl) ?_
  refine s_call rfl rfl (c_173 ..) ?_
  first | refine s_op (o_lss rfl rfl) ?_ | refine s_op (o_bin rfl rfl rfl rfl) ?_
  refine s_op (o_mv rfl) ?_
  first | refine s_gDT rfl ?_ ?_ | refine s_gNDT rfl ?_ ?_ | refine s_gNT rfl ?_ ?_ | refine s_gB rfl ?_ ?_
  · intro h1
    try rw [Decidable.not_not] at h1
    refine s_op (o_mv rfl) ?_
    refine s_gT rfl ?_
    refine s_op (o_mv rfl) ?_
    refine s_gT rfl ?_
    refine s_op (o_mv rfl) ?_
    refine s_gT rfl ?_
    refine s_call rfl rfl (c_205 ..) ?_
    refine s_gT rfl ?_
    first | refine s_op (o_geq rfl rfl) ?_ | refine s_op (o_bin rfl rfl rfl rfl) ?_
    refine s_op (o_pickT rfl rfl) ?_
    refine s_nilO ?_
    refine q_seqN ?_
    refine s_keep [0, 1, 2, 7, 15, 16, 17, 18, 19, 20] rfl ?_
    first | refine s_condD rfl ?_ ?_ | refine s_condN rfl ?_ ?_ | refine s_condNB rfl ?_ ?_ | refine s_condB rfl ?_ ?_
    · intro h2
      try rw [Decidable.not_not] at h2
      refine s_skip ?_
      refine q_seqN ?_
      refine s_keep [0, 1, 2, 7, 15, 16, 17, 18, 19] rfl ?_
      refine S_block ?_
      refine S_seq ?_
      refine s_rg ?_
      refine s_op (o_mv rfl) ?_
      refine s_op (o_mv rfl) ?_
      refine s_op (o_bs rfl rfl rfl rfl) ?_
      first | refine s_op (o_appL rfl rfl rfl rfl rfl rfl rfl (by simp [roomy]; omega)) ?_ | refine s_op (o_app rfl rfl rfl rfl rfl (by simp [roomy]; omega)) ?_
      refine s_op (o_mv rfl) ?_
      refine s_nilO ?_
      refine q_seqN ?_
      refine s_keep [0, 1, 2, 7, 15, 16, 17, 18, 19] rfl ?_
      refine s_rg ?_
      refine s_op (o_mv rfl) ?_
      refine s_op (o_mv rfl) ?_
      refine s_op (o_mv rfl) ?_
      refine s_call rfl rfl (c_205 ..) ?_
      refine s_op (o_mv rfl) ?_
      refine s_nilO ?_
      refine q_blkN ?_
      refine q_loopN ?_
      refine ⟨(pre ++ [c], nextA c s b), ⟨by simp only [List.length_append, List.length_cons, List.length_nil]; omega, by simp only [List.length_append, List.length_cons, List.length_nil]; exact bl_step hi3 (by omega) (by omega)⟩, by simp only [List.length_append, List.length_cons, List.length_nil]; omega, hasOf ⟨?_, rfl, trivial⟩ ?_⟩
      · rw [iR_app]; rfl
      · simp only; rw [iR_app]; rfl
    · intro h2
      try rw [Decidable.not_not] at h2
      refine s_exit ?_
      refine q_seqX ?_
      refine q_loopX ?_
      refine q_blkH ?_
      refine q_seqN ?_
      refine s_keep [2, 7] rfl ?_
      refine S_seq ?_
      refine S_seq ?_
      refine s_rg ?_
      refine s_op (o_mv rfl) ?_
      refine s_op (o_lenL rfl rfl rfl) ?_
      refine s_op (o_mv rfl) ?_
      refine s_call rfl rfl (c_173 ..) ?_
      first | refine s_op (o_lss rfl rfl) ?_ | refine s_op (o_bin rfl rfl rfl rfl) ?_
      refine s_nilO ?_
      refine q_seqN ?_
      refine s_keep [7, 33] rfl ?_
      first | refine s_condD rfl ?_ ?_ | refine s_condN rfl ?_ ?_ | refine s_condNB rfl ?_ ?_ | refine s_condB rfl ?_ ?_
      · intro h3
        try rw [Decidable.not_not] at h3
        refine S_seq ?_
        refine s_rg ?_
        refine s_op (o_bs rfl rfl rfl rfl) ?_
        refine s_op (o_mv rfl) ?_
        refine s_nilO ?_
        refine q_seqN ?_
        refine s_keep [6] rfl ?_
        refine s_ret ?_
        refine q_seqR ?_
        first | (refine ret_leafW (.inr rfl) rfl rfl (.nil 1 _) ?_; rw [bl_none hi3 (by omega) (by assumption)]; rfl; done) | (refine ret_leafA (.inr rfl) rfl rfl rfl ?_; rw [bl_end hi3 (by omega)]; done) | (refine ret_leafA (.inr rfl) rfl rfl rfl ?_; rw [bl_none hi3 (by omega) (by omega)]; rfl; done)
      · intro h3
        try rw [Decidable.not_not] at h3
        refine s_skip ?_
        refine q_seqN ?_
        refine s_keep [7] rfl ?_
        refine S_seq ?_
        refine s_rg ?_
        refine s_op (o_mv rfl) ?_
        refine s_op (o_mv rfl) ?_
        refine s_nilO ?_
        refine q_seqN ?_
        refine s_keep [6] rfl ?_
        refine s_ret ?_
        first | (refine ret_leafW (.inr rfl) rfl rfl (.nil 1 _) ?_; rw [bl_none hi3 (by omega) (by assumption)]; rfl; done) | (refine ret_leafA (.inr rfl) rfl rfl rfl ?_; rw [bl_end hi3 (by omega)]; done) | (refine ret_leafA (.inr rfl) rfl rfl rfl ?_; rw [bl_none hi3 (by omega) (by omega)]; rfl; done)
  · intro h1
    try rw [Decidable.not_not] at h1
    refine s_gF rfl ?_
    refine s_gF rfl ?_
    refine s_gF rfl ?_
    refine s_gF rfl ?_
    refine s_gF rfl ?_
    refine s_op (o_pickF rfl rfl) ?_
    refine s_nilO ?_
    refine q_seqN ?_
    refine s_keep [0, 1, 2, 7, 15, 16, 17, 18, 19, 20] rfl ?_
    refine s_condF rfl ?_
    refine s_exit ?_
    refine q_seqX ?_
    refine q_loopX ?_
    refine q_blkH ?_
    refine q_seqN ?_
    refine s_keep [2, 7] rfl ?_
    refine S_seq ?_
    refine S_seq ?_
    refine s_rg ?_
    refine s_op (o_mv rfl) ?_
    refine s_op (o_lenL rfl rfl rfl) ?_
    refine s_op (o_mv rfl) ?_
    refine s_call rfl rfl (c_173 ..) ?_
    first | refine s_op (o_lss rfl rfl) ?_ | refine s_op (o_bin rfl rfl rfl rfl) ?_
    refine s_nilO ?_
    refine q_seqN ?_
    refine s_keep [7, 33] rfl ?_
    first | refine s_condD rfl ?_ ?_ | refine s_condN rfl ?_ ?_ | refine s_condNB rfl ?_ ?_ | refine s_condB rfl ?_ ?_
    · intro h4
      try rw [Decidable.not_not] at h4
      refine S_seq ?_
      refine s_rg ?_
      refine s_op (o_bs rfl rfl rfl rfl) ?_
      refine s_op (o_mv rfl) ?_
      refine s_nilO ?_
      refine q_seqN ?_
      refine s_keep [6] rfl ?_
      refine s_ret ?_
      refine q_seqR ?_
      first | (refine ret_leafW (.inr rfl) rfl rfl (.nil 1 _) ?_; rw [bl_none hi3 (by omega) (by assumption)]; rfl; done) | (refine ret_leafA (.inr rfl) rfl rfl rfl ?_; rw [bl_end hi3 (by omega)]; done) | (refine ret_leafA (.inr rfl) rfl rfl rfl ?_; rw [bl_none hi3 (by omega) (by omega)]; rfl; done)
    · intro h4
      try rw [Decidable.not_not] at h4
      refine s_skip ?_
      refine q_seqN ?_
      refine s_keep [7] rfl ?_
      refine S_seq ?_
      refine s_rg ?_
      refine s_op (o_mv rfl) ?_
      refine s_op (o_mv rfl) ?_
      refine s_nilO ?_
      refine q_seqN ?_
      refine s_keep [6] rfl ?_
      refine s_ret ?_
      first | (refine ret_leafW (.inr rfl) rfl rfl (.nil 1 _) ?_; rw [bl_none hi3 (by omega) (by assumption)]; rfl; done) | (refine ret_leafA (.inr rfl) rfl rfl rfl ?_; rw [bl_end hi3 (by omega)]; done) | (refine ret_leafA (.inr rfl) rfl rfl rfl ?_; rw [bl_none hi3 (by omega) (by omega)]; rfl; done)

def onPage (l : List Int) (x : Int) : Bool := decide (IntKind.wrap .i64 (x.tdiv 64) = IntKind.wrap .i64 (((l[0]?).getD 0).tdiv 64))
theorem page_no {l : List Int} {x y : Int} (h0 : l[0]? = some y) (h : ¬ IntKind.wrap .i64 (x.tdiv 64) = IntKind.wrap .i64 (y.tdiv 64)) : onPage l x = false := by unfold onPage; rw [h0]; exact decide_eq_false h
theorem page_is {l : List Int} {x y : Int} (h0 : l[0]? = some y) (h : IntKind.wrap .i64 (x.tdiv 64) = IntKind.wrap .i64 (y.tdiv 64)) : onPage l x = true := by unfold onPage; rw [h0]; exact decide_eq_true h
def burstOk (a s b : Int) : Bool := (burstL a s b).all (onPage (burstL a s b)) && decide (0 < (burstL a s b).length)

theorem c_30 (a s b : Int) : CV prg 30 [.w (.int .i64 a), .w (.int .i64 s), .w (.int .i64 b)] (fun res => res = .w (.bool (burstOk a s b))) := by
  have hlen := burstL_le a s b
  refine cv_in g30 ?_
  refine s_keep [0, 1, 2] rfl ?_
  refine S_seq ?_
  refine s_rg ?_
  refine s_op (o_mv rfl) ?_
  refine s_nilO ?_
  refine q_seqN ?_
  refine s_keep [0, 1, 2] rfl ?_
  refine S_seq ?_
  refine s_rg ?_
  refine s_op (o_mv rfl) ?_
  refine s_op (o_mv rfl) ?_
  refine s_op (o_mv rfl) ?_
  refine s_call rfl rfl (c_29 ..) ?_
  refine s_op (o_mv rfl) ?_
  refine s_nilO ?_
  refine q_seqN ?_
  refine s_keep [7] rfl ?_
  refine S_seq ?_
  refine S_seq ?_
  refine s_rg ?_
  refine s_op (o_mv rfl) ?_
  first | refine s_op (o_lenM rfl) ?_ | refine s_op (o_len rfl) ?_ | refine s_op (o_lenL rfl rfl rfl) ?_ | refine s_op (o_lenN rfl) ?_
  refine s_op (o_mv rfl) ?_
  refine s_nilO ?_
  refine q_seqN ?_
  refine s_keep [7, 14, 15, 16] rfl ?_
  refine S_block ?_
  refine S_loop0 (ι := Nat) (fun i => i ≤ (burstL a s b).length ∧ ((burstL a s b).take i).all (onPage (burstL a s b)) = true) (fun i => [(16, .w (.int .i64 (i : Int)))]) (fun i => (burstL a s b).length - i) 0 (by simp) rfl ⟨rfl, trivial⟩ (fun _ _ => rfl) rfl ?_
  intro i hi
  refine s_keep [7, 14, 15, 16] rfl ?_
  refine S_seq ?_
  refine s_rg ?_
  first | refine s_op (o_lss rfl rfl) ?_ | refine s_op (o_bin rfl rfl rfl rfl) ?_
  refine s_nilO ?_
  refine q_seqN ?_
  refine s_keep [7, 14, 15, 16, 17] rfl ?_
  refine S_seq ?_
  first | refine s_condD rfl ?_ ?_ | refine s_condN rfl ?_ ?_ | refine s_condNB rfl ?_ ?_ | refine s_condB rfl ?_ ?_
  · intro h1
    try rw [Decidable.not_not] at h1
    refine s_skip ?_
    refine q_seqN ?_
    refine s_keep [7, 14, 15, 16] rfl ?_
    refine S_seq ?_
    refine S_block ?_
    refine S_seq ?_
    refine s_rg ?_
    refine s_iaM rfl rfl (by omega) ?_
    intro y2 e2
    try simp only [Int.toNat_natCast, Int.toNat_zero] at e2
    refine s_op (o_ld rfl rfl) ?_
    refine s_op (o_mv rfl) ?_
    refine s_nilO ?_
    refine q_seqN ?_
    refine s_keep [7, 9, 14, 15, 16] rfl ?_
    refine S_seq ?_
    refine s_rg ?_
    refine s_op (o_mv rfl) ?_
    first | refine s_op (o_quo rfl rfl (by decide)) ?_ | refine s_op (o_quo rfl rfl (by omega)) ?_
    refine s_op (o_mv rfl) ?_
    refine s_iaM rfl rfl (by omega) ?_
    intro y3 e3
    try simp only [Int.toNat_natCast, Int.toNat_zero] at e3
    refine s_op (o_ld rfl rfl) ?_
    first | refine s_op (o_quo rfl rfl (by decide)) ?_ | refine s_op (o_quo rfl rfl (by omega)) ?_
    first | refine s_op (o_neq rfl rfl) ?_ | refine s_op (o_bin rfl rfl rfl rfl) ?_
    refine s_nilO ?_
    refine q_seqN ?_
    refine s_keep [7, 14, 15, 16, 26] rfl ?_
    first | refine s_condD rfl ?_ ?_ | refine s_condN rfl ?_ ?_ | refine s_condNB rfl ?_ ?_ | refine s_condB rfl ?_ ?_
    · intro h4
      try rw [Decidable.not_not] at h4
      refine S_seq ?_
      refine s_rg ?_
      refine s_op (o_mv rfl) ?_
      refine s_nilO ?_
      refine q_seqN ?_
      refine s_keep [6] rfl ?_
      refine s_ret ?_
      refine q_blkR ?_
      refine q_seqR ?_
      refine q_loopR ?_
      refine q_blkR ?_
      refine q_seqR ?_
      refine ret_leaf (.inr rfl) rfl rfl ?_
      refine congrArg (fun b => V.w (.bool b)) ?_
      first | (unfold burstOk; rw [all_no (by assumption : (burstL a s b)[i]? = some _) (page_no (by assumption : (burstL a s b)[0]? = some _) (by assumption))]; rfl; done) | (unfold burstOk; rw [all_end hi.2 (by omega)]; simp; done)
    · intro h4
      try rw [Decidable.not_not] at h4
      refine s_skip ?_
      refine q_blkN ?_
      refine q_seqN ?_
      refine s_keep [7, 14, 15, 16] rfl ?_
      refine s_rg ?_
      first | refine s_op (o_addn rfl rfl (by omega)) ?_ | refine s_op (o_add rfl rfl) ?_
      refine s_op (o_mv rfl) ?_
      refine s_nilO ?_
      refine q_loopN ?_
      exact ⟨i + 1, ⟨by omega, all_take (by assumption : (burstL a s b)[i]? = some _) hi.2 (page_is (by assumption : (burstL a s b)[0]? = some _) (by assumption))⟩, by omega, hasOf ⟨rfl, trivial⟩ rfl⟩
  · intro h1
    try rw [Decidable.not_not] at h1
    refine s_exit ?_
    refine q_seqX ?_
    refine q_loopX ?_
    refine q_blkH ?_
    refine q_seqN ?_
    refine s_keep [7] rfl ?_
    refine S_seq ?_
    refine s_rg ?_
    refine s_op (o_mv rfl) ?_
    first | refine s_op (o_lenM rfl) ?_ | refine s_op (o_len rfl) ?_ | refine s_op (o_lenL rfl rfl rfl) ?_ | refine s_op (o_lenN rfl) ?_
    first | refine s_op (o_gtr rfl rfl) ?_ | refine s_op (o_bin rfl rfl rfl rfl) ?_
    refine s_op (o_mv rfl) ?_
    refine s_nilO ?_
    refine q_seqN ?_
    refine s_keep [6] rfl ?_
    refine s_ret ?_
    refine ret_leaf (.inr rfl) rfl rfl ?_
    refine congrArg (fun b => V.w (.bool b)) ?_
    first | (unfold burstOk; rw [all_no (by assumption : (burstL a s b)[i]? = some _) (page_no (by assumption : (burstL a s b)[0]? = some _) (by assumption))]; rfl; done) | (unfold burstOk; rw [all_end hi.2 (by omega)]; simp; done)

theorem c_180 (a s b : Int) : CV prg 180 [.w (.int .i64 a), .w (.int .i64 s), .w (.int .i64 b)] (fun res => res = .w (.bool (burstOk a s b))) := by
  have hlen := burstL_le a s b
  refine cv_in g180 ?_
  refine s_keep [0, 1, 2] rfl ?_
  refine S_seq ?_
  refine s_rg ?_
  refine s_op (o_mv rfl) ?_
  refine s_nilO ?_
  refine q_seqN ?_
  refine s_keep [0, 1, 2] rfl ?_
  refine S_seq ?_
  refine s_rg ?_
  refine s_op (o_mv rfl) ?_
  refine s_op (o_mv rfl) ?_
  refine s_op (o_mv rfl) ?_
  refine s_call rfl rfl (c_179 ..) ?_
  refine s_op (o_mv rfl) ?_
  refine s_nilO ?_
  refine q_seqN ?_
  refine s_keep [7] rfl ?_
  refine S_seq ?_
  refine S_seq ?_
  refine s_rg ?_
  refine s_op (o_mv rfl) ?_
  refine s_nilO ?_
  refine q_seqN ?_
  refine s_keep [7, 8] rfl ?_
  refine S_block ?_
  refine S_loop0 (ι := Nat) (fun i => i ≤ (burstL a s b).length ∧ ((burstL a s b).take i).all (onPage (burstL a s b)) = true) (fun i => [(8, .w (.int .i64 (i : Int)))]) (fun i => (burstL a s b).length - i) 0 (by simp) rfl ⟨rfl, trivial⟩ (fun _ _ => rfl) rfl ?_
  intro i hi
  refine s_keep [7, 8] rfl ?_
  refine S_seq ?_
  refine S_seq ?_
  refine s_rg ?_
  refine s_op (o_mv rfl) ?_
  refine s_op (o_mv rfl) ?_
  first | refine s_op (o_lenM rfl) ?_ | refine s_op (o_len rfl) ?_ | refine s_op (o_lenL rfl rfl rfl) ?_ | refine s_op (o_lenN rfl) ?_
  first | refine s_op (o_lss rfl rfl) ?_ | refine s_op (o_bin rfl rfl rfl rfl) ?_
  refine s_nilO ?_
  refine q_seqN ?_
  refine s_keep [7, 8, 16] rfl ?_
  first | refine s_condD rfl ?_ ?_ | refine s_condN rfl ?_ ?_ | refine s_condNB rfl ?_ ?_ | refine s_condB rfl ?_ ?_
  · intro h1
    try rw [Decidable.not_not] at h1
    refine s_skip ?_
    refine q_seqN ?_
    refine s_keep [7, 8] rfl ?_
    refine S_seq ?_
    refine S_block ?_
    refine S_seq ?_
    refine s_rg ?_
    refine s_op (o_mv rfl) ?_
    refine s_op (o_mv rfl) ?_
    refine s_iaM rfl rfl (by omega) ?_
    intro y2 e2
    try simp only [Int.toNat_natCast, Int.toNat_zero] at e2
    refine s_op (o_ld rfl rfl) ?_
    first | refine s_op (o_quo rfl rfl (by decide)) ?_ | refine s_op (o_quo rfl rfl (by omega)) ?_
    refine s_op (o_mv rfl) ?_
    refine s_iaM rfl rfl (by omega) ?_
    intro y3 e3
    try simp only [Int.toNat_natCast, Int.toNat_zero] at e3
    refine s_op (o_ld rfl rfl) ?_
    first | refine s_op (o_quo rfl rfl (by decide)) ?_ | refine s_op (o_quo rfl rfl (by omega)) ?_
    first | refine s_op (o_neq rfl rfl) ?_ | refine s_op (o_bin rfl rfl rfl rfl) ?_
    refine s_nilO ?_
    refine q_seqN ?_
    refine s_keep [7, 8, 28] rfl ?_
    first | refine s_condD rfl ?_ ?_ | refine s_condN rfl ?_ ?_ | refine s_condNB rfl ?_ ?_ | refine s_condB rfl ?_ ?_
    · intro h4
      try rw [Decidable.not_not] at h4
      refine S_seq ?_
      refine s_rg ?_
      refine s_op (o_mv rfl) ?_
      refine s_nilO ?_
      refine q_seqN ?_
      refine s_keep [6] rfl ?_
      refine s_ret ?_
      refine q_blkR ?_
      refine q_seqR ?_
      refine q_loopR ?_
      refine q_blkR ?_
      refine q_seqR ?_
      refine ret_leaf (.inr rfl) rfl rfl ?_
      refine congrArg (fun b => V.w (.bool b)) ?_
      first | (unfold burstOk; rw [all_no (by assumption : (burstL a s b)[i]? = some _) (page_no (by assumption : (burstL a s b)[0]? = some _) (by assumption))]; rfl; done) | (unfold burstOk; rw [all_end hi.2 (by omega)]; simp; done)
    · intro h4
      try rw [Decidable.not_not] at h4
      refine s_skip ?_
      refine q_blkN ?_
      refine q_seqN ?_
      refine s_keep [7, 8] rfl ?_
      refine s_rg ?_
      refine s_op (o_mv rfl) ?_
      first | refine s_op (o_addn rfl rfl (by omega)) ?_ | refine s_op (o_add rfl rfl) ?_
      refine s_op (o_mv rfl) ?_
      refine s_nilO ?_
      refine q_loopN ?_
      exact ⟨i + 1, ⟨by omega, all_take (by assumption : (burstL a s b)[i]? = some _) hi.2 (page_is (by assumption : (burstL a s b)[0]? = some _) (by assumption))⟩, by omega, hasOf ⟨rfl, trivial⟩ rfl⟩
  · intro h1
    try rw [Decidable.not_not] at h1
    refine s_exit ?_
    refine q_seqX ?_
    refine q_loopX ?_
    refine q_blkH ?_
    refine q_seqN ?_
    refine s_keep [7] rfl ?_
    refine S_seq ?_
    refine s_rg ?_
    refine s_op (o_mv rfl) ?_
    first | refine s_op (o_lenM rfl) ?_ | refine s_op (o_len rfl) ?_ | refine s_op (o_lenL rfl rfl rfl) ?_ | refine s_op (o_lenN rfl) ?_
    first | refine s_op (o_gtr rfl rfl) ?_ | refine s_op (o_bin rfl rfl rfl rfl) ?_
    refine s_op (o_mv rfl) ?_
    refine s_nilO ?_
    refine q_seqN ?_
    refine s_keep [6] rfl ?_
    refine s_ret ?_
    refine ret_leaf (.inr rfl) rfl rfl ?_
    refine congrArg (fun b => V.w (.bool b)) ?_
    first | (unfold burstOk; rw [all_no (by assumption : (burstL a s b)[i]? = some _) (page_no (by assumption : (burstL a s b)[0]? = some _) (by assumption))]; rfl; done) | (unfold burstOk; rw [all_end hi.2 (by omega)]; simp; done)

theorem c_266 (xs : List Int) (hl : xs.length ≤ 140737488355328) (f : Nat) (caps : List V) (hc : caps.all (V.fzV 5) = true) (p : Int → Bool) (h : ∀ y, y ∈ xs → CV prg f (.w (.int .i64 y) :: caps) (fun v => v = .w (.bool (p y)))) : CV prg 266 [.sl 1 (xs.map iR), .fn f caps] (fun res => res = .w (.int .i64 (idxOf p xs))) := by
  refine cv_in g266 ?_
  refine s_keep [0, 1] rfl ?_
  refine S_seq ?_
  refine s_rg ?_
  refine s_op (o_mv rfl) ?_
  refine s_nilO ?_
  refine q_seqN ?_
  refine s_keep [0, 1] rfl ?_
  refine S_seq ?_
  refine S_seq ?_
  refine s_rg ?_
  refine s_op (o_mv rfl) ?_
  first | refine s_op (o_lenM rfl) ?_ | refine s_op (o_len rfl) ?_
  refine s_op (o_mv rfl) ?_
  refine s_nilO ?_
  refine q_seqN ?_
  refine s_keep [0, 1, 7, 8] rfl ?_
  refine S_block ?_
  refine S_loop0 (ι := Nat) (fun i => i ≤ xs.length ∧ (xs.take i).any p = false) (fun i => [(8, .w (.int .i64 (i : Int)))]) (fun i => xs.length - i) 0 (by simp) rfl ⟨rfl, trivial⟩ (fun _ _ => rfl) rfl ?_
  intro i hi
  refine s_keep [0, 1, 7, 8] rfl ?_
  refine S_seq ?_
  refine s_rg ?_
  first | refine s_op (o_lss rfl rfl) ?_ | refine s_op (o_bin rfl rfl rfl rfl) ?_
  refine s_nilO ?_
  refine q_seqN ?_
  refine s_keep [0, 1, 7, 8, 9] rfl ?_
  refine S_seq ?_
  first | refine s_condD rfl ?_ ?_ | refine s_condN rfl ?_ ?_ | refine s_condNB rfl ?_ ?_ | refine s_condB rfl ?_ ?_
  · intro h1
    try rw [Decidable.not_not] at h1
    refine s_skip ?_
    refine q_seqN ?_
    refine s_keep [0, 1, 7, 8] rfl ?_
    refine S_seq ?_
    refine S_block ?_
    refine S_seq ?_
    refine s_rg ?_
    refine s_op (o_mv rfl) ?_
    refine s_op (o_mv rfl) ?_
    refine s_nilO ?_
    refine q_seqN ?_
    refine s_keep [0, 1, 5, 7, 8] rfl ?_
    refine S_seq ?_
    refine s_rg ?_
    refine s_op (o_mv rfl) ?_
    refine s_op (o_mv rfl) ?_
    refine s_op (o_mv rfl) ?_
    refine s_iaM rfl rfl (by simp at *; omega) ?_
    intro y2 e2
    try simp only [Int.toNat_natCast, Int.toNat_zero] at e2
    refine s_op (o_ld rfl rfl) ?_
    refine s_calli rfl rfl (fz1 rfl hc) (h _ (List.mem_of_getElem? (by assumption))) ?_
    refine s_nilO ?_
    refine q_seqN ?_
    refine s_keep [0, 1, 5, 7, 8, 16] rfl ?_
    first | refine s_condD rfl ?_ ?_ | refine s_condN rfl ?_ ?_ | refine s_condNB rfl ?_ ?_ | refine s_condB rfl ?_ ?_
    · intro h3
      try rw [Decidable.not_not] at h3
      refine S_seq ?_
      refine s_rg ?_
      refine s_op (o_mv rfl) ?_
      refine s_op (o_mv rfl) ?_
      refine s_nilO ?_
      refine q_seqN ?_
      refine s_keep [4] rfl ?_
      refine s_ret ?_
      refine q_blkR ?_
      refine q_seqR ?_
      refine q_loopR ?_
      refine q_blkR ?_
      refine q_seqR ?_
      refine ret_leaf (.inr rfl) rfl rfl ?_
      refine congrArg (fun b => V.w (.int .i64 b)) ?_
      first | exact (idxOf_at (by assumption) hi.2 (by assumption)).symm | exact (idxOf_no (any_end hi.2 (by omega))).symm
    · intro h3
      try rw [Decidable.not_not] at h3
      refine s_skip ?_
      refine q_blkN ?_
      refine q_seqN ?_
      refine s_keep [0, 1, 7, 8] rfl ?_
      refine s_rg ?_
      first | refine s_op (o_addn rfl rfl (by omega)) ?_ | refine s_op (o_add rfl rfl) ?_
      refine s_op (o_mv rfl) ?_
      refine s_nilO ?_
      refine q_loopN ?_
      exact ⟨i + 1, ⟨by omega, any_take (by assumption) hi.2 (by assumption)⟩, by omega, hasOf ⟨rfl, trivial⟩ rfl⟩
  · intro h1
    try rw [Decidable.not_not] at h1
    refine s_exit ?_
    refine q_seqX ?_
    refine q_loopX ?_
    refine q_blkH ?_
    refine q_seqN ?_
    refine s_keep [] rfl ?_
    refine S_seq ?_
    refine s_rg ?_
    refine s_op (o_mv rfl) ?_
    refine s_nilO ?_
    refine q_seqN ?_
    refine s_keep [4] rfl ?_
    refine s_ret ?_
    refine ret_leaf (.inr rfl) rfl rfl ?_
    refine congrArg (fun b => V.w (.int .i64 b)) ?_
    first | exact (idxOf_at (by assumption) hi.2 (by assumption)).symm | exact (idxOf_no (any_end hi.2 (by omega))).symm

theorem c_257 (xs : List Int) (hl : xs.length ≤ 140737488355328) (f : Nat) (caps : List V) (hc : caps.all (V.fzV 5) = true) (p : Int → Bool) (h : ∀ y, y ∈ xs → CV prg f (.w (.int .i64 y) :: caps) (fun v => v = .w (.bool (p y)))) : CV prg 257 [.sl 1 (xs.map iR), .fn f caps] (fun res => res = .w (.bool (xs.any p))) := by
  refine cv_in g257 ?_
  refine s_keep [0, 1] rfl ?_
  refine S_seq ?_
  refine s_rg ?_
  refine s_op (o_mv rfl) ?_
  refine s_nilO ?_
  refine q_seqN ?_
  refine s_keep [0, 1] rfl ?_
  refine S_seq ?_
  refine s_rg ?_
  refine s_op (o_mv rfl) ?_
  refine s_op (o_mv rfl) ?_
  refine s_call rfl (fz2 rfl hc) (c_266 _ (by assumption) _ _ hc _ h) ?_
  first | refine s_op (o_geq rfl rfl) ?_ | refine s_op (o_bin rfl rfl rfl rfl) ?_
  refine s_op (o_mv rfl) ?_
  refine s_nilO ?_
  refine q_seqN ?_
  refine s_keep [4] rfl ?_
  refine s_ret ?_
  refine ret_leaf (.inr rfl) rfl rfl ?_
  refine congrArg (fun b => V.w (.bool b)) ?_
  exact idxOf_any p xs

def Req.ok (x : Req) : Bool := burstOk x.addr x.size x.burst && decide ((x.data.length : Int) = if x.write then beats x.burst else 0) && x.data.all fun v => inB v 0 (limit x.size - 1)
theorem data_not (l : Int) (xs : List Int) : (!xs.any (fun v => !inB v 0 l)) = xs.all (fun v => inB v 0 l) := by
  induction xs with
  | nil => rfl
  | cons m xs ih => simp only [List.any_cons, List.all_cons, Bool.not_or, Bool.not_not, ih]
theorem Req.ok_len {x : Req} (h : x.ok = true) : x.data.length ≤ 8 := by
  simp only [Req.ok, Bool.and_eq_true, decide_eq_true_eq] at h
  have := beats_bd x.burst
  have h2 := h.1.2
  split at h2 <;> omega

theorem c_67 (d : Int) (x : Req) : CV prg 67 [.w (.int .i64 d), .rp x.r 0] (fun res => res = .w (.bool (!inB d 0 (limit x.size - 1)))) := by
  refine cv_in g67 ?_
  refine s_keep [0, 1] rfl ?_
  refine S_seq ?_
  refine s_rg ?_
  refine s_op (o_mv rfl) ?_
  refine s_nilO ?_
  refine q_seqN ?_
  refine s_keep [0, 1] rfl ?_
  refine S_seq ?_
  refine s_rg ?_
  refine s_op (o_mv rfl) ?_
  refine s_op (o_fa rfl) ?_
  refine s_op (o_ld rfl rfl) ?_
  first | refine s_call rfl rfl (c_92 ..) ?_ | refine s_callL rfl rfl (by simp) (c_92 ..) rfl ?_
  refine s_op (o_not rfl) ?_
  refine s_op (o_mv rfl) ?_
  refine s_nilO ?_
  refine q_seqN ?_
  refine s_keep [3] rfl ?_
  refine s_ret ?_
  refine ret_leaf (.inr rfl) rfl rfl ?_
  refine congrArg (fun b => V.w (.bool b)) ?_
  rfl

theorem c_66 (x : Req) (hs : x.small) : CV prg 66 [.agg x.r] (fun res => res = .w (.bool x.ok)) := by
  have hd : x.data.length ≤ 1048576 := hs
  refine cv_in g66 ?_
  refine s_keep [0] rfl ?_
  refine S_seq ?_
  refine s_rg ?_
  refine s_op (o_box rfl rfl rfl) ?_
  refine s_op (o_mv rfl) ?_
  refine s_nilO ?_
  refine q_seqN ?_
  refine s_keep [1] rfl ?_
  refine S_seq ?_
  refine s_rg ?_
  refine s_op (o_mv rfl) ?_
  refine s_nilO ?_
  refine q_seqN ?_
  refine s_keep [1, 3] rfl ?_
  refine S_seq ?_
  refine S_seq ?_
  refine s_rg ?_
  refine s_op (o_faC rfl) ?_
  refine s_op (o_ldC rfl rfl rfl) ?_
  refine s_nilO ?_
  refine q_seqN ?_
  refine s_keep [1, 3, 5] rfl ?_
  first | refine s_condD rfl ?_ ?_ | refine s_condN rfl ?_ ?_ | refine s_condNB rfl ?_ ?_ | refine s_condB rfl ?_ ?_
  · intro h1
    try rw [Decidable.not_not] at h1
    refine s_rg ?_
    refine s_op (o_faC rfl) ?_
    refine s_op (o_ldC rfl rfl rfl) ?_
    first | refine s_call rfl rfl (c_22 ..) ?_ | refine s_callL rfl rfl (by simp) (c_22 ..) rfl ?_
    refine s_op (o_mv rfl) ?_
    refine s_nilO ?_
    refine q_seqN ?_
    refine s_keep [1, 3] rfl ?_
    refine S_seq ?_
    refine s_rg ?_
    refine s_op (o_faC rfl) ?_
    refine s_op (o_ldC rfl rfl rfl) ?_
    refine s_op (o_faC rfl) ?_
    refine s_op (o_ldC rfl rfl rfl) ?_
    refine s_op (o_faC rfl) ?_
    refine s_op (o_ldC rfl rfl rfl) ?_
    first | refine s_call rfl rfl (c_30 ..) ?_ | refine s_callL rfl rfl (by simp) (c_30 ..) rfl ?_
    refine s_op (o_mv rfl) ?_
    first | refine s_gDT rfl ?_ ?_ | refine s_gNDT rfl ?_ ?_ | refine s_gNT rfl ?_ ?_ | refine s_gB rfl ?_ ?_
    · intro h2
      try rw [Decidable.not_not] at h2
      refine s_op (o_faC rfl) ?_
      refine s_gT rfl ?_
      refine s_op (o_ldC rfl rfl rfl) ?_
      refine s_gT rfl ?_
      first | refine s_op (o_lenM rfl) ?_ | refine s_op (o_len rfl) ?_ | refine s_op (o_lenL rfl rfl rfl) ?_ | refine s_op (o_lenN rfl) ?_
      refine s_gT rfl ?_
      refine s_op (o_mv rfl) ?_
      refine s_gT rfl ?_
      first | refine s_op (o_eql rfl rfl) ?_ | refine s_op (o_bin rfl rfl rfl rfl) ?_
      refine s_op (o_pickT rfl rfl) ?_
      refine s_keepO (is := [1, 22]) rfl ?_
      refine s_op (o_mv rfl) ?_
      first | refine s_gDT rfl ?_ ?_ | refine s_gNDT rfl ?_ ?_ | refine s_gNT rfl ?_ ?_ | refine s_gB rfl ?_ ?_
      · intro h3
        try rw [Decidable.not_not] at h3
        refine s_op (o_faC rfl) ?_
        refine s_gT rfl ?_
        refine s_op (o_ldC rfl rfl rfl) ?_
        refine s_gT rfl ?_
        refine s_op (o_fn rfl) ?_
        refine s_gT rfl ?_
        refine s_callL rfl rfl (by simp) (c_257 _ (by omega) _ _ rfl (fun d => !inB d 0 (limit x.size - 1)) (fun y _ => c_67 y x)) rfl ?_
        refine s_gT rfl ?_
        refine s_op (o_not rfl) ?_
        refine s_op (o_pickT rfl rfl) ?_
        refine s_op (o_mv rfl) ?_
        refine s_nilO ?_
        refine q_seqN ?_
        refine s_keep [2] rfl ?_
        refine s_ret ?_
        refine ret_leaf (.inr rfl) rfl rfl ?_
        refine congrArg (fun b => V.w (.bool b)) ?_
        first | (rw [data_not]; simp_all [Req.ok]; done) | (simp_all [Req.ok]; done)
      · intro h3
        try rw [Decidable.not_not] at h3
        refine s_gF rfl ?_
        refine s_gF rfl ?_
        refine s_gF rfl ?_
        refine s_gF rfl ?_
        refine s_gF rfl ?_
        refine s_op (o_pickF rfl rfl) ?_
        refine s_op (o_mv rfl) ?_
        refine s_nilO ?_
        refine q_seqN ?_
        refine s_keep [2] rfl ?_
        refine s_ret ?_
        refine ret_leaf (.inr rfl) rfl rfl ?_
        refine congrArg (fun b => V.w (.bool b)) ?_
        first | (rw [data_not]; simp_all [Req.ok]; done) | (simp_all [Req.ok]; done)
    · intro h2
      try rw [Decidable.not_not] at h2
      refine s_gF rfl ?_
      refine s_gF rfl ?_
      refine s_gF rfl ?_
      refine s_gF rfl ?_
      refine s_gF rfl ?_
      refine s_op (o_pickF rfl rfl) ?_
      refine s_keepO (is := [1, 22]) rfl ?_
      refine s_op (o_mv rfl) ?_
      refine s_gF rfl ?_
      refine s_gF rfl ?_
      refine s_gF rfl ?_
      refine s_gF rfl ?_
      refine s_gF rfl ?_
      refine s_op (o_pickF rfl rfl) ?_
      refine s_op (o_mv rfl) ?_
      refine s_nilO ?_
      refine q_seqN ?_
      refine s_keep [2] rfl ?_
      refine s_ret ?_
      refine ret_leaf (.inr rfl) rfl rfl ?_
      refine congrArg (fun b => V.w (.bool b)) ?_
      first | (rw [data_not]; simp_all [Req.ok]; done) | (simp_all [Req.ok]; done)
  · intro h1
    try rw [Decidable.not_not] at h1
    refine s_skip ?_
    refine q_seqN ?_
    refine s_keep [1, 3] rfl ?_
    refine S_seq ?_
    refine s_rg ?_
    refine s_op (o_faC rfl) ?_
    refine s_op (o_ldC rfl rfl rfl) ?_
    refine s_op (o_faC rfl) ?_
    refine s_op (o_ldC rfl rfl rfl) ?_
    refine s_op (o_faC rfl) ?_
    refine s_op (o_ldC rfl rfl rfl) ?_
    first | refine s_call rfl rfl (c_30 ..) ?_ | refine s_callL rfl rfl (by simp) (c_30 ..) rfl ?_
    refine s_op (o_mv rfl) ?_
    first | refine s_gDT rfl ?_ ?_ | refine s_gNDT rfl ?_ ?_ | refine s_gNT rfl ?_ ?_ | refine s_gB rfl ?_ ?_
    · intro h4
      try rw [Decidable.not_not] at h4
      refine s_op (o_faC rfl) ?_
      refine s_gT rfl ?_
      refine s_op (o_ldC rfl rfl rfl) ?_
      refine s_gT rfl ?_
      first | refine s_op (o_lenM rfl) ?_ | refine s_op (o_len rfl) ?_ | refine s_op (o_lenL rfl rfl rfl) ?_ | refine s_op (o_lenN rfl) ?_
      refine s_gT rfl ?_
      refine s_op (o_mv rfl) ?_
      refine s_gT rfl ?_
      first | refine s_op (o_eql rfl rfl) ?_ | refine s_op (o_bin rfl rfl rfl rfl) ?_
      refine s_op (o_pickT rfl rfl) ?_
      refine s_keepO (is := [1, 22]) rfl ?_
      refine s_op (o_mv rfl) ?_
      first | refine s_gDT rfl ?_ ?_ | refine s_gNDT rfl ?_ ?_ | refine s_gNT rfl ?_ ?_ | refine s_gB rfl ?_ ?_
      · intro h5
        try rw [Decidable.not_not] at h5
        refine s_op (o_faC rfl) ?_
        refine s_gT rfl ?_
        refine s_op (o_ldC rfl rfl rfl) ?_
        refine s_gT rfl ?_
        refine s_op (o_fn rfl) ?_
        refine s_gT rfl ?_
        refine s_callL rfl rfl (by simp) (c_257 _ (by omega) _ _ rfl (fun d => !inB d 0 (limit x.size - 1)) (fun y _ => c_67 y x)) rfl ?_
        refine s_gT rfl ?_
        refine s_op (o_not rfl) ?_
        refine s_op (o_pickT rfl rfl) ?_
        refine s_op (o_mv rfl) ?_
        refine s_nilO ?_
        refine q_seqN ?_
        refine s_keep [2] rfl ?_
        refine s_ret ?_
        refine ret_leaf (.inr rfl) rfl rfl ?_
        refine congrArg (fun b => V.w (.bool b)) ?_
        first | (rw [data_not]; simp_all [Req.ok]; done) | (simp_all [Req.ok]; done)
      · intro h5
        try rw [Decidable.not_not] at h5
        refine s_gF rfl ?_
        refine s_gF rfl ?_
        refine s_gF rfl ?_
        refine s_gF rfl ?_
        refine s_gF rfl ?_
        refine s_op (o_pickF rfl rfl) ?_
        refine s_op (o_mv rfl) ?_
        refine s_nilO ?_
        refine q_seqN ?_
        refine s_keep [2] rfl ?_
        refine s_ret ?_
        refine ret_leaf (.inr rfl) rfl rfl ?_
        refine congrArg (fun b => V.w (.bool b)) ?_
        first | (rw [data_not]; simp_all [Req.ok]; done) | (simp_all [Req.ok]; done)
    · intro h4
      try rw [Decidable.not_not] at h4
      refine s_gF rfl ?_
      refine s_gF rfl ?_
      refine s_gF rfl ?_
      refine s_gF rfl ?_
      refine s_gF rfl ?_
      refine s_op (o_pickF rfl rfl) ?_
      refine s_keepO (is := [1, 22]) rfl ?_
      refine s_op (o_mv rfl) ?_
      refine s_gF rfl ?_
      refine s_gF rfl ?_
      refine s_gF rfl ?_
      refine s_gF rfl ?_
      refine s_gF rfl ?_
      refine s_op (o_pickF rfl rfl) ?_
      refine s_op (o_mv rfl) ?_
      refine s_nilO ?_
      refine q_seqN ?_
      refine s_keep [2] rfl ?_
      refine s_ret ?_
      refine ret_leaf (.inr rfl) rfl rfl ?_
      refine congrArg (fun b => V.w (.bool b)) ?_
      first | (rw [data_not]; simp_all [Req.ok]; done) | (simp_all [Req.ok]; done)

theorem c_207 (x : Req) (hs : x.small) : CV prg 207 [.agg x.r] (fun res => res = .w (.bool x.ok)) := by
  have hd : x.data.length ≤ 1048576 := hs
  have hz := limit_bd x.size
  refine cv_in g207 ?_
  refine s_keep [0] rfl ?_
  refine S_seq ?_
  refine s_rg ?_
  refine s_op (o_box rfl rfl rfl) ?_
  refine s_op (o_mv rfl) ?_
  refine s_nilO ?_
  refine q_seqN ?_
  refine s_keep [1] rfl ?_
  refine S_seq ?_
  refine S_seq ?_
  refine s_rg ?_
  refine s_op (o_faC rfl) ?_
  refine s_op (o_ldC rfl rfl rfl) ?_
  refine s_op (o_faC rfl) ?_
  refine s_op (o_ldC rfl rfl rfl) ?_
  refine s_op (o_faC rfl) ?_
  refine s_op (o_ldC rfl rfl rfl) ?_
  first | refine s_call rfl rfl (c_180 ..) ?_ | refine s_callL rfl rfl (by simp) (c_180 ..) rfl ?_
  refine s_op (o_not rfl) ?_
  refine s_nilO ?_
  refine q_seqN ?_
  refine s_keep [1, 11] rfl ?_
  first | refine s_condD rfl ?_ ?_ | refine s_condN rfl ?_ ?_ | refine s_condNB rfl ?_ ?_ | refine s_condB rfl ?_ ?_
  · intro h1
    try rw [Decidable.not_not] at h1
    refine S_seq ?_
    refine s_rg ?_
    refine s_op (o_mv rfl) ?_
    refine s_nilO ?_
    refine q_seqN ?_
    refine s_keep [2] rfl ?_
    refine s_ret ?_
    refine q_seqR ?_
    refine ret_leaf (.inr rfl) rfl rfl ?_
    refine congrArg (fun b => V.w (.bool b)) ?_
    first | (unfold Req.ok; rw [all_no (by assumption) (by assumption)]; simp; done) | (have ha := all_end hi.2 (by omega); clear hi; cases hw : x.write <;> simp_all [Req.ok]; done) | (have ha := all_end hi.2 (by omega); clear hi; cases hw : x.write <;> simp_all [Req.ok] <;> omega) | (simp_all [Req.ok]; done)
  · intro h1
    try rw [Decidable.not_not] at h1
    refine s_skip ?_
    refine q_seqN ?_
    refine s_keep [1] rfl ?_
    refine S_seq ?_
    refine S_seq ?_
    refine s_rg ?_
    refine s_op (o_mv rfl) ?_
    refine s_nilO ?_
    refine q_seqN ?_
    refine s_keep [1, 3] rfl ?_
    refine S_block ?_
    refine S_loop0 (ι := Nat) (fun i => i ≤ x.data.length ∧ (x.data.take i).all (fun v => inB v 0 (limit x.size - 1)) = true) (fun i => [(3, .w (.int .i64 (i : Int)))]) (fun i => x.data.length - i) 0 (by simp) rfl ⟨rfl, trivial⟩ (fun _ _ => rfl) rfl ?_
    intro i hi
    refine s_keep [1, 3] rfl ?_
    refine S_seq ?_
    refine S_seq ?_
    refine s_rg ?_
    refine s_op (o_mv rfl) ?_
    refine s_op (o_faC rfl) ?_
    refine s_op (o_ldC rfl rfl rfl) ?_
    first | refine s_op (o_lenM rfl) ?_ | refine s_op (o_len rfl) ?_ | refine s_op (o_lenL rfl rfl rfl) ?_ | refine s_op (o_lenN rfl) ?_
    first | refine s_op (o_lss rfl rfl) ?_ | refine s_op (o_bin rfl rfl rfl rfl) ?_
    refine s_nilO ?_
    refine q_seqN ?_
    refine s_keep [1, 3, 16] rfl ?_
    first | refine s_condD rfl ?_ ?_ | refine s_condN rfl ?_ ?_ | refine s_condNB rfl ?_ ?_ | refine s_condB rfl ?_ ?_
    · intro h2
      try rw [Decidable.not_not] at h2
      refine s_skip ?_
      refine q_seqN ?_
      refine s_keep [1, 3] rfl ?_
      refine S_seq ?_
      refine S_block ?_
      refine S_seq ?_
      refine s_rg ?_
      refine s_op (o_faC rfl) ?_
      refine s_op (o_ldC rfl rfl rfl) ?_
      refine s_op (o_mv rfl) ?_
      refine s_iaM rfl rfl (by omega) ?_
      intro y3 e3
      try simp only [Int.toNat_natCast, Int.toNat_zero] at e3
      refine s_op (o_ld rfl rfl) ?_
      refine s_op (o_faC rfl) ?_
      refine s_op (o_ldC rfl rfl rfl) ?_
      first | refine s_call rfl rfl (c_201 ..) ?_ | refine s_callL rfl rfl (by simp) (c_201 ..) rfl ?_
      first | refine s_op (o_subn rfl rfl (by omega)) ?_ | refine s_op (o_sub rfl rfl) ?_
      first | refine s_call rfl rfl (c_230 ..) ?_ | refine s_callL rfl rfl (by simp) (c_230 ..) rfl ?_
      refine s_op (o_not rfl) ?_
      refine s_nilO ?_
      refine q_seqN ?_
      refine s_keep [1, 3, 29] rfl ?_
      first | refine s_condD rfl ?_ ?_ | refine s_condN rfl ?_ ?_ | refine s_condNB rfl ?_ ?_ | refine s_condB rfl ?_ ?_
      · intro h4
        try rw [Decidable.not_not] at h4
        refine S_seq ?_
        refine s_rg ?_
        refine s_op (o_mv rfl) ?_
        refine s_nilO ?_
        refine q_seqN ?_
        refine s_keep [2] rfl ?_
        refine s_ret ?_
        refine q_blkR ?_
        refine q_seqR ?_
        refine q_loopR ?_
        refine q_blkR ?_
        refine q_seqR ?_
        refine ret_leaf (.inr rfl) rfl rfl ?_
        refine congrArg (fun b => V.w (.bool b)) ?_
        first | (unfold Req.ok; rw [all_no (by assumption) (by assumption)]; simp; done) | (have ha := all_end hi.2 (by omega); clear hi; cases hw : x.write <;> simp_all [Req.ok]; done) | (have ha := all_end hi.2 (by omega); clear hi; cases hw : x.write <;> simp_all [Req.ok] <;> omega) | (simp_all [Req.ok]; done)
      · intro h4
        try rw [Decidable.not_not] at h4
        refine s_skip ?_
        refine q_blkN ?_
        refine q_seqN ?_
        refine s_keep [1, 3] rfl ?_
        refine s_rg ?_
        refine s_op (o_mv rfl) ?_
        first | refine s_op (o_addn rfl rfl (by omega)) ?_ | refine s_op (o_add rfl rfl) ?_
        refine s_op (o_mv rfl) ?_
        refine s_nilO ?_
        refine q_loopN ?_
        exact ⟨i + 1, ⟨by omega, all_take (by assumption) hi.2 (by assumption)⟩, by omega, hasOf ⟨rfl, trivial⟩ rfl⟩
    · intro h2
      try rw [Decidable.not_not] at h2
      refine s_exit ?_
      refine q_seqX ?_
      refine q_loopX ?_
      refine q_blkH ?_
      refine q_seqN ?_
      refine s_keep [1] rfl ?_
      refine S_seq ?_
      refine s_rg ?_
      refine s_op (o_faC rfl) ?_
      refine s_op (o_ldC rfl rfl rfl) ?_
      first | refine s_op (o_lenM rfl) ?_ | refine s_op (o_len rfl) ?_ | refine s_op (o_lenL rfl rfl rfl) ?_ | refine s_op (o_lenN rfl) ?_
      first | refine s_op (o_eql rfl rfl) ?_ | refine s_op (o_bin rfl rfl rfl rfl) ?_
      refine s_op (o_mv rfl) ?_
      first | refine s_gDT rfl ?_ ?_ | refine s_gNDT rfl ?_ ?_ | refine s_gNT rfl ?_ ?_ | refine s_gB rfl ?_ ?_
      · intro h5
        try rw [Decidable.not_not] at h5
        refine s_op (o_faC rfl) ?_
        refine s_gT rfl ?_
        refine s_op (o_ldC rfl rfl rfl) ?_
        refine s_gT rfl ?_
        refine s_op (o_not rfl) ?_
        refine s_op (o_pickT rfl rfl) ?_
        refine s_op (o_mv rfl) ?_
        first | refine s_gDF rfl ?_ ?_ | refine s_gNDF rfl ?_ ?_ | refine s_gNF rfl ?_ ?_ | refine s_gB rfl ?_ ?_
        · intro h6
          try rw [Decidable.not_not] at h6
          refine s_op (o_faC rfl) ?_
          refine s_gT rfl ?_
          refine s_op (o_ldC rfl rfl rfl) ?_
          refine s_gT rfl ?_
          first | refine s_op (o_lenM rfl) ?_ | refine s_op (o_len rfl) ?_ | refine s_op (o_lenL rfl rfl rfl) ?_ | refine s_op (o_lenN rfl) ?_
          refine s_gT rfl ?_
          refine s_op (o_faC rfl) ?_
          refine s_keepO (is := [1, 39, 42, 43]) rfl ?_
          refine s_gT rfl ?_
          refine s_op (o_ldC rfl rfl rfl) ?_
          refine s_gT rfl ?_
          first | refine s_call rfl rfl (c_173 ..) ?_ | refine s_callL rfl rfl (by simp) (c_173 ..) rfl ?_
          refine s_gT rfl ?_
          first | refine s_op (o_eql rfl rfl) ?_ | refine s_op (o_bin rfl rfl rfl rfl) ?_
          refine s_gT rfl ?_
          refine s_op (o_mv rfl) ?_
          first | refine s_gDT rfl ?_ ?_ | refine s_gNDT rfl ?_ ?_ | refine s_gNT rfl ?_ ?_ | refine s_gB rfl ?_ ?_
          · intro h7
            try rw [Decidable.not_not] at h7
            refine s_op (o_faC rfl) ?_
            refine s_gT rfl ?_
            refine s_op (o_ldC rfl rfl rfl) ?_
            refine s_gT rfl ?_
            refine s_op (o_pickT rfl rfl) ?_
            refine s_op (o_pickF rfl rfl) ?_
            refine s_op (o_mv rfl) ?_
            refine s_nilO ?_
            refine q_seqN ?_
            refine s_keep [2] rfl ?_
            refine s_ret ?_
            refine ret_leaf (.inr rfl) rfl rfl ?_
            refine congrArg (fun b => V.w (.bool b)) ?_
            first | (unfold Req.ok; rw [all_no (by assumption) (by assumption)]; simp; done) | (have ha := all_end hi.2 (by omega); clear hi; cases hw : x.write <;> simp_all [Req.ok]; done) | (have ha := all_end hi.2 (by omega); clear hi; cases hw : x.write <;> simp_all [Req.ok] <;> omega) | (simp_all [Req.ok]; done)
          · intro h7
            try rw [Decidable.not_not] at h7
            refine s_gF rfl ?_
            refine s_gF rfl ?_
            refine s_gT rfl ?_
            refine s_op (o_pickF rfl rfl) ?_
            refine s_op (o_pickF rfl rfl) ?_
            refine s_op (o_mv rfl) ?_
            refine s_nilO ?_
            refine q_seqN ?_
            refine s_keep [2] rfl ?_
            refine s_ret ?_
            refine ret_leaf (.inr rfl) rfl rfl ?_
            refine congrArg (fun b => V.w (.bool b)) ?_
            first | (unfold Req.ok; rw [all_no (by assumption) (by assumption)]; simp; done) | (have ha := all_end hi.2 (by omega); clear hi; cases hw : x.write <;> simp_all [Req.ok]; done) | (have ha := all_end hi.2 (by omega); clear hi; cases hw : x.write <;> simp_all [Req.ok] <;> omega) | (simp_all [Req.ok]; done)
        · intro h6
          try rw [Decidable.not_not] at h6
          refine s_gF rfl ?_
          refine s_gF rfl ?_
          refine s_gF rfl ?_
          refine s_gF rfl ?_
          refine s_keepO (is := [1, 39, 42, 43]) rfl ?_
          refine s_gF rfl ?_
          refine s_gF rfl ?_
          refine s_gF rfl ?_
          refine s_gF rfl ?_
          refine s_gN rfl ?_
          refine s_gN rfl ?_
          refine s_gF rfl ?_
          refine s_op (o_pickT rfl rfl) ?_
          refine s_op (o_mv rfl) ?_
          refine s_nilO ?_
          refine q_seqN ?_
          refine s_keep [2] rfl ?_
          refine s_ret ?_
          refine ret_leaf (.inr rfl) rfl rfl ?_
          refine congrArg (fun b => V.w (.bool b)) ?_
          first | (unfold Req.ok; rw [all_no (by assumption) (by assumption)]; simp; done) | (have ha := all_end hi.2 (by omega); clear hi; cases hw : x.write <;> simp_all [Req.ok]; done) | (have ha := all_end hi.2 (by omega); clear hi; cases hw : x.write <;> simp_all [Req.ok] <;> omega) | (simp_all [Req.ok]; done)
      · intro h5
        try rw [Decidable.not_not] at h5
        refine s_gF rfl ?_
        refine s_gF rfl ?_
        refine s_gF rfl ?_
        refine s_op (o_pickF rfl rfl) ?_
        refine s_op (o_mv rfl) ?_
        refine s_gT rfl ?_
        refine s_op (o_faC rfl) ?_
        refine s_gT rfl ?_
        refine s_op (o_ldC rfl rfl rfl) ?_
        refine s_gT rfl ?_
        first | refine s_op (o_lenM rfl) ?_ | refine s_op (o_len rfl) ?_ | refine s_op (o_lenL rfl rfl rfl) ?_ | refine s_op (o_lenN rfl) ?_
        refine s_gT rfl ?_
        refine s_op (o_faC rfl) ?_
        refine s_keepO (is := [1, 39, 42, 43]) rfl ?_
        refine s_gT rfl ?_
        refine s_op (o_ldC rfl rfl rfl) ?_
        refine s_gT rfl ?_
        first | refine s_call rfl rfl (c_173 ..) ?_ | refine s_callL rfl rfl (by simp) (c_173 ..) rfl ?_
        refine s_gT rfl ?_
        first | refine s_op (o_eql rfl rfl) ?_ | refine s_op (o_bin rfl rfl rfl rfl) ?_
        refine s_gT rfl ?_
        refine s_op (o_mv rfl) ?_
        first | refine s_gDT rfl ?_ ?_ | refine s_gNDT rfl ?_ ?_ | refine s_gNT rfl ?_ ?_ | refine s_gB rfl ?_ ?_
        · intro h8
          try rw [Decidable.not_not] at h8
          refine s_op (o_faC rfl) ?_
          refine s_gT rfl ?_
          refine s_op (o_ldC rfl rfl rfl) ?_
          refine s_gT rfl ?_
          refine s_op (o_pickT rfl rfl) ?_
          refine s_op (o_pickF rfl rfl) ?_
          refine s_op (o_mv rfl) ?_
          refine s_nilO ?_
          refine q_seqN ?_
          refine s_keep [2] rfl ?_
          refine s_ret ?_
          refine ret_leaf (.inr rfl) rfl rfl ?_
          refine congrArg (fun b => V.w (.bool b)) ?_
          first | (unfold Req.ok; rw [all_no (by assumption) (by assumption)]; simp; done) | (have ha := all_end hi.2 (by omega); clear hi; cases hw : x.write <;> simp_all [Req.ok]; done) | (have ha := all_end hi.2 (by omega); clear hi; cases hw : x.write <;> simp_all [Req.ok] <;> omega) | (simp_all [Req.ok]; done)
        · intro h8
          try rw [Decidable.not_not] at h8
          refine s_gF rfl ?_
          refine s_gF rfl ?_
          refine s_gT rfl ?_
          refine s_op (o_pickF rfl rfl) ?_
          refine s_op (o_pickF rfl rfl) ?_
          refine s_op (o_mv rfl) ?_
          refine s_nilO ?_
          refine q_seqN ?_
          refine s_keep [2] rfl ?_
          refine s_ret ?_
          refine ret_leaf (.inr rfl) rfl rfl ?_
          refine congrArg (fun b => V.w (.bool b)) ?_
          first | (unfold Req.ok; rw [all_no (by assumption) (by assumption)]; simp; done) | (have ha := all_end hi.2 (by omega); clear hi; cases hw : x.write <;> simp_all [Req.ok]; done) | (have ha := all_end hi.2 (by omega); clear hi; cases hw : x.write <;> simp_all [Req.ok] <;> omega) | (simp_all [Req.ok]; done)

def Mst.beats (m : Mst) : Int := match m.queue[0]? with | some r => AL.beats r.burst | none => 0
def Mst.right (m : Mst) : Bool := decide (m.queue.length ≤ 4) && decide (0 ≤ m.tries) && m.queue.all Req.ok &&
  (if m.queue.length = 0 then decide (m.beat = 0) && decide (m.done = 0) && decide (m.tries = 0) && !m.parted && !m.broken else inB m.done 0 (m.beats - 1) && inB m.beat m.done (min (m.done + 2) m.beats))
theorem Mst.beats_bd (m : Mst) : 0 ≤ m.beats ∧ m.beats ≤ 8 := by
  unfold Mst.beats
  split
  · exact AL.beats_bd _
  · simp
theorem Mst.beats_ne {m : Mst} (h : 0 < m.beats) : 0 < m.queue.length := by
  unfold Mst.beats at h
  split at h
  · rename_i r hr; exact (List.getElem?_eq_some_iff.1 hr).1
  · omega
theorem Mst.beats_nil {m : Mst} (h : m.queue.length = 0) : m.beats = 0 := by
  unfold Mst.beats
  rw [List.getElem?_eq_none (by omega)]
theorem Mst.beats_at {m : Mst} {r : Req} (h : m.queue[0]? = some r) : m.beats = AL.beats r.burst := by unfold Mst.beats; rw [h]
theorem mst_ix1 {m : Mst} {beat : Int} (h : inB beat 0 (m.beats - 1) = true) : (0 : Int) ≤ 0 ∧ (0 : Int) < m.queue.length := by
  have h1 := inB_t h
  have := Mst.beats_ne (m := m) (by omega)
  omega
theorem Mst.right_ok {m : Mst} (h : m.right = true) {i : Nat} {r : Req} (hr : m.queue[i]? = some r) : r.ok = true := by
  simp only [Mst.right, Bool.and_eq_true] at h
  exact List.all_eq_true.1 h.1.2 r (List.mem_of_getElem? hr)
theorem Req.ok_burst {r : Req} (h : r.ok = true) : ((burstL r.addr r.size r.burst).length : Int) = AL.beats r.burst := by
  simp only [Req.ok, burstOk, Bool.and_eq_true, decide_eq_true_eq] at h
  have h1 := burstL_len r.addr r.size r.burst
  have h2 := AL.beats_bd r.burst
  omega
theorem mst_ix2 {m : Mst} {beat : Int} {r : Req} (h1 : m.right = true) (h : inB beat 0 (m.beats - 1) = true) (hq : m.queue[0]? = some r) : 0 ≤ beat ∧ beat < ((burstL r.addr r.size r.burst).length : Int) := by
  have h2 := inB_t h
  rw [Req.ok_burst (Mst.right_ok h1 hq), ← Mst.beats_at hq]
  omega
def Mst.addrAt (m : Mst) (beat : Int) : Int := if m.right && inB beat 0 (m.beats - 1) then (match m.queue[0]? with | some r => ((burstL r.addr r.size r.burst)[beat.toNat]?).getD 0 | none => 0) else -1
theorem req_not (xs : List Req) : (!xs.any (fun r => !r.ok)) = xs.all Req.ok := by
  induction xs with
  | nil => rfl
  | cons m xs ih => simp only [List.any_cons, List.all_cons, Bool.not_or, Bool.not_not, ih]
theorem req_any (xs : List Req) : xs.any (fun r => !r.ok) = !xs.all Req.ok := by rw [← req_not, Bool.not_not]

def okAt (c : Conf) (s : Script) (i : Nat) : Bool := match s.posts[i]? with
  | some p => inB p.moment 0 4000 && inB p.who 0 (c.masters.length - 1) && p.req.ok && (match i with
    | 0 => true
    | j + 1 => match s.posts[j]? with
      | some q => decide (q.moment ≤ p.moment)
      | none => true)
  | none => true
def Script.ok (s : Script) (c : Conf) : Bool := c.ok && decide (s.posts.length ≤ 20) && decide (s.waits.length ≤ 20) && decide (s.says.length ≤ 20) && (List.range s.posts.length).all (okAt c s)
theorem cast20 (n : Nat) : ((n : Int) ≤ 20) ↔ n ≤ 20 := by omega
theorem range_step {p : Nat → Bool} {i : Nat} (h : (List.range i).all p = true) (h2 : p i = true) : (List.range (i + 1)).all p = true := by
  rw [List.range_succ, List.all_append, h]; simp [h2]
theorem range_no {p : Nat → Bool} {i n : Nat} (hi : i < n) (h2 : p i = false) : (List.range n).all p = false := by
  rw [List.all_eq_false]; exact ⟨i, List.mem_range.2 hi, by simp [h2]⟩
theorem range_all {p : Nat → Bool} {i n : Nat} (h : (List.range i).all p = true) (hi : ¬ (i : Int) < n) (hn : i ≤ n) : (List.range n).all p = true := by
  have : i = n := by omega
  rw [← this]; exact h
theorem okAt_z {c : Conf} {s : Script} {i : Nat} {p : Post} (hp : s.posts[i]? = some p) (h0 : ¬ (0 : Int) < (i : Int)) : okAt c s i = (inB p.moment 0 4000 && inB p.who 0 (c.masters.length - 1) && p.req.ok) := by
  have : i = 0 := by omega
  subst this; unfold okAt; rw [hp]; simp
theorem okAt_s {c : Conf} {s : Script} {i : Nat} {p q : Post} (hp : s.posts[i]? = some p) (h0 : (0 : Int) < (i : Int)) (hq : s.posts[i - 1]? = some q) : okAt c s i = (inB p.moment 0 4000 && inB p.who 0 (c.masters.length - 1) && p.req.ok && decide (q.moment ≤ p.moment)) := by
  obtain ⟨j, rfl⟩ : ∃ j, i = j + 1 := ⟨i - 1, by omega⟩
  unfold okAt; rw [hp]; simp only [Nat.add_sub_cancel] at hq; simp [hq]
theorem okAt_n {c : Conf} {s : Script} {i : Nat} {p : Post} (hp : s.posts[i]? = some p) (h : inB p.moment 0 4000 = false ∨ inB p.who 0 (c.masters.length - 1) = false ∨ p.req.ok = false) : okAt c s i = false := by
  unfold okAt; rw [hp]
  rcases h with h | h | h <;> simp [h]

def markI (k : Int) (i : Nat) : Int := k + 1 * i
def markD1 (k : Int) : Done := ⟨k, k + 1, decide ((k + 1 + 1).tmod 3 = 0), k + 1 + 1 + 1, k + 1 + 1 + 1 + 1, k + 1 + 1 + 1 + 1 + 1, k + 1 + 1 + 1 + 1 + 1 + 1⟩
def markD (k : Int) (i : Nat) : Done := markD1 (k + 7 * i)
theorem sets2 {α : Type} (rows : List α) (i : Nat) (x y : α) : (rows.set i x).set i y = rows.set i y := List.set_set ..

theorem words_map {α : Type} (k : Nat) {r : α → List V} (xs : List α) (h : ∀ y v, v ∈ r y → ∃ x, v = .w x) : (LB.arr k (xs.map r)).words := by
  intro row hrow v hv
  obtain ⟨y, _, rfl⟩ := List.mem_map.1 hrow
  exact h y v hv
def bdAt (r : Req) (i : Nat) : Done := ⟨0, 0, r.write, ((burstL r.addr r.size r.burst)[i]?).getD 0, r.size, if r.write then ((r.data[i]?).getD 0) else 0, 0⟩
def beatsR (r : Req) : List Done := if r.ok then (List.range (burstL r.addr r.size r.burst).length).map (bdAt r) else []
theorem beatsR_len (r : Req) : (beatsR r).length ≤ 8 := by
  unfold beatsR
  split
  · simp; exact burstL_le ..
  · simp
theorem ok_data {r : Req} (h : r.ok = true) (hw : r.write = true) : r.data.length = (burstL r.addr r.size r.burst).length := by
  have h1 := Req.ok_burst h
  simp only [Req.ok, Bool.and_eq_true, decide_eq_true_eq] at h
  have h2 := h.1.2
  rw [if_pos hw] at h2
  omega
theorem beatsR_end {r : Req} {i : Nat} (hi : i ≤ (burstL r.addr r.size r.burst).length ∧ (i = 0 ∨ r.ok = true)) (h : (burstL r.addr r.size r.burst).length ≤ i ∨ r.ok = false) : V.sl 7 (((List.range i).map (bdAt r)).map Done.r) = .sl 7 ((beatsR r).map Done.r) := by
  unfold beatsR
  cases hk : r.ok with
  | true =>
    rw [hk] at h
    have : i = (burstL r.addr r.size r.burst).length := by rcases h with h | h <;> simp_all; omega
    rw [if_pos rfl, this]
  | false =>
    have : i = 0 := by rcases hi.2 with h | h <;> simp_all
    rw [this]; rfl
theorem bd_step (r : Req) (i : Nat) : ((List.range (i + 1)).map (bdAt r)).map Done.r = ((List.range i).map (bdAt r)).map Done.r ++ [Done.r (bdAt r i)] := by
  rw [List.range_succ, List.map_append, List.map_append]; rfl
theorem bd_w {r : Req} {i : Nat} {a d : Int} (ha : (burstL r.addr r.size r.burst)[i]? = some a) (hw : r.write = true) (hd : r.data[i]? = some d) : Done.r (bdAt r i) = Done.r ⟨0, 0, r.write, a, r.size, d, 0⟩ := by
  unfold bdAt; rw [ha, hd, if_pos hw]; rfl
theorem bd_r {r : Req} {i : Nat} {a : Int} (ha : (burstL r.addr r.size r.burst)[i]? = some a) (hw : r.write = false) : Done.r (bdAt r i) = Done.r ⟨0, 0, r.write, a, r.size, 0, 0⟩ := by
  unfold bdAt; rw [ha, if_neg (by rw [hw]; decide)]; rfl

theorem cg_324 (x : Req) (hs : x.small) : GV prg 324 [] [.agg x.r] (fun u L1 => u = .ls 0 (beatsR x).length ∧ L1 = [.arr 7 ((beatsR x).map Done.r)]) := by
  have hbl := burstL_le x.addr x.size x.burst
  refine gv_in g324 ?_
  refine s_keep [0] rfl ?_
  refine S_seq ?_
  refine s_rg ?_
  refine s_op (o_box rfl rfl rfl) ?_
  refine s_op (o_mv rfl) ?_
  refine s_nilO ?_
  refine q_seqN ?_
  refine s_keep [1] rfl ?_
  refine S_seq ?_
  refine S_seq ?_
  refine s_rg ?_
  refine s_op (o_ldnC rfl rfl rfl) ?_
  first | refine s_call rfl rfl (c_66 _ (by assumption)) ?_ | refine s_callL rfl rfl (by simp) (c_66 _ (by assumption)) rfl ?_
  refine s_op (o_not rfl) ?_
  refine s_nilO ?_
  refine q_seqN ?_
  refine s_keep [1, 9] rfl ?_
  first | refine s_condD rfl ?_ ?_ | refine s_condN rfl ?_ ?_ | refine s_condNB rfl ?_ ?_ | refine s_condB rfl ?_ ?_
  · intro h1
    try rw [Decidable.not_not] at h1
    refine S_seq ?_
    refine s_rg ?_
    refine s_op (o_mv rfl) ?_
    refine s_nilO ?_
    refine q_seqN ?_
    refine s_keep [2] rfl ?_
    first | refine s_nil 2 7 rfl ⟨rfl, rfl⟩ rfl ?_ | skip
    refine s_ret ?_
    refine q_seqR ?_
    refine retG_leaf [1] (.inr rfl) rfl rfl rfl rfl (by simp) ?_
    first | (unfold beatsR; rw [if_neg (by simp_all)]; exact ⟨rfl, rfl⟩) | (unfold beatsR; rw [if_pos (by assumption), show i = (burstL x.addr x.size x.burst).length by omega]; exact ⟨by simp, rfl⟩)
  · intro h1
    try rw [Decidable.not_not] at h1
    refine s_skip ?_
    refine q_seqN ?_
    refine s_keep [1] rfl ?_
    refine S_seq ?_
    refine s_rg ?_
    refine s_op (o_bs rfl rfl rfl rfl) ?_
    refine s_op (o_mv rfl) ?_
    refine s_nilO ?_
    refine q_seqN ?_
    refine s_keep [1, 3] rfl ?_
    refine S_seq ?_
    refine S_seq ?_
    refine s_rg ?_
    refine s_op (o_faC rfl) ?_
    refine s_op (o_ldC rfl rfl rfl) ?_
    refine s_op (o_faC rfl) ?_
    refine s_op (o_ldC rfl rfl rfl) ?_
    refine s_op (o_faC rfl) ?_
    refine s_op (o_ldC rfl rfl rfl) ?_
    first | refine s_call rfl rfl (c_29 ..) ?_ | refine s_callL rfl rfl (by simp) (c_29 ..) rfl ?_
    first | refine s_op (o_lenM rfl) ?_ | refine s_op (o_len rfl) ?_ | refine s_op (o_lenL rfl rfl rfl) ?_ | refine s_op (o_lenN rfl) ?_
    refine s_op (o_mv rfl) ?_
    refine s_nilO ?_
    refine q_seqN ?_
    refine s_keep [1, 3, 17, 18, 19] rfl ?_
    refine S_block ?_
    refine S_loop (ι := Nat) (fun i => i ≤ (burstL x.addr x.size x.burst).length) (fun i => [(19, .w (.int .i64 (i : Int))), (3, .ls 1 (((List.range i).map (bdAt x)).map Done.r).length)]) (fun i => [.cell x.r, .arr 7 (((List.range i).map (bdAt x)).map Done.r)]) (fun i => (burstL x.addr x.size x.burst).length - i) 2 0 (by simp) rfl (hasOf ⟨rfl, rfl, trivial⟩ rfl) rfl (fun _ _ => rfl) (fun _ _ => ⟨rfl, rfl⟩) ?_
    intro i hi
    have hml : (((List.range i).map (bdAt x)).map Done.r).length = i := by simp
    refine s_keep [1, 3, 17, 18, 19] rfl ?_
    refine S_seq ?_
    refine s_rg ?_
    first | refine s_op (o_lss rfl rfl) ?_ | refine s_op (o_bin rfl rfl rfl rfl) ?_
    refine s_nilO ?_
    refine q_seqN ?_
    refine s_keep [1, 3, 17, 18, 19, 20] rfl ?_
    refine S_seq ?_
    first | refine s_condD rfl ?_ ?_ | refine s_condN rfl ?_ ?_ | refine s_condNB rfl ?_ ?_ | refine s_condB rfl ?_ ?_
    · intro h2
      try rw [Decidable.not_not] at h2
      refine s_skip ?_
      refine q_seqN ?_
      refine s_keep [1, 3, 17, 18, 19] rfl ?_
      refine S_seq ?_
      refine S_block ?_
      refine S_seq ?_
      refine s_rg ?_
      refine s_op (o_mv rfl) ?_
      refine s_iaM rfl rfl (by first | omega | (rw [ok_data (by assumption) (by assumption)]; omega)) ?_
      intro y3 e3
      try simp only [Int.toNat_natCast, Int.toNat_zero] at e3
      refine s_op (o_ld rfl rfl) ?_
      refine s_op (o_mv rfl) ?_
      refine s_op (o_mv rfl) ?_
      refine s_nilO ?_
      refine q_seqN ?_
      refine s_keep [1, 3, 4, 5, 17, 18, 19] rfl ?_
      refine S_seq ?_
      refine s_rg ?_
      refine s_op (o_faC rfl) ?_
      refine s_op (o_ldC rfl rfl rfl) ?_
      refine s_op (o_mv rfl) ?_
      refine s_op (o_faC rfl) ?_
      refine s_op (o_ldC rfl rfl rfl) ?_
      refine s_op (o_bd rfl rfl) ?_
      refine s_op (o_new rfl rfl) ?_
      refine s_opN (o_stnC rfl rfl rfl rfl rfl rfl rfl) ?_
      refine s_nilO ?_
      refine q_seqN ?_
      refine s_keep [1, 3, 4, 6, 17, 18, 19] rfl ?_
      refine S_seq ?_
      refine S_seq ?_
      refine s_rg ?_
      refine s_op (o_faC rfl) ?_
      refine s_op (o_ldC rfl rfl rfl) ?_
      refine s_nilO ?_
      refine q_seqN ?_
      refine s_keep [1, 3, 4, 6, 17, 18, 19, 31] rfl ?_
      first | refine s_condD rfl ?_ ?_ | refine s_condN rfl ?_ ?_ | refine s_condNB rfl ?_ ?_ | refine s_condB rfl ?_ ?_
      · intro h4
        try rw [Decidable.not_not] at h4
        refine s_rg ?_
        refine s_op (o_faC rfl) ?_
        refine s_op (o_ldC rfl rfl rfl) ?_
        refine s_op (o_mv rfl) ?_
        refine s_iaM rfl rfl (by first | omega | (rw [ok_data (by assumption) (by assumption)]; omega)) ?_
        intro y5 e5
        try simp only [Int.toNat_natCast, Int.toNat_zero] at e5
        refine s_op (o_ld rfl rfl) ?_
        refine s_op (o_faC rfl) ?_
        refine s_opN (o_stC rfl rfl rfl rfl rfl rfl) ?_
        refine s_nilO ?_
        refine q_seqN ?_
        refine s_keep [1, 3, 6, 17, 18, 19] rfl ?_
        refine s_rg ?_
        refine s_op (o_mv rfl) ?_
        refine s_op (o_ldnC rfl rfl rfl) ?_
        refine s_op (o_bs rfl rfl rfl rfl) ?_
        first | refine s_op (o_appL rfl rfl rfl rfl rfl rfl rfl (by simp [roomy]; omega)) ?_ | refine s_op (o_app rfl rfl rfl rfl rfl (by simp [roomy]; omega)) ?_
        refine s_op (o_mv rfl) ?_
        refine s_nilO ?_
        refine q_blkN ?_
        refine q_seqN ?_
        refine s_keep [1, 3, 17, 18, 19] rfl ?_
        refine s_rg ?_
        first | refine s_op (o_addn rfl rfl (by omega)) ?_ | refine s_op (o_add rfl rfl) ?_
        refine s_op (o_mv rfl) ?_
        refine s_nilO ?_
        refine q_loopN ?_
        first | (refine ⟨i + 1, by omega, by omega, hasOf ⟨rfl, ?_, trivial⟩ ?_⟩ <;> rw [bd_step, bd_w (by assumption) (by assumption) (by assumption)] <;> rfl) | (refine ⟨i + 1, by omega, by omega, hasOf ⟨rfl, ?_, trivial⟩ ?_⟩ <;> rw [bd_step, bd_r (by assumption) (by assumption)] <;> rfl)
      · intro h4
        try rw [Decidable.not_not] at h4
        refine s_skip ?_
        refine q_seqN ?_
        refine s_keep [1, 3, 6, 17, 18, 19] rfl ?_
        refine s_rg ?_
        refine s_op (o_mv rfl) ?_
        refine s_op (o_ldnC rfl rfl rfl) ?_
        refine s_op (o_bs rfl rfl rfl rfl) ?_
        first | refine s_op (o_appL rfl rfl rfl rfl rfl rfl rfl (by simp [roomy]; omega)) ?_ | refine s_op (o_app rfl rfl rfl rfl rfl (by simp [roomy]; omega)) ?_
        refine s_op (o_mv rfl) ?_
        refine s_nilO ?_
        refine q_blkN ?_
        refine q_seqN ?_
        refine s_keep [1, 3, 17, 18, 19] rfl ?_
        refine s_rg ?_
        first | refine s_op (o_addn rfl rfl (by omega)) ?_ | refine s_op (o_add rfl rfl) ?_
        refine s_op (o_mv rfl) ?_
        refine s_nilO ?_
        refine q_loopN ?_
        first | (refine ⟨i + 1, by omega, by omega, hasOf ⟨rfl, ?_, trivial⟩ ?_⟩ <;> rw [bd_step, bd_w (by assumption) (by assumption) (by assumption)] <;> rfl) | (refine ⟨i + 1, by omega, by omega, hasOf ⟨rfl, ?_, trivial⟩ ?_⟩ <;> rw [bd_step, bd_r (by assumption) (by assumption)] <;> rfl)
    · intro h2
      try rw [Decidable.not_not] at h2
      refine s_exit ?_
      refine q_seqX ?_
      refine q_loopX ?_
      refine q_blkH ?_
      refine q_seqN ?_
      refine s_keep [3] rfl ?_
      refine S_seq ?_
      refine s_rg ?_
      refine s_op (o_mv rfl) ?_
      refine s_op (o_mv rfl) ?_
      refine s_nilO ?_
      refine q_seqN ?_
      refine s_keep [2] rfl ?_
      first | refine s_nil 2 7 rfl ⟨rfl, rfl⟩ rfl ?_ | skip
      refine s_ret ?_
      refine retG_leaf [1] (.inr rfl) rfl rfl rfl rfl (by simp) ?_
      first | (unfold beatsR; rw [if_neg (by simp_all)]; exact ⟨rfl, rfl⟩) | (unfold beatsR; rw [if_pos (by assumption), show i = (burstL x.addr x.size x.burst).length by omega]; exact ⟨by simp, rfl⟩)

theorem c_336 (x : Req) (i : Nat) (h : x.write = true → i < x.data.length) : CV prg 336 [.agg x.r, .w (.int .i64 (i : Int))] (fun res => res = .w (.int .i64 (if x.write then ((x.data[i]?).getD 0) else 0))) := by
  refine cv_in g336 ?_
  refine s_keep [0, 1] rfl ?_
  refine S_seq ?_
  refine s_rg ?_
  refine s_op (o_box rfl rfl rfl) ?_
  refine s_op (o_mv rfl) ?_
  refine s_nilO ?_
  refine q_seqN ?_
  refine s_keep [1, 2] rfl ?_
  refine S_seq ?_
  refine S_seq ?_
  refine s_rg ?_
  refine s_op (o_faC rfl) ?_
  refine s_op (o_ldC rfl rfl rfl) ?_
  refine s_op (o_not rfl) ?_
  refine s_nilO ?_
  refine q_seqN ?_
  refine s_keep [1, 2, 7] rfl ?_
  first | refine s_condD rfl ?_ ?_ | refine s_condN rfl ?_ ?_ | refine s_condNB rfl ?_ ?_ | refine s_condB rfl ?_ ?_
  · intro h1
    try rw [Decidable.not_not] at h1
    refine S_seq ?_
    refine s_rg ?_
    refine s_op (o_mv rfl) ?_
    refine s_nilO ?_
    refine q_seqN ?_
    refine s_keep [4] rfl ?_
    refine s_ret ?_
    refine q_seqR ?_
    refine ret_leaf (.inr rfl) rfl rfl ?_
    refine congrArg (fun b => V.w (.int .i64 b)) ?_
    first | (rw [if_neg (by simp_all)]; done) | (rw [if_pos (by assumption)]; simp_all; done)
  · intro h1
    try rw [Decidable.not_not] at h1
    refine s_skip ?_
    refine q_seqN ?_
    refine s_keep [1, 2] rfl ?_
    refine S_seq ?_
    refine s_rg ?_
    refine s_op (o_faC rfl) ?_
    refine s_op (o_ldC rfl rfl rfl) ?_
    refine s_op (o_mv rfl) ?_
    refine s_iaM rfl rfl (by have := h (by assumption); omega) ?_
    intro y2 e2
    try simp only [Int.toNat_natCast, Int.toNat_zero] at e2
    refine s_op (o_ld rfl rfl) ?_
    refine s_op (o_mv rfl) ?_
    refine s_nilO ?_
    refine q_seqN ?_
    refine s_keep [4] rfl ?_
    refine s_ret ?_
    refine ret_leaf (.inr rfl) rfl rfl ?_
    refine congrArg (fun b => V.w (.int .i64 b)) ?_
    first | (rw [if_neg (by simp_all)]; done) | (rw [if_pos (by assumption)]; simp_all; done)

theorem c_328 (x : Req) (hs : x.small) : CV prg 328 [.agg x.r] (fun res => res = .sl 7 ((beatsR x).map Done.r)) := by
  have hbl := burstL_le x.addr x.size x.burst
  refine cv_in g328 ?_
  refine s_keep [0] rfl ?_
  refine S_seq ?_
  refine s_rg ?_
  refine s_op (o_box rfl rfl rfl) ?_
  refine s_op (o_mv rfl) ?_
  refine s_nilO ?_
  refine q_seqN ?_
  refine s_keep [1] rfl ?_
  refine S_seq ?_
  refine s_rg ?_
  refine s_op (o_bs rfl rfl rfl rfl) ?_
  refine s_op (o_mv rfl) ?_
  refine s_nilO ?_
  refine q_seqN ?_
  refine s_keep [1, 3] rfl ?_
  refine S_seq ?_
  refine s_rg ?_
  refine s_op (o_faC rfl) ?_
  refine s_op (o_ldC rfl rfl rfl) ?_
  refine s_op (o_faC rfl) ?_
  refine s_op (o_ldC rfl rfl rfl) ?_
  refine s_op (o_faC rfl) ?_
  refine s_op (o_ldC rfl rfl rfl) ?_
  first | refine s_call rfl rfl (c_179 ..) ?_ | refine s_callL rfl rfl (by simp) (c_179 ..) rfl ?_
  refine s_op (o_mv rfl) ?_
  refine s_nilO ?_
  refine q_seqN ?_
  refine s_keep [1, 3, 4] rfl ?_
  refine S_seq ?_
  refine S_seq ?_
  refine s_rg ?_
  refine s_op (o_mv rfl) ?_
  refine s_nilO ?_
  refine q_seqN ?_
  refine s_keep [1, 3, 4, 5] rfl ?_
  refine S_block ?_
  refine S_loop (ι := Nat) (fun i => i ≤ (burstL x.addr x.size x.burst).length ∧ (i = 0 ∨ x.ok = true)) (fun i => [(5, .w (.int .i64 (i : Int))), (3, .ls 1 (((List.range i).map (bdAt x)).map Done.r).length)]) (fun i => [.cell x.r, .arr 7 (((List.range i).map (bdAt x)).map Done.r)]) (fun i => (burstL x.addr x.size x.burst).length - i) 2 0 (by simp) rfl (hasOf ⟨rfl, rfl, trivial⟩ rfl) rfl (fun _ _ => rfl) (fun _ _ => ⟨rfl, rfl⟩) ?_
  intro i hi
  have hml : (((List.range i).map (bdAt x)).map Done.r).length = i := by simp
  refine s_keep [1, 3, 4, 5] rfl ?_
  refine S_seq ?_
  refine S_seq ?_
  refine s_rg ?_
  refine s_op (o_mv rfl) ?_
  refine s_op (o_mv rfl) ?_
  first | refine s_op (o_lenM rfl) ?_ | refine s_op (o_len rfl) ?_ | refine s_op (o_lenL rfl rfl rfl) ?_ | refine s_op (o_lenN rfl) ?_
  first | refine s_op (o_lss rfl rfl) ?_ | refine s_op (o_bin rfl rfl rfl rfl) ?_
  refine s_op (o_mv rfl) ?_
  first | refine s_gDT rfl ?_ ?_ | refine s_gNDT rfl ?_ ?_ | refine s_gNT rfl ?_ ?_ | refine s_gB rfl ?_ ?_
  · intro h1
    try rw [Decidable.not_not] at h1
    refine s_op (o_ldnC rfl rfl rfl) ?_
    refine s_gT rfl ?_
    first | refine s_call rfl rfl (c_207 _ (by assumption)) ?_ | refine s_callL rfl rfl (by simp) (c_207 _ (by assumption)) rfl ?_
    refine s_op (o_pickT rfl rfl) ?_
    refine s_nilO ?_
    refine q_seqN ?_
    refine s_keep [1, 3, 4, 5, 19, 20, 21] rfl ?_
    first | refine s_condD rfl ?_ ?_ | refine s_condN rfl ?_ ?_ | refine s_condNB rfl ?_ ?_ | refine s_condB rfl ?_ ?_
    · intro h2
      try rw [Decidable.not_not] at h2
      refine s_skip ?_
      refine q_seqN ?_
      refine s_keep [1, 3, 4, 5, 19, 20] rfl ?_
      refine S_seq ?_
      refine S_block ?_
      refine s_rg ?_
      refine s_op (o_mv rfl) ?_
      refine s_op (o_faC rfl) ?_
      refine s_op (o_ldC rfl rfl rfl) ?_
      refine s_op (o_mv rfl) ?_
      refine s_op (o_mv rfl) ?_
      refine s_iaM rfl rfl (by omega) ?_
      intro y3 e3
      try simp only [Int.toNat_natCast, Int.toNat_zero] at e3
      refine s_op (o_ld rfl rfl) ?_
      refine s_op (o_faC rfl) ?_
      refine s_op (o_ldC rfl rfl rfl) ?_
      refine s_op (o_ldnC rfl rfl rfl) ?_
      refine s_op (o_mv rfl) ?_
      first | refine s_call rfl rfl (c_336 x i (fun hw => by rw [ok_data (by assumption) hw]; omega)) ?_ | refine s_callL rfl rfl (by simp) (c_336 x i (fun hw => by rw [ok_data (by assumption) hw]; omega)) rfl ?_
      refine s_op (o_bd rfl rfl) ?_
      refine s_op (o_bs rfl rfl rfl rfl) ?_
      refine s_keepO (is := [1, 4, 5, 19, 20, 24, 37]) rfl ?_
      first | refine s_op (o_appL rfl rfl rfl rfl rfl rfl rfl (by simp [roomy]; omega)) ?_ | refine s_op (o_app rfl rfl rfl rfl rfl (by simp [roomy]; omega)) ?_
      refine s_op (o_mv rfl) ?_
      refine s_nilO ?_
      refine q_blkN ?_
      refine q_seqN ?_
      refine s_keep [1, 3, 4, 5, 19, 20] rfl ?_
      refine s_rg ?_
      refine s_op (o_mv rfl) ?_
      first | refine s_op (o_addn rfl rfl (by omega)) ?_ | refine s_op (o_add rfl rfl) ?_
      refine s_op (o_mv rfl) ?_
      refine s_nilO ?_
      refine q_loopN ?_
      refine ⟨i + 1, ⟨by omega, .inr (by assumption)⟩, by omega, hasOf ⟨rfl, ?_, trivial⟩ ?_⟩ <;> rw [bd_step, bdAt, (by assumption : (burstL x.addr x.size x.burst)[i]? = some _)] <;> rfl
    · intro h2
      try rw [Decidable.not_not] at h2
      refine s_exit ?_
      refine q_seqX ?_
      refine q_loopX ?_
      refine q_blkH ?_
      refine q_seqN ?_
      refine s_keep [3] rfl ?_
      refine S_seq ?_
      refine s_rg ?_
      refine s_op (o_mv rfl) ?_
      refine s_op (o_mv rfl) ?_
      refine s_nilO ?_
      refine q_seqN ?_
      refine s_keep [2] rfl ?_
      refine s_ret ?_
      refine ret_leafA (.inr rfl) rfl rfl rfl ?_
      exact beatsR_end hi (by first | exact .inl (by omega) | exact .inr (by assumption))
  · intro h1
    try rw [Decidable.not_not] at h1
    refine s_gF rfl ?_
    refine s_gF rfl ?_
    refine s_op (o_pickF rfl rfl) ?_
    refine s_nilO ?_
    refine q_seqN ?_
    refine s_keep [1, 3, 4, 5, 19, 20, 21] rfl ?_
    refine s_condF rfl ?_
    refine s_exit ?_
    refine q_seqX ?_
    refine q_loopX ?_
    refine q_blkH ?_
    refine q_seqN ?_
    refine s_keep [3] rfl ?_
    refine S_seq ?_
    refine s_rg ?_
    refine s_op (o_mv rfl) ?_
    refine s_op (o_mv rfl) ?_
    refine s_nilO ?_
    refine q_seqN ?_
    refine s_keep [2] rfl ?_
    refine s_ret ?_
    refine ret_leafA (.inr rfl) rfl rfl rfl ?_
    exact beatsR_end hi (by first | exact .inl (by omega) | exact .inr (by assumption))

def Wrr.hit (w : Wrr) (req : List Bool) (i : Nat) : Bool := (req[((w.pos + ((i : Int) + 1)).tmod req.length).toNat]?).getD false
def Wrr.pick (w : Wrr) (c : Conf) (req : List Bool) : Wrr × Int := if w.ok c && decide (req.length = c.masters.length) then
    (if decide (0 < w.credit) && (req[w.pos.toNat]?).getD false then (⟨w.pos, IntKind.wrap .i64 (w.credit - 1)⟩, w.pos)
     else match (List.range req.length).find? (w.hit req) with
      | some i => (⟨(w.pos + ((i : Int) + 1)).tmod req.length, IntKind.wrap .i64 (c.turn ((w.pos + ((i : Int) + 1)).tmod req.length) - 1)⟩, (w.pos + ((i : Int) + 1)).tmod req.length)
      | none => (⟨w.pos, 0⟩, -1))
  else (w, -1)
theorem wrr_ok {w : Wrr} {c : Conf} (h : w.ok c = true) : 0 ≤ w.pos ∧ w.pos < c.masters.length := by
  unfold Wrr.ok at h
  simp_all [inB]
  omega
theorem find_range {p : Nat → Bool} {i n : Nat} (h0 : (List.range i).find? p = none) (hi : i < n) (hp : p i = true) : (List.range n).find? p = some i := by
  have e : n = i + (n - i) := by omega
  rw [e, List.range_add, List.find?_append, h0]
  have : n - i = (n - i - 1) + 1 := by omega
  rw [this, List.range_succ_eq_map]
  simp [hp]
def tupW (p : Wrr × Int) : V := .tup [.agg p.1.r, .w (.int .i64 p.2)]
theorem pick_no {w : Wrr} {c : Conf} {req : List Bool} (h : w.ok c = false ∨ ¬ (req.length : Int) = c.masters.length) : w.pick c req = (w, -1) := by
  unfold Wrr.pick
  rw [if_neg]
  simp only [Bool.and_eq_true, decide_eq_true_eq]
  rintro ⟨h1, h2⟩
  rcases h with h | h
  · rw [h] at h1; cases h1
  · exact h (by omega)
theorem pick_stay {w : Wrr} {c : Conf} {req : List Bool} (h1 : w.ok c = true) (h2 : (req.length : Int) = c.masters.length) (h3 : 0 < w.credit) (h4 : req[w.pos.toNat]? = some true) : w.pick c req = (⟨w.pos, IntKind.wrap .i64 (w.credit - 1)⟩, w.pos) := by
  unfold Wrr.pick
  rw [if_pos (by simp [h1]; omega), if_pos (by simp [h3, h4])]
theorem pick_hit {w : Wrr} {c : Conf} {req : List Bool} {i : Nat} {n : Int} (hn : n = req.length) (h1 : w.ok c = true) (h2 : (req.length : Int) = c.masters.length) (h3 : ¬ 0 < w.credit ∨ req[w.pos.toNat]? = some false) (h0 : (List.range i).find? (w.hit req) = none) (hi : i < req.length)
    (h4 : req[((w.pos + ((i : Int) + 1)).tmod n).toNat]? = some true) : w.pick c req = (⟨(w.pos + ((i : Int) + 1)).tmod n, IntKind.wrap .i64 (c.turn ((w.pos + ((i : Int) + 1)).tmod n) - 1)⟩, (w.pos + ((i : Int) + 1)).tmod n) := by
  subst hn
  unfold Wrr.pick
  rw [if_pos (by simp [h1]; omega), if_neg (by rcases h3 with h | h <;> simp [h]), find_range h0 hi (by unfold Wrr.hit; rw [h4]; rfl)]
theorem pick_none {w : Wrr} {c : Conf} {req : List Bool} {i : Nat} (h1 : w.ok c = true) (h2 : (req.length : Int) = c.masters.length) (h3 : ¬ 0 < w.credit ∨ req[w.pos.toNat]? = some false) (h0 : (List.range i).find? (w.hit req) = none) (hi : i = req.length) : w.pick c req = (⟨w.pos, 0⟩, -1) := by
  subst hi
  unfold Wrr.pick
  rw [if_pos (by simp [h1]; omega), if_neg (by rcases h3 with h | h <;> simp [h]), h0]
theorem hit_next {w : Wrr} {req : List Bool} {i : Nat} {n : Int} (hn : n = req.length) (h0 : (List.range i).find? (w.hit req) = none) (h4 : req[((w.pos + ((i : Int) + 1)).tmod n).toNat]? = some false) : (List.range (i + 1)).find? (w.hit req) = none := by
  subst hn
  rw [List.range_succ, List.find?_append, h0]
  simp [Wrr.hit, h4]

def band (a b : Int) : Int := IntKind.wrap .i64 ((BitVec.ofInt 64 a &&& BitVec.ofInt 64 b).toNat : Nat)
def bxor (a b : Int) : Int := IntKind.wrap .i64 ((BitVec.ofInt 64 a ^^^ BitVec.ofInt 64 b).toNat : Nat)
theorem o_band {G : Prg} {q : Bool} {tl : Tl} {L : List LB} {x y a b} (hx : evE tl x = some (.w (.int .i64 a))) (hy : evE tl y = some (.w (.int .i64 b))) : OpV G q (.bin .and x y) tl L (some (.w (.int .i64 (band a b)))) L :=
  o_bin hx hy rfl rfl
theorem o_bxor {G : Prg} {q : Bool} {tl : Tl} {L : List LB} {x y a b} (hx : evE tl x = some (.w (.int .i64 a))) (hy : evE tl y = some (.w (.int .i64 b))) : OpV G q (.bin .xor x y) tl L (some (.w (.int .i64 (bxor a b)))) L :=
  o_bin hx hy rfl rfl
theorem band_bd (a : Int) : 0 ≤ band a 255 ∧ band a 255 ≤ 255 := by
  have h : (BitVec.ofInt 64 a &&& BitVec.ofInt 64 255).toNat ≤ 255 := by
    rw [BitVec.toNat_and]
    exact Nat.le_trans Nat.and_le_right (by decide)
  unfold band
  rw [wrap_in _ (by omega)]
  omega
def cur (code : List Int) (i h : Int) : LB := .cell [.sl 1 (code.map uR), .w (.int .i64 i), .w (.int .i64 h)]
theorem tmod_bd {x n : Int} (hx : 0 ≤ x) (hn : 0 < n) : 0 ≤ x.tmod n ∧ x.tmod n < n := ⟨Int.tmod_nonneg _ hx, Int.tmod_lt_of_pos _ hn⟩

theorem cg_231 (code : List Int) (hc : code.length ≤ 1048576) : GV prg 231 [] [.sl 1 (code.map uR)] (fun u L1 => u = .cp 0 0 ∧ ∃ h, L1 = [cur code 0 h]) := by
  refine gv_in g231 ?_
  refine s_keep [0] rfl ?_
  refine S_seq ?_
  refine s_rg ?_
  refine s_op (o_mv rfl) ?_
  refine s_nilO ?_
  refine q_seqN ?_
  refine s_keep [0] rfl ?_
  refine S_seq ?_
  refine s_rg ?_
  refine s_op (o_mv rfl) ?_
  first | refine s_op (o_lenM rfl) ?_ | refine s_op (o_len rfl) ?_
  first | refine s_op (o_addn rfl rfl (by omega)) ?_ | refine s_op (o_add rfl rfl) ?_
  refine s_op (o_mv rfl) ?_
  refine s_nilO ?_
  refine q_seqN ?_
  refine s_keep [0, 3] rfl ?_
  refine S_seq ?_
  refine S_seq ?_
  refine s_rg ?_
  refine s_op (o_mv rfl) ?_
  refine s_nilO ?_
  refine q_seqN ?_
  refine s_keep [0, 3, 4] rfl ?_
  refine S_block ?_
  refine S_loop (ι := Nat × Int) (fun p => p.1 ≤ code.length) (fun p => [(3, .w (.int .i64 p.2)), (4, .w (.int .i64 (p.1 : Int)))]) (fun p => []) (fun p => code.length - p.1) 0 (0, IntKind.wrap .i64 (10101 + code.length)) (Nat.zero_le _) rfl (hasOf ⟨by rw [wrap_in _ (by omega)]; rfl, rfl, trivial⟩ rfl) rfl (fun _ _ => rfl) (fun _ _ => ⟨rfl, rfl⟩) ?_
  rintro ⟨i, h⟩ hi
  have hi : i ≤ code.length := hi
  refine s_keep [0, 3, 4] rfl ?_
  dsimp only
  refine S_seq ?_
  refine S_seq ?_
  refine s_rg ?_
  refine s_op (o_mv rfl) ?_
  refine s_op (o_mv rfl) ?_
  first | refine s_op (o_lenM rfl) ?_ | refine s_op (o_len rfl) ?_
  first | refine s_op (o_lss rfl rfl) ?_ | refine s_op (o_bin rfl rfl rfl rfl) ?_
  refine s_op (o_mv rfl) ?_
  first | refine s_gDT rfl ?_ ?_ | refine s_gNDT rfl ?_ ?_ | refine s_gNT rfl ?_ ?_ | refine s_gB rfl ?_ ?_
  · intro h1
    try rw [Decidable.not_not] at h1
    refine s_op (o_mv rfl) ?_
    refine s_gT rfl ?_
    first | refine s_op (o_lss rfl rfl) ?_ | refine s_op (o_bin rfl rfl rfl rfl) ?_
    refine s_op (o_pickT rfl rfl) ?_
    refine s_nilO ?_
    refine q_seqN ?_
    refine s_keep [0, 3, 4, 13, 14, 15] rfl ?_
    first | refine s_condD rfl ?_ ?_ | refine s_condN rfl ?_ ?_ | refine s_condNB rfl ?_ ?_ | refine s_condB rfl ?_ ?_
    · intro h2
      try rw [Decidable.not_not] at h2
      refine s_skip ?_
      refine q_seqN ?_
      refine s_keep [0, 3, 4, 13, 14] rfl ?_
      refine S_seq ?_
      refine S_block ?_
      refine s_rg ?_
      refine s_op (o_mv rfl) ?_
      first | refine s_op (o_muln rfl rfl (by omega)) ?_ | refine s_op (o_mul rfl rfl) ?_
      refine s_op (o_mv rfl) ?_
      refine s_op (o_mv rfl) ?_
      refine s_iaM rfl rfl (by omega) ?_
      intro y3 e3
      try simp only [Int.toNat_natCast, Int.toNat_zero] at e3
      refine s_op (o_ld rfl rfl) ?_
      refine s_op (o_cvi rfl) ?_
      first | refine s_op (o_addn rfl rfl (by omega)) ?_ | refine s_op (o_add rfl rfl) ?_
      first | refine s_op (o_addn rfl rfl (by omega)) ?_ | refine s_op (o_add rfl rfl) ?_
      refine s_op (o_band rfl rfl) ?_
      refine s_op (o_mv rfl) ?_
      refine s_nilO ?_
      refine q_blkN ?_
      refine q_seqN ?_
      refine s_keep [0, 3, 4, 13, 14] rfl ?_
      refine s_rg ?_
      refine s_op (o_mv rfl) ?_
      first | refine s_op (o_addn rfl rfl (by omega)) ?_ | refine s_op (o_add rfl rfl) ?_
      refine s_op (o_mv rfl) ?_
      refine s_nilO ?_
      refine q_loopN ?_
      exact ⟨(i + 1, _), by simp only; omega, by simp only; omega, hasOf ⟨rfl, rfl, trivial⟩ rfl⟩
    · intro h2
      try rw [Decidable.not_not] at h2
      refine s_exit ?_
      refine q_seqX ?_
      refine q_loopX ?_
      refine q_blkH ?_
      refine q_seqN ?_
      refine s_keep [0, 3] rfl ?_
      refine S_seq ?_
      refine s_rg ?_
      refine s_op (o_mv rfl) ?_
      refine s_op (o_mv rfl) ?_
      refine s_op (o_bd rfl rfl) ?_
      refine s_op (o_box rfl rfl rfl) ?_
      refine s_op (o_mv rfl) ?_
      refine s_nilO ?_
      refine q_seqN ?_
      refine s_keep [2] rfl ?_
      refine s_ret ?_
      refine retG_leaf [0] (.inr rfl) rfl rfl rfl rfl (show (List.range 0 ++ [0]).Nodup by decide) ?_
      exact ⟨rfl, _, rfl⟩
  · intro h1
    try rw [Decidable.not_not] at h1
    refine s_gF rfl ?_
    refine s_gF rfl ?_
    refine s_op (o_pickF rfl rfl) ?_
    refine s_nilO ?_
    refine q_seqN ?_
    refine s_keep [0, 3, 4, 13, 14, 15] rfl ?_
    refine s_condF rfl ?_
    refine s_exit ?_
    refine q_seqX ?_
    refine q_loopX ?_
    refine q_blkH ?_
    refine q_seqN ?_
    refine s_keep [0, 3] rfl ?_
    refine S_seq ?_
    refine s_rg ?_
    refine s_op (o_mv rfl) ?_
    refine s_op (o_mv rfl) ?_
    refine s_op (o_bd rfl rfl) ?_
    refine s_op (o_box rfl rfl rfl) ?_
    refine s_op (o_mv rfl) ?_
    refine s_nilO ?_
    refine q_seqN ?_
    refine s_keep [2] rfl ?_
    refine s_ret ?_
    refine retG_leaf [0] (.inr rfl) rfl rfl rfl rfl (show (List.range 0 ++ [0]).Nodup by decide) ?_
    exact ⟨rfl, _, rfl⟩

theorem cg_229 (code : List Int) (hc : code.length ≤ 1048576) (i h : Int) (hi : 0 ≤ i ∧ i ≤ code.length) : GV prg 229 [cur code i h] [.cp 0 0] (fun u L1 => (∃ x, u = .w (.int .i64 x) ∧ 0 ≤ x ∧ x ≤ 255) ∧ ∃ (i h : Int), (0 ≤ i ∧ i ≤ code.length) ∧ L1 = [cur code i h]) := by
  refine gv_in g229 ?_
  refine s_keep [0] rfl ?_
  refine S_seq ?_
  refine s_rg ?_
  refine s_op (o_mv rfl) ?_
  refine s_nilO ?_
  refine q_seqN ?_
  refine s_keep [0] rfl ?_
  refine S_seq ?_
  refine s_rg ?_
  refine s_op (o_mv rfl) ?_
  refine s_op (o_mv rfl) ?_
  first | refine s_op (o_nilc rfl) ?_ | refine s_op (o_nilcR rfl) ?_
  refine s_op (o_faC rfl) ?_
  refine s_op (o_ldC rfl rfl rfl) ?_
  first | refine s_op (o_muln rfl rfl (by omega)) ?_ | refine s_op (o_mul rfl rfl) ?_
  first | refine s_op (o_addn rfl rfl (by omega)) ?_ | refine s_op (o_add rfl rfl) ?_
  first | refine s_op (o_nilc rfl) ?_ | refine s_op (o_nilcR rfl) ?_
  refine s_op (o_faC rfl) ?_
  refine s_opN (o_stC rfl rfl rfl rfl rfl rfl) ?_
  refine s_nilO ?_
  refine q_seqN ?_
  refine s_keep [0] rfl ?_
  refine S_seq ?_
  refine s_rg ?_
  refine s_op (o_mv rfl) ?_
  first | refine s_op (o_nilc rfl) ?_ | refine s_op (o_nilcR rfl) ?_
  refine s_op (o_faC rfl) ?_
  refine s_op (o_ldC rfl rfl rfl) ?_
  refine s_op (o_shr rfl rfl (by omega)) ?_
  refine s_op (o_mv rfl) ?_
  first | refine s_op (o_nilc rfl) ?_ | refine s_op (o_nilcR rfl) ?_
  refine s_op (o_faC rfl) ?_
  refine s_op (o_ldC rfl rfl rfl) ?_
  refine s_op (o_shr rfl rfl (by omega)) ?_
  refine s_op (o_bxor rfl rfl) ?_
  refine s_op (o_band rfl rfl) ?_
  refine s_op (o_mv rfl) ?_
  refine s_nilO ?_
  refine q_seqN ?_
  refine s_keep [0, 3] rfl ?_
  refine S_seq ?_
  refine S_seq ?_
  refine s_rg ?_
  refine s_op (o_mv rfl) ?_
  first | refine s_op (o_nilc rfl) ?_ | refine s_op (o_nilcR rfl) ?_
  refine s_op (o_faC rfl) ?_
  refine s_op (o_ldC rfl rfl rfl) ?_
  refine s_op (o_mv rfl) ?_
  first | refine s_op (o_nilc rfl) ?_ | refine s_op (o_nilcR rfl) ?_
  refine s_op (o_faC rfl) ?_
  refine s_op (o_ldC rfl rfl rfl) ?_
  first | refine s_op (o_lenM rfl) ?_ | refine s_op (o_len rfl) ?_ | refine s_op (o_lenL rfl rfl rfl) ?_ | refine s_op (o_lenN rfl) ?_
  first | refine s_op (o_lss rfl rfl) ?_ | refine s_op (o_bin rfl rfl rfl rfl) ?_
  refine s_nilO ?_
  refine q_seqN ?_
  refine s_keep [0, 3, 34] rfl ?_
  first | refine s_condD rfl ?_ ?_ | refine s_condN rfl ?_ ?_ | refine s_condNB rfl ?_ ?_ | refine s_condB rfl ?_ ?_
  · intro h1
    try rw [Decidable.not_not] at h1
    refine S_seq ?_
    refine s_rg ?_
    refine s_op (o_mv rfl) ?_
    refine s_op (o_mv rfl) ?_
    first | refine s_op (o_nilc rfl) ?_ | refine s_op (o_nilcR rfl) ?_
    refine s_op (o_faC rfl) ?_
    refine s_op (o_ldC rfl rfl rfl) ?_
    refine s_op (o_mv rfl) ?_
    first | refine s_op (o_nilc rfl) ?_ | refine s_op (o_nilcR rfl) ?_
    refine s_op (o_faC rfl) ?_
    refine s_op (o_ldC rfl rfl rfl) ?_
    refine s_iaM rfl rfl (by omega) ?_
    intro y2 e2
    try simp only [Int.toNat_natCast, Int.toNat_zero] at e2
    refine s_op (o_ld rfl rfl) ?_
    refine s_op (o_cvi rfl) ?_
    first | refine s_op (o_addn rfl rfl (by omega)) ?_ | refine s_op (o_add rfl rfl) ?_
    refine s_op (o_band rfl rfl) ?_
    refine s_op (o_mv rfl) ?_
    refine s_nilO ?_
    refine q_seqN ?_
    refine s_keep [0, 3] rfl ?_
    refine s_rg ?_
    refine s_op (o_mv rfl) ?_
    refine s_op (o_mv rfl) ?_
    first | refine s_op (o_nilc rfl) ?_ | refine s_op (o_nilcR rfl) ?_
    refine s_op (o_faC rfl) ?_
    refine s_op (o_ldC rfl rfl rfl) ?_
    first | refine s_op (o_addn rfl rfl (by omega)) ?_ | refine s_op (o_add rfl rfl) ?_
    first | refine s_op (o_nilc rfl) ?_ | refine s_op (o_nilcR rfl) ?_
    refine s_op (o_faC rfl) ?_
    refine s_opN (o_stC rfl rfl rfl rfl rfl rfl) ?_
    refine s_nilO ?_
    refine q_seqN ?_
    refine s_keep [3] rfl ?_
    refine S_seq ?_
    refine s_rg ?_
    refine s_op (o_mv rfl) ?_
    refine s_op (o_mv rfl) ?_
    refine s_nilO ?_
    refine q_seqN ?_
    refine s_keep [2] rfl ?_
    refine s_ret ?_
    refine retG_leaf [] (.inr rfl) rfl rfl rfl rfl (show (List.range 1 ++ []).Nodup by decide) ?_
    exact ⟨⟨_, rfl, band_bd _⟩, _, _, (by omega), rfl⟩
  · intro h1
    try rw [Decidable.not_not] at h1
    refine s_skip ?_
    refine q_seqN ?_
    refine s_keep [3] rfl ?_
    refine S_seq ?_
    refine s_rg ?_
    refine s_op (o_mv rfl) ?_
    refine s_op (o_mv rfl) ?_
    refine s_nilO ?_
    refine q_seqN ?_
    refine s_keep [2] rfl ?_
    refine s_ret ?_
    refine retG_leaf [] (.inr rfl) rfl rfl rfl rfl (show (List.range 1 ++ []).Nodup by decide) ?_
    exact ⟨⟨_, rfl, band_bd _⟩, _, _, (by omega), rfl⟩

theorem cg_228 (code : List Int) (hc : code.length ≤ 1048576) (i h : Int) (hi : 0 ≤ i ∧ i ≤ code.length) (n : Int) : GV prg 228 [cur code i h] [.cp 0 0, .w (.int .i64 n)] (fun u L1 => (∃ x, u = .w (.int .i64 x) ∧ (0 < n → 0 ≤ x ∧ x < n) ∧ (n ≤ 0 → x = 0)) ∧ ∃ (i h : Int), (0 ≤ i ∧ i ≤ code.length) ∧ L1 = [cur code i h]) := by
  refine gv_in g228 ?_
  refine s_keep [0, 1] rfl ?_
  refine S_seq ?_
  refine s_rg ?_
  refine s_op (o_mv rfl) ?_
  refine s_nilO ?_
  refine q_seqN ?_
  refine s_keep [0, 1] rfl ?_
  refine S_seq ?_
  refine S_seq ?_
  refine s_rg ?_
  refine s_op (o_mv rfl) ?_
  first | refine s_op (o_leq rfl rfl) ?_ | refine s_op (o_bin rfl rfl rfl rfl) ?_
  refine s_nilO ?_
  refine q_seqN ?_
  refine s_keep [0, 1, 10] rfl ?_
  first | refine s_condD rfl ?_ ?_ | refine s_condN rfl ?_ ?_ | refine s_condNB rfl ?_ ?_ | refine s_condB rfl ?_ ?_
  · intro h1
    try rw [Decidable.not_not] at h1
    refine S_seq ?_
    refine s_rg ?_
    refine s_op (o_mv rfl) ?_
    refine s_nilO ?_
    refine q_seqN ?_
    refine s_keep [4] rfl ?_
    refine s_ret ?_
    refine q_seqR ?_
    refine retG_leaf [] (.inr rfl) rfl rfl rfl rfl (show (List.range 1 ++ []).Nodup by decide) ?_
    exact ⟨⟨_, rfl, (by first | (exact ⟨fun _ => tmod_bd (by omega) (by omega), fun _ => by omega⟩) | omega)⟩, _, _, (by omega), rfl⟩
  · intro h1
    try rw [Decidable.not_not] at h1
    refine s_skip ?_
    refine q_seqN ?_
    refine s_keep [0, 1] rfl ?_
    refine S_seq ?_
    refine S_seq ?_
    refine s_rg ?_
    refine s_op (o_mv rfl) ?_
    first | refine s_op (o_leq rfl rfl) ?_ | refine s_op (o_bin rfl rfl rfl rfl) ?_
    refine s_nilO ?_
    refine q_seqN ?_
    refine s_keep [0, 1, 12] rfl ?_
    first | refine s_condD rfl ?_ ?_ | refine s_condN rfl ?_ ?_ | refine s_condNB rfl ?_ ?_ | refine s_condB rfl ?_ ?_
    · intro h2
      try rw [Decidable.not_not] at h2
      refine S_seq ?_
      refine s_rg ?_
      refine s_op (o_mv rfl) ?_
      refine s_callG [0] rfl rfl rfl rfl (by simp) (.inl rfl) (cg_229 _ hc _ _ hi) ?_
      rintro u L1 ⟨⟨x, rfl, hx⟩, i, h, hi, rfl⟩
      refine ⟨_, _, rfl, rfl, ?_⟩
      refine s_op (o_mv rfl) ?_
      first | refine s_op (o_rem rfl rfl (by decide)) ?_ | refine s_op (o_rem rfl rfl (by omega)) ?_
      refine s_op (o_mv rfl) ?_
      refine s_nilO ?_
      refine q_seqN ?_
      refine s_keep [4] rfl ?_
      refine s_ret ?_
      refine q_seqR ?_
      refine retG_leaf [] (.inr rfl) rfl rfl rfl rfl (show (List.range 1 ++ []).Nodup by decide) ?_
      exact ⟨⟨_, rfl, (by first | (exact ⟨fun _ => tmod_bd (by omega) (by omega), fun _ => by omega⟩) | omega)⟩, _, _, (by omega), rfl⟩
    · intro h2
      try rw [Decidable.not_not] at h2
      refine s_skip ?_
      refine q_seqN ?_
      refine s_keep [0, 1] rfl ?_
      refine S_seq ?_
      refine s_rg ?_
      refine s_op (o_mv rfl) ?_
      refine s_callG [0] rfl rfl rfl rfl (by simp) (.inl rfl) (cg_229 _ hc _ _ hi) ?_
      rintro u L1 ⟨⟨x, rfl, hx⟩, i, h, hi, rfl⟩
      refine ⟨_, _, rfl, rfl, ?_⟩
      refine s_op (o_mv rfl) ?_
      refine s_nilO ?_
      refine q_seqN ?_
      refine s_keep [0, 1, 5] rfl ?_
      refine S_seq ?_
      refine s_rg ?_
      refine s_op (o_mv rfl) ?_
      refine s_callG [0] rfl rfl rfl rfl (by simp) (.inl rfl) (cg_229 _ hc _ _ hi) ?_
      rintro u L1 ⟨⟨x, rfl, hx⟩, i, h, hi, rfl⟩
      refine ⟨_, _, rfl, rfl, ?_⟩
      refine s_op (o_mv rfl) ?_
      refine s_nilO ?_
      refine q_seqN ?_
      refine s_keep [0, 1, 5, 6] rfl ?_
      refine S_seq ?_
      refine s_rg ?_
      refine s_op (o_mv rfl) ?_
      refine s_callG [0] rfl rfl rfl rfl (by simp) (.inl rfl) (cg_229 _ hc _ _ hi) ?_
      rintro u L1 ⟨⟨x, rfl, hx⟩, i, h, hi, rfl⟩
      refine ⟨_, _, rfl, rfl, ?_⟩
      refine s_op (o_mv rfl) ?_
      refine s_nilO ?_
      refine q_seqN ?_
      refine s_keep [0, 1, 5, 6, 7] rfl ?_
      refine S_seq ?_
      refine s_rg ?_
      refine s_op (o_mv rfl) ?_
      refine s_callG [0] rfl rfl rfl rfl (by simp) (.inl rfl) (cg_229 _ hc _ _ hi) ?_
      rintro u L1 ⟨⟨x, rfl, hx⟩, i, h, hi, rfl⟩
      refine ⟨_, _, rfl, rfl, ?_⟩
      refine s_op (o_mv rfl) ?_
      refine s_nilO ?_
      refine q_seqN ?_
      refine s_keep [1, 5, 6, 7, 8] rfl ?_
      refine S_seq ?_
      refine s_rg ?_
      refine s_op (o_mv rfl) ?_
      first | refine s_op (o_muln rfl rfl (by omega)) ?_ | refine s_op (o_mul rfl rfl) ?_
      refine s_op (o_mv rfl) ?_
      first | refine s_op (o_muln rfl rfl (by omega)) ?_ | refine s_op (o_mul rfl rfl) ?_
      first | refine s_op (o_addn rfl rfl (by omega)) ?_ | refine s_op (o_add rfl rfl) ?_
      refine s_op (o_mv rfl) ?_
      first | refine s_op (o_muln rfl rfl (by omega)) ?_ | refine s_op (o_mul rfl rfl) ?_
      first | refine s_op (o_addn rfl rfl (by omega)) ?_ | refine s_op (o_add rfl rfl) ?_
      refine s_op (o_mv rfl) ?_
      first | refine s_op (o_addn rfl rfl (by omega)) ?_ | refine s_op (o_add rfl rfl) ?_
      refine s_op (o_mv rfl) ?_
      first | refine s_op (o_rem rfl rfl (by decide)) ?_ | refine s_op (o_rem rfl rfl (by omega)) ?_
      refine s_op (o_mv rfl) ?_
      refine s_nilO ?_
      refine q_seqN ?_
      refine s_keep [4] rfl ?_
      refine s_ret ?_
      refine retG_leaf [] (.inr rfl) rfl rfl rfl rfl (show (List.range 1 ++ []).Nodup by decide) ?_
      exact ⟨⟨_, rfl, (by first | (exact ⟨fun _ => tmod_bd (by omega) (by omega), fun _ => by omega⟩) | omega)⟩, _, _, (by omega), rfl⟩

theorem cg_233 (code : List Int) (hc : code.length ≤ 1048576) (i h : Int) (hi : 0 ≤ i ∧ i ≤ code.length) (n : Int) : GV prg 233 [cur code i h] [.cp 0 0, .w (.int .i64 n)] (fun u L1 => (∃ b, u = .w (.bool b)) ∧ ∃ (i h : Int), (0 ≤ i ∧ i ≤ code.length) ∧ L1 = [cur code i h]) := by
  refine gv_in g233 ?_
  refine s_keep [0, 1] rfl ?_
  refine S_seq ?_
  refine s_rg ?_
  refine s_op (o_mv rfl) ?_
  refine s_nilO ?_
  refine q_seqN ?_
  refine s_keep [0, 1] rfl ?_
  refine S_seq ?_
  refine s_rg ?_
  refine s_op (o_mv rfl) ?_
  refine s_op (o_mv rfl) ?_
  refine s_callG [0] rfl rfl rfl rfl (by simp) (.inl rfl) (cg_228 _ hc _ _ hi _) ?_
  rintro u L1 ⟨⟨x, rfl, hx⟩, i, h, hi, rfl⟩
  refine ⟨_, _, rfl, rfl, ?_⟩
  first | refine s_op (o_eql rfl rfl) ?_ | refine s_op (o_bin rfl rfl rfl rfl) ?_
  refine s_op (o_mv rfl) ?_
  refine s_nilO ?_
  refine q_seqN ?_
  refine s_keep [4] rfl ?_
  refine s_ret ?_
  refine retG_leaf [] (.inr rfl) rfl rfl rfl rfl (show (List.range 1 ++ []).Nodup by decide) ?_
  exact ⟨⟨_, rfl⟩, _, _, (by omega), rfl⟩

def unI : List (List V) → Option (List Int)
  | [] => some []
  | [.w (.int .i64 x)] :: l => match unI l with
    | some r => some (x :: r)
    | none => none
  | _ => none
theorem unI_inv : ∀ {l : List (List V)} {r : List Int}, unI l = some r → l = r.map iR
  | [], r, h => by simp [unI] at h; subst h; rfl
  | a :: l, r, h => by
    unfold unI at h
    split at h
    · rename_i h1; cases h1
    · rename_i x l' e
      injection e with e1 e2
      subst e1 e2
      split at h
      · rename_i r' h1; cases h; rw [unI_inv h1]; rfl
      · cases h
    · cases h
theorem words_iR (rows : List (List V)) (xs : List Int) (h : unI rows = some xs) : ∀ lb, lb ∈ [LB.arr 1 rows] → lb.words := by
  intro lb hlb
  rw [List.mem_singleton] at hlb
  subst hlb
  rw [unI_inv h]
  intro r hr v hv
  obtain ⟨y, _, rfl⟩ := List.mem_map.1 hr
  simp [iR] at hv
  exact ⟨_, hv⟩

theorem cg_234 (code : List Int) (hc : code.length ≤ 1048576) (i h : Int) (hi : 0 ≤ i ∧ i ≤ code.length) (rows : List (List V)) (xs : List Int) (hx : unI rows = some xs) (hx0 : 0 < xs.length) (hx1 : xs.length ≤ 1048576) : GV prg 234 [cur code i h, .arr 1 rows] [.cp 0 0, .ls 1 rows.length] (fun u L1 => (∃ x, u = .w (.int .i64 x) ∧ x ∈ xs) ∧ ∃ (i h : Int), (0 ≤ i ∧ i ≤ code.length) ∧ L1 = [cur code i h, .arr 1 rows]) := by
  have hxr := unI_inv hx
  subst hxr
  clear hx
  refine gv_in g234 ?_
  refine s_keep [0, 1] rfl ?_
  refine S_seq ?_
  refine s_rg ?_
  refine s_op (o_mv rfl) ?_
  refine s_nilO ?_
  refine q_seqN ?_
  refine s_keep [0, 1] rfl ?_
  refine S_seq ?_
  refine s_rg ?_
  refine s_op (o_mv rfl) ?_
  refine s_op (o_mv rfl) ?_
  refine s_op (o_mv rfl) ?_
  refine s_op (o_lenL rfl rfl (by simp)) ?_
  refine s_callG [0] rfl rfl rfl rfl (by simp) (.inl rfl) (cg_228 _ hc _ _ hi _) ?_
  rintro u L1 ⟨⟨x, rfl, hx⟩, i, h, hi, rfl⟩
  refine ⟨_, _, rfl, rfl, ?_⟩
  have hx2 := hx.1 (by simp; omega)
  rw [List.length_map] at hx2
  obtain ⟨y, hy⟩ : ∃ y, xs[x.toNat]? = some y := ⟨_, List.getElem?_eq_getElem (by omega)⟩
  refine s_op (o_iaL rfl rfl (by simp) rfl (by rw [List.length_map]; omega)) ?_
  refine s_op (o_ldA rfl rfl (by simp) (by rw [List.getElem?_map, hy]; rfl) rfl) ?_
  refine s_op (o_mv rfl) ?_
  refine s_nilO ?_
  refine q_seqN ?_
  refine s_keep [4] rfl ?_
  refine s_ret ?_
  refine retG_leaf [] (.inr rfl) rfl rfl rfl rfl (show (List.range 2 ++ []).Nodup by decide) ?_
  exact ⟨⟨_, rfl, List.mem_of_getElem? (by assumption)⟩, _, _, (by omega), rfl⟩

theorem cv_cast {G : Prg} {f : Nat} {us us1 : List V} {post : V → Prop} (h : CV G f us post) (e : us = us1) : CV G f us1 post := e ▸ h
theorem get_map {α β : Type} {f : α → β} {xs : List α} {i : Nat} {m : α} (h : xs[i]? = some m) : (xs.map f)[i]? = some (f m) := by rw [List.getElem?_map, h]; rfl
theorem get_ex {α : Type} {xs : List α} {k : Int} (h0 : 0 ≤ k) (h1 : k < xs.length) : ∃ m, xs[k.toNat]? = some m := ⟨_, List.getElem?_eq_getElem (by omega)⟩
theorem MConf_snoc (ms : List MConf) (w : Int) : (ms ++ [(⟨w, false, 0, 0⟩ : MConf)]).map MConf.r = ms.map MConf.r ++ [[.w (.int .i64 w), .w (.bool false), .w (.int .i64 0), .w (.int .i64 0)]] := by rw [List.map_append]; rfl

theorem c_123 (code : List Int) (hw : code.length ≤ 140737488355328) : CV prg 123 [.sl 1 (code.map uR)] (fun res => res = .w (.bool (decide (1048576 < (code.length : Int))))) := by
  refine cv_in g123 ?_
  refine s_keep [0] rfl ?_
  refine S_seq ?_
  refine s_rg ?_
  refine s_op (o_mv rfl) ?_
  refine s_nilO ?_
  refine q_seqN ?_
  refine s_keep [0] rfl ?_
  refine S_seq ?_
  refine s_rg ?_
  refine s_op (o_mv rfl) ?_
  first | refine s_op (o_lenM rfl) ?_ | refine s_op (o_len rfl) ?_
  first | refine s_op (o_gtr rfl rfl) ?_ | refine s_op (o_bin rfl rfl rfl rfl) ?_
  refine s_op (o_mv rfl) ?_
  refine s_nilO ?_
  refine q_seqN ?_
  refine s_keep [2] rfl ?_
  refine s_ret ?_
  refine ret_leaf (.inr rfl) rfl rfl ?_
  refine congrArg (fun b => V.w (.bool b)) ?_
  rfl

theorem add_tmod_r {k n : Int} (h0 : 0 ≤ k) (h1 : k < n) (hn : 0 < n) : (k + n).tmod n = k := by
  rw [Int.tmod_eq_emod_of_nonneg (by omega), Int.add_emod_right, Int.emod_eq_of_lt h0 h1]
theorem ok_turn {c : Conf} {k : Int} (h : c.ok = true) (hk : inB k 0 (c.masters.length - 1) = true) : 1 ≤ c.turn k ∧ c.turn k ≤ 16 := by
  unfold Conf.turn
  rw [h, hk]
  simp only [Bool.and_self, if_true]
  unfold Conf.ok at h
  simp only [Bool.and_eq_true, decide_eq_true_eq] at h
  obtain ⟨⟨⟨⟨h1, h2⟩, h3⟩, h4⟩, h5⟩ := h
  have hk := inB_t hk
  have hq := inB_t h2
  obtain ⟨m, hm⟩ : ∃ m, c.masters[k.toNat]? = some m := ⟨_, List.getElem?_eq_getElem (by omega)⟩
  rw [hm]
  have hmo := List.all_eq_true.1 h5 m (List.mem_of_getElem? hm)
  unfold MConf.ok at hmo
  simp only [Bool.and_eq_true] at hmo
  have hw := inB_t hmo.1
  simp only
  have hw' : m.weight = 1 ∨ m.weight = 2 ∨ m.weight = 3 ∨ m.weight = 4 := by omega
  rcases hw' with e | e | e | e <;> rw [e] <;> rw [wrap_in _ (by omega)] <;> omega
theorem wrr_ok3 {w : Wrr} {c : Conf} (h : w.ok c = true) : c.ok = true ∧ inB w.pos 0 (c.masters.length - 1) = true ∧ 0 ≤ w.credit ∧ w.credit ≤ c.turn w.pos := by
  unfold Wrr.ok at h
  simp only [Bool.and_eq_true] at h
  exact ⟨h.1.1, h.1.2, inB_t h.2⟩
theorem wrr_ok_of {w : Wrr} {c : Conf} (h1 : c.ok = true) (h2 : inB w.pos 0 (c.masters.length - 1) = true) (h3 : 0 ≤ w.credit ∧ w.credit ≤ c.turn w.pos) : w.ok c = true := by
  unfold Wrr.ok
  rw [h1, h2]
  simp only [inB, Bool.true_and, Bool.and_eq_true, decide_eq_true_eq]; exact h3
theorem back_credit {w : Wrr} {c : Conf} (h : w.ok c = true) (hlt : w.credit < c.turn w.pos) : (w.back c w.pos).credit = w.credit + 1 := by
  have h3 := wrr_ok3 h
  have ht := ok_turn h3.1 h3.2.1
  unfold Wrr.back
  rw [if_pos (by rw [h]; simp), wrap_in _ (by omega)]
  simp only
  omega
structure PickF (w : Wrr) (x : Conf) (req : List Bool) (p : Wrr × Int) : Prop where
  ok : p.1.ok x = true
  who : (p.2 = -1 ∧ req.any id = false) ∨ (0 ≤ p.2 ∧ p.2 < req.length ∧ req[p.2.toNat]? = some true ∧ p.1.pos = p.2 ∧ (p.1.back x p.2).credit = p.1.credit + 1 ∧ req.any id = true)
  keep : w.credit = 0 ∨ req[w.pos.toNat]? = some false ∨ p.2 = w.pos
theorem any_at {req : List Bool} {i : Nat} (h : req[i]? = some true) : req.any id = true := List.any_eq_true.2 ⟨true, List.mem_of_getElem? h, rfl⟩
theorem pickF {w : Wrr} {x : Conf} {req : List Bool} (h1 : w.ok x = true) (h2 : (req.length : Int) = x.masters.length) : PickF w x req (w.pick x req) := by
  obtain ⟨hc, hp, hcr0, hcr1⟩ := wrr_ok3 h1
  have hp' := inB_t hp
  have hin : ∀ k : Int, 0 ≤ k → k < req.length → inB k 0 (x.masters.length - 1) = true := fun k h3 h4 => by simp only [inB, Bool.and_eq_true, decide_eq_true_eq]; omega
  obtain ⟨b, hb⟩ : ∃ b, req[w.pos.toNat]? = some b := ⟨_, List.getElem?_eq_getElem (by omega)⟩
  have ht := ok_turn hc hp
  by_cases hs : 0 < w.credit ∧ b = true
  · obtain ⟨h3, rfl⟩ := hs
    rw [pick_stay h1 h2 h3 hb, wrap_in (w.credit - 1) (by omega)]
    have ho : Wrr.ok ⟨w.pos, w.credit - 1⟩ x = true := wrr_ok_of hc hp ⟨by simp only; omega, by simp only; omega⟩
    exact ⟨ho, .inr ⟨by simp only; omega, by simp only; omega, hb, rfl, back_credit (w := ⟨w.pos, w.credit - 1⟩) ho (by simp only; omega), any_at hb⟩, .inr (.inr rfl)⟩
  · have h3 : ¬ 0 < w.credit ∨ req[w.pos.toNat]? = some false := by
      by_cases h4 : 0 < w.credit
      · right
        rw [hb]
        cases b with
        | false => rfl
        | true => exact absurd ⟨h4, rfl⟩ hs
      · exact .inl h4
    have hk : w.credit = 0 ∨ req[w.pos.toNat]? = some false := by
      rcases h3 with h3 | h3
      · left; omega
      · exact .inr h3
    cases hf : (List.range req.length).find? (w.hit req) with
    | none =>
      rw [pick_none h1 h2 h3 hf rfl]
      refine ⟨wrr_ok_of hc hp ⟨by simp only; omega, by simp only; omega⟩, .inl ⟨rfl, ?_⟩, ?_⟩
      · rw [List.any_eq_false]
        intro y hy
        obtain ⟨k, hk2⟩ := List.mem_iff_getElem?.1 hy
        have hkl := (List.getElem?_eq_some_iff.1 hk2).1
        -- every place is met
        have hno := List.find?_eq_none.1 hf
        have : ∃ i, i < req.length ∧ (w.pos + ((i : Int) + 1)).tmod req.length = k := by
          by_cases hle : w.pos < k
          · refine ⟨(k - w.pos - 1).toNat, by omega, ?_⟩
            rw [Int.tmod_eq_of_lt (by omega) (by omega)]; omega
          · refine ⟨(k + req.length - w.pos - 1).toNat, by omega, ?_⟩
            rw [show w.pos + (((k + req.length - w.pos - 1).toNat : Int) + 1) = k + req.length by omega, add_tmod_r]
            · omega
            · omega
            · omega
        obtain ⟨i, hi, he⟩ := this
        have h5 := hno i (List.mem_range.2 hi)
        unfold Wrr.hit at h5
        rw [he] at h5
        simp only [Int.toNat_natCast, hk2, Option.getD_some] at h5
        cases y with
        | false => simp
        | true => simp at h5
      · rcases hk with h | h
        · exact .inl h
        · exact .inr (.inl h)
    | some i =>
      have hi : i < req.length := List.mem_range.1 (List.mem_of_find?_eq_some hf)
      have hhit := List.find?_some hf
      unfold Wrr.hit at hhit
      have hr0 := Int.tmod_nonneg (req.length : Int) (show 0 ≤ w.pos + ((i : Int) + 1) by omega)
      have hr1 := Int.tmod_lt_of_pos (w.pos + ((i : Int) + 1)) (show (0 : Int) < req.length by omega)
      obtain ⟨k, hk'⟩ : ∃ k, k = (w.pos + ((i : Int) + 1)).tmod req.length := ⟨_, rfl⟩
      have hpk : w.pick x req = (⟨k, IntKind.wrap .i64 (x.turn k - 1)⟩, k) := by
        unfold Wrr.pick
        rw [if_pos (by simp [h1]; omega), if_neg (by rcases h3 with h | h <;> simp [h]), hf, hk']
      rw [hpk]
      rw [← hk'] at hr0 hr1 hhit
      have hat : req[k.toNat]? = some true := by
        cases e : req[k.toNat]? with
        | none => rw [e] at hhit; cases hhit
        | some y => rw [e] at hhit; simp at hhit; rw [hhit]
      have htk := ok_turn hc (hin k hr0 hr1)
      rw [wrap_in (x.turn k - 1) (by omega)]
      have ho : Wrr.ok ⟨k, x.turn k - 1⟩ x = true := wrr_ok_of hc (hin k hr0 hr1) ⟨by simp only; omega, by simp only; omega⟩
      refine ⟨ho, .inr ⟨hr0, hr1, hat, rfl, back_credit (w := ⟨k, x.turn k - 1⟩) ho (by simp only; omega), any_at hat⟩, ?_⟩
      rcases hk with h | h
      · exact .inl h
      · exact .inr (.inl h)

theorem any_next {xs : List Bool} {i : Nat} {y : Bool} (h : xs[i]? = some y) : (xs.take (i + 1)).any id = ((xs.take i).any id || y) := by
  rw [take_get h, List.any_append]; simp
theorem any_mono {xs : List Bool} {i : Nat} (h : (xs.take i).any id = true) : (xs.take (i + 1)).any id = true := by
  rw [List.any_eq_true] at h ⊢
  obtain ⟨y, h1, h2⟩ := h
  exact ⟨y, (List.take_subset_take_left xs (Nat.le_succ i)) h1, h2⟩
theorem pick_ix {w : Wrr} {x : Conf} {req : List Bool} {p : Wrr × Int} (h : PickF w x req p) (hn : ¬ p.2 < 0) : 0 ≤ p.2 ∧ p.2 < req.length := by
  rcases h.who with ⟨h1, _⟩ | ⟨h1, h2, _⟩
  · omega
  · exact ⟨h1, h2⟩
theorem pick_wr {w : Wrr} {x : Conf} {req : List Bool} {p : Wrr × Int} (h : PickF w x req p) : IntKind.wrap .i64 (p.1.credit + 1) = p.1.credit + 1 := by
  have h3 := wrr_ok3 h.ok
  have ht := ok_turn h3.1 h3.2.1
  exact wrap_in _ (by omega)
theorem pick_ixw {w : Wrr} {x : Conf} {req : List Bool} (h : w.ok x = true) (h2 : (req.length : Int) = x.masters.length) : 0 ≤ w.pos ∧ w.pos < req.length := by
  have := inB_t (wrr_ok3 h).2.1
  omega

theorem ok_parts {c : Conf} (h : c.ok = true) : 1 ≤ c.masters.length ∧ c.masters.length ≤ 4 ∧ 1 ≤ c.quantum ∧ c.quantum ≤ 4 ∧ 1 ≤ c.maxSplit ∧ c.maxSplit ≤ 12 ∧ 0 < c.cost ∧ inB c.lockMost 1 40 = true ∧ ∀ m, m ∈ c.masters → MConf.ok c.least m = true := by
  unfold Conf.ok at h
  rw [slot_ne] at h
  simp only [Bool.and_eq_true, decide_eq_true_eq] at h
  obtain ⟨⟨⟨⟨h1, h2⟩, h3⟩, h4, h5⟩, h6⟩ := h
  have k1 := inB_t h1
  have k2 := inB_t h2
  have k3 := inB_t h3
  exact ⟨by omega, by omega, k2.1, k2.2, k3.1, k3.2, h4, h5, fun m hm => List.all_eq_true.1 h6 m hm⟩
theorem slot_is {c : Conf} (h0 : 0 < c.cost) (h : inB c.lockMost 1 40 = true) : c.slot = 2 * c.cost + c.lockMost := by
  unfold Conf.slot
  rw [if_neg (by rw [h]; simp; omega)]
theorem ok_share {c : Conf} (h : c.ok = true) : c.share = true := by
  unfold Conf.share
  rw [List.all_eq_true]
  intro m hm
  have hmo := (ok_parts h).2.2.2.2.2.2.2.2 m hm
  unfold MConf.ok at hmo
  simp only [Bool.and_eq_true] at hmo
  cases hp : m.prio with
  | false => simp
  | true =>
    have h1 := hmo.2
    rw [if_pos hp] at h1
    simp only [Bool.and_eq_true] at h1
    have := inB_t h1.1
    simp; omega
theorem caps_bd {s : Int} (hs : 0 ≤ s ∧ s ≤ 130) : ∀ (l : List MConf) (a : Int), (∀ m, m ∈ l → m.prio = true → 1 ≤ m.cap ∧ m.cap ≤ 8) → 0 ≤ a → a + 1170 * l.length ≤ 1000000 → 0 ≤ l.foldl (caps1 s) a ∧ l.foldl (caps1 s) a ≤ a + 1170 * l.length
  | [], a, _, h0, _ => by simp; omega
  | m :: l, a, hm, h0, h1 => by
    simp only [List.length_cons] at h1
    have step : 0 ≤ caps1 s a m ∧ caps1 s a m ≤ a + 1170 := by
      unfold caps1
      split
      · rename_i hp
        have hc := hm m (List.mem_cons_self ..) hp
        rw [wrap_in (m.cap + 1) (by omega)]
        have h2 : 0 ≤ (m.cap + 1) * s := Int.mul_nonneg (by omega) (by omega)
        have h3 : (m.cap + 1) * s ≤ 9 * 130 := Int.mul_le_mul (by omega) (by omega) (by omega) (by omega)
        rw [wrap_in ((m.cap + 1) * s) (by omega), wrap_in _ (by omega)]
        omega
      · omega
    have ih := caps_bd hs l (caps1 s a m) (fun m' h' => hm m' (List.mem_cons_of_mem _ h')) step.1 (by omega)
    simp only [List.foldl_cons, List.length_cons]
    omega
theorem round_bd {c : Conf} (h : c.ok = true) : ∀ (i : Nat) (a : Int), i ≤ 4 → 0 ≤ a → a ≤ 200 → 0 ≤ (List.range i).foldl (roundStep c) a ∧ (List.range i).foldl (roundStep c) a ≤ a + 2080 * i
  | 0, a, _, h0, h1 => by simp; omega
  | i + 1, a, hi, h0, h1 => by
    have ih := round_bd h i a (by omega) h0 h1
    rw [List.range_succ, List.foldl_append]
    simp only [List.foldl_cons, List.foldl_nil]
    have ht : 0 ≤ c.turn i ∧ c.turn i ≤ 16 := by
      cases hb : inB (i : Int) 0 (c.masters.length - 1) with
      | true => have := ok_turn h hb; omega
      | false => unfold Conf.turn; rw [hb]; simp
    have hs := c.slot_bd
    have h2 : 0 ≤ c.turn i * c.slot := Int.mul_nonneg (by omega) (by omega)
    have h3 : c.turn i * c.slot ≤ 16 * 130 := Int.mul_le_mul (by omega) (by omega) (by omega) (by omega)
    unfold roundStep at ih ⊢
    rw [wrap_in (c.turn i * c.slot) (by omega), wrap_in _ (by omega)]
    omega
theorem bound_eq {c : Conf} (h : c.ok = true) {n : Int} (hn0 : 1 ≤ n) (hn1 : n ≤ 8) : 0 ≤ c.round ∧ c.round ≤ 10000 ∧ 0 ≤ c.caps ∧ c.caps ≤ 4680 ∧ c.bound n = 2 * (n * (2 * c.round + c.maxSplit + c.cost) + c.caps) + 2 * c.slot + 10 := by
  obtain ⟨p1, p2, p3, p4, p5, p6, p7, p8, p9⟩ := ok_parts h
  have hs := c.slot_bd
  have hco := c.cost_bd
  have hl4 : c.masters.length = 1 ∨ c.masters.length = 2 ∨ c.masters.length = 3 ∨ c.masters.length = 4 := by omega
  have hcl : 0 ≤ c.cost * (c.masters.length : Int) ∧ c.cost * (c.masters.length : Int) ≤ 180 := by rcases hl4 with e | e | e | e <;> rw [e] <;> omega
  have hr : 0 ≤ c.round ∧ c.round ≤ 10000 := by
    unfold Conf.round
    rw [if_pos h, wrap_in _ (by omega)]
    have := round_bd h c.masters.length (c.cost * c.masters.length) (by omega) (by omega) (by omega)
    omega
  have hk : 0 ≤ c.caps ∧ c.caps ≤ 4680 := by
    unfold Conf.caps
    have := caps_bd hs c.masters 0 (fun m hm hp => by
      have hmo := p9 m hm
      unfold MConf.ok at hmo
      simp only [Bool.and_eq_true] at hmo
      have h1 := hmo.2
      rw [if_pos hp] at h1
      simp only [Bool.and_eq_true] at h1
      exact inB_t h1.2) (by omega) (by omega)
    omega
  refine ⟨hr.1, hr.2, hk.1, hk.2, ?_⟩
  unfold Conf.bound
  have hb : inB n 1 8 = true := by simp only [inB, Bool.and_eq_true, decide_eq_true_eq]; omega
  rw [h, hb]
  simp only [Bool.and_self, if_true]
  rw [wrap_in (2 * c.round) (by omega), wrap_in (2 * c.round + c.maxSplit) (by omega), wrap_in (2 * c.round + c.maxSplit + c.cost) (by omega), wrap_in (2 * c.slot) (by omega)]
  have hn8 : n = 1 ∨ n = 2 ∨ n = 3 ∨ n = 4 ∨ n = 5 ∨ n = 6 ∨ n = 7 ∨ n = 8 := by omega
  rcases hn8 with e | e | e | e | e | e | e | e <;> subst e <;> rw [wrap_in (_ * (2 * c.round + c.maxSplit + c.cost)) (by omega), wrap_in (_ * (2 * c.round + c.maxSplit + c.cost) + c.caps) (by omega), wrap_in (2 * _) (by omega), wrap_in (2 * _ + 2 * c.slot) (by omega), wrap_in _ (by omega)]
structure ShareF (c : Conf) (n : Int) : Prop where
  share : c.share = true
  sum : IntKind.wrap .i64 (c.round + c.slot) = c.round + c.slot
  big : c.round + c.slot < c.bound n
  grow : n ≠ 8 → c.bound n < c.bound (n + 1)
  slot : c.cost < c.slot
theorem shareF {c : Conf} (h : c.ok = true) {n : Int} (hn0 : ¬ n < 1) (hn1 : ¬ 8 < n) : ShareF c n := by
  obtain ⟨p1, p2, p3, p4, p5, p6, p7, p8, p9⟩ := ok_parts h
  obtain ⟨q1, q2, q3, q4, q5⟩ := bound_eq h (n := n) (by omega) (by omega)
  have hs := c.slot_bd
  have hsl := slot_is p7 p8
  have hlk := inB_t p8
  refine ⟨ok_share h, wrap_in _ (by omega), ?_, fun hn => ?_, by omega⟩
  · rw [q5]
    have hn8 : n = 1 ∨ n = 2 ∨ n = 3 ∨ n = 4 ∨ n = 5 ∨ n = 6 ∨ n = 7 ∨ n = 8 := by omega
    rcases hn8 with e | e | e | e | e | e | e | e <;> subst e <;> omega
  · obtain ⟨_, _, _, _, r5⟩ := bound_eq h (n := n + 1) (by omega) (by omega)
    rw [q5, r5, Int.add_mul]
    omega
theorem bound_no {c : Conf} {n : Int} (h : c.ok = false ∨ n < 1 ∨ 8 < n) : c.bound n = 0 := by
  unfold Conf.bound
  rw [if_neg]
  simp only [Bool.and_eq_true]
  rintro ⟨h1, h2⟩
  have := inB_t h2
  rcases h with h | h | h
  · rw [h] at h1; cases h1
  · omega
  · omega

def Bucket.ok (b : Bucket) (m : MConf) : Bool := if m.prio then inB b.tokens 0 m.cap && decide (0 ≤ b.count) && decide (b.count < m.every) else decide (b.tokens = 0) && decide (b.count = 0)
def MConf.tiny (m : MConf) : Prop := 0 ≤ m.every ∧ m.every ≤ 6 ∧ 0 ≤ m.cap ∧ m.cap ≤ 4 ∧ (m.prio = true → 1 ≤ m.every)
def MConf.newB (m : MConf) : Bucket := if m.prio then ⟨max 0 m.cap, 0⟩ else ⟨0, 0⟩
def Bucket.tick (b : Bucket) (m : MConf) : Bucket := if m.prio && b.ok m then (if b.count + 1 = m.every then ⟨min m.cap (b.tokens + 1), 0⟩ else ⟨b.tokens, b.count + 1⟩) else b
def Bucket.take (b : Bucket) (m : MConf) : Bucket × Bool := if m.prio && b.ok m && decide (b.tokens ≠ 0) then (⟨b.tokens - 1, b.count⟩, true) else (b, false)
def Bucket.back (b : Bucket) (m : MConf) : Bucket := if m.prio && b.ok m && decide (b.tokens < m.cap) then ⟨b.tokens + 1, b.count⟩ else b
def MConf.most (m : MConf) (n : Int) : Int := if m.prio = true ∧ 1 ≤ m.every ∧ 0 ≤ m.cap ∧ inB n 0 4000 = true then m.cap + n.tdiv m.every + 1 else 0
theorem bk_p {b : Bucket} {m : MConf} (hp : m.prio = true) (h : b.ok m = true) : 0 ≤ b.tokens ∧ b.tokens ≤ m.cap ∧ 0 ≤ b.count ∧ b.count < m.every := by
  unfold Bucket.ok at h
  rw [if_pos hp] at h
  simp only [Bool.and_eq_true, decide_eq_true_eq] at h
  have := inB_t h.1.1
  exact ⟨this.1, this.2, h.1.2, h.2⟩
theorem bk_of {b : Bucket} {m : MConf} (hp : m.prio = true) (h : 0 ≤ b.tokens ∧ b.tokens ≤ m.cap ∧ 0 ≤ b.count ∧ b.count < m.every) : b.ok m = true := by
  unfold Bucket.ok
  rw [if_pos hp]
  simp only [inB, Bool.and_eq_true, decide_eq_true_eq]; omega
theorem bk_n {b : Bucket} {m : MConf} (hp : m.prio = false) : b.ok m = (decide (b.tokens = 0) && decide (b.count = 0)) := by
  unfold Bucket.ok; rw [if_neg (by rw [hp]; decide)]

theorem tick_no {b : Bucket} {m : MConf} (h : m.prio = false ∨ b.ok m = false) : b.tick m = b := by
  unfold Bucket.tick
  rw [if_neg]
  simp only [Bool.and_eq_true]
  rintro ⟨h1, h2⟩
  rcases h with h | h
  · rw [h] at h1; cases h1
  · rw [h] at h2; cases h2
theorem tick_turn {b : Bucket} {m : MConf} (hp : m.prio = true) (ho : b.ok m = true) (h : b.count + 1 = m.every) : b.tick m = ⟨min m.cap (b.tokens + 1), 0⟩ := by
  unfold Bucket.tick; rw [if_pos (by rw [hp, ho]; rfl), if_pos h]
theorem tick_next {b : Bucket} {m : MConf} (hp : m.prio = true) (ho : b.ok m = true) (h : ¬ b.count + 1 = m.every) : b.tick m = ⟨b.tokens, b.count + 1⟩ := by
  unfold Bucket.tick; rw [if_pos (by rw [hp, ho]; rfl), if_neg h]
theorem kept_t {b : Bucket} {m : MConf} (h : (m.prio && b.ok m) = true) : m.prio = true ∧ b.ok m = true := by simpa using h
theorem kept_f {b : Bucket} {m : MConf} (h : (m.prio && b.ok m) = false) : m.prio = false ∨ b.ok m = false := by
  cases e : m.prio with
  | false => exact .inl rfl
  | true => rw [e] at h; exact .inr (by simpa using h)
theorem take_no {b : Bucket} {m : MConf} (h : m.prio = false ∨ b.ok m = false ∨ b.tokens = 0) : b.take m = (b, false) := by
  unfold Bucket.take
  rw [if_neg]
  simp only [Bool.and_eq_true, decide_eq_true_eq]
  rintro ⟨⟨h1, h2⟩, h3⟩
  rcases h with h | h | h
  · rw [h] at h1; cases h1
  · rw [h] at h2; cases h2
  · exact h3 h
theorem take_is {b : Bucket} {m : MConf} (hp : m.prio = true) (ho : b.ok m = true) (h : ¬ b.tokens = 0) : b.take m = (⟨b.tokens - 1, b.count⟩, true) := by
  unfold Bucket.take; rw [if_pos (by simp [hp, ho, h])]
theorem back_no {b : Bucket} {m : MConf} (h : m.prio = false ∨ b.ok m = false ∨ ¬ b.tokens < m.cap) : b.back m = b := by
  unfold Bucket.back
  rw [if_neg]
  simp only [Bool.and_eq_true, decide_eq_true_eq]
  rintro ⟨⟨h1, h2⟩, h3⟩
  rcases h with h | h | h
  · rw [h] at h1; cases h1
  · rw [h] at h2; cases h2
  · exact h h3
theorem back_is {b : Bucket} {m : MConf} (hp : m.prio = true) (ho : b.ok m = true) (h : b.tokens < m.cap) : b.back m = ⟨b.tokens + 1, b.count⟩ := by
  unfold Bucket.back; rw [if_pos (by simp [hp, ho, h])]
def tupB (p : Bucket × Bool) : V := .tup [.agg p.1.r, .w (.bool p.2)]
theorem min_sw (a b : Int) : min a b = min b a := Int.min_comm a b

theorem most_no {m : MConf} {n : Int} (h : m.prio = false ∨ m.every < 1 ∨ m.cap < 0 ∨ inB n 0 4000 = false) : m.most n = 0 := by
  unfold MConf.most
  rw [if_neg]
  rintro ⟨h1, h2, h3, h4⟩
  rcases h with h | h | h | h
  · rw [h] at h1; cases h1
  · omega
  · omega
  · rw [h] at h4; cases h4
theorem most_is {m : MConf} {n : Int} (h1 : m.prio = true) (h2 : ¬ m.every < 1) (h3 : ¬ m.cap < 0) (h4 : inB n 0 4000 = true) : m.most n = m.cap + n.tdiv m.every + 1 := by
  unfold MConf.most
  rw [if_pos ⟨h1, by omega, by omega, h4⟩]
theorem tdiv_bd {n k : Int} (hn : 0 ≤ n ∧ n ≤ 4000) (hk : 1 ≤ k) : 0 ≤ n.tdiv k ∧ n.tdiv k ≤ 4000 := by
  have h1 : 0 ≤ n.tdiv k := Int.tdiv_nonneg hn.1 (by omega)
  have h2 : n.tdiv k ≤ n := by rw [Int.tdiv_eq_ediv_of_nonneg hn.1]; exact Int.ediv_le_self _ hn.1
  omega

structure BInv (m : MConf) (c0 i : Int) (b : Bucket) (t R : Int) : Prop where
  ok : b.ok m = true
  p : m.prio = true → 0 ≤ R ∧ b.count + m.every * R = c0 + i ∧ b.tokens + t ≤ m.cap + R
  np : m.prio = false → t = 0
  t : 0 ≤ t ∧ t ≤ i
theorem tick_ok {b : Bucket} {m : MConf} (h : b.ok m = true) (ht : m.tiny) : (b.tick m).ok m = true := by
  unfold MConf.tiny at ht
  cases hp : m.prio with
  | false => rw [tick_no (.inl hp)]; exact h
  | true =>
    have hb := bk_p hp h
    by_cases hc : b.count + 1 = m.every
    · rw [tick_turn hp h hc]; exact bk_of hp ⟨by simp only; omega, by simp only; omega, by simp only; omega, by simp only; omega⟩
    · rw [tick_next hp h hc]; exact bk_of hp ⟨by simp only; omega, by simp only; omega, by simp only; omega, by simp only; omega⟩
theorem bi_tick {m : MConf} {c0 i : Int} {b : Bucket} {t R : Int} (ht : m.tiny) (h : BInv m c0 i b t R) : ∃ R1, BInv m c0 (i + 1) (b.tick m) t R1 := by
  have ht' := ht
  unfold MConf.tiny at ht'
  have h4 := h.t
  cases hp : m.prio with
  | false => exact ⟨0, tick_ok h.ok ht, (fun e => by rw [hp] at e; cases e), h.np, by omega⟩
  | true =>
    have hb := bk_p hp h.ok
    obtain ⟨p1, p2, p3⟩ := h.p hp
    by_cases hc : b.count + 1 = m.every
    · refine ⟨R + 1, tick_ok h.ok ht, fun _ => ?_, h.np, by omega⟩
      rw [tick_turn hp h.ok hc, Int.mul_add]
      simp only
      omega
    · refine ⟨R, tick_ok h.ok ht, fun _ => ?_, h.np, by omega⟩
      rw [tick_next hp h.ok hc]
      simp only
      omega
theorem bi_take {m : MConf} {c0 i : Int} {b : Bucket} {t R : Int} (h : BInv m c0 i b t R) (hi : t < i) (hk : (b.take m).2 = true) : BInv m c0 i (b.take m).1 (t + 1) R := by
  have h4 := h.t
  cases hp : m.prio with
  | false => rw [take_no (.inl hp)] at hk; cases hk
  | true =>
    have hb := bk_p hp h.ok
    obtain ⟨p1, p2, p3⟩ := h.p hp
    by_cases hz : b.tokens = 0
    · rw [take_no (.inr (.inr hz))] at hk; cases hk
    · rw [take_is hp h.ok hz]
      exact ⟨bk_of hp ⟨by simp only; omega, by simp only; omega, by simp only; omega, by simp only; omega⟩, fun _ => ⟨p1, p2, by simp only; omega⟩, (fun e => by rw [hp] at e; cases e), by omega⟩
theorem take_f {b : Bucket} {m : MConf} (hk : (b.take m).2 = false) : (b.take m).1 = b := by
  unfold Bucket.take at hk ⊢
  split at hk
  · cases hk
  · rename_i h; rw [if_neg h]
theorem bi_takef {m : MConf} {c0 i : Int} {b : Bucket} {t R : Int} (h : BInv m c0 i b t R) (hk : (b.take m).2 = false) : BInv m c0 i (b.take m).1 t R := by rw [take_f hk]; exact h
theorem take_says {b : Bucket} {m : MConf} (h : b.ok m = true) : (b.take m).2 = (m.prio && decide (0 < b.tokens)) := by
  cases hp : m.prio with
  | false => rw [take_no (.inl hp)]; rfl
  | true =>
    have hb := bk_p hp h
    by_cases hz : b.tokens = 0
    · rw [take_no (.inr (.inr hz)), hz]; rfl
    · rw [take_is hp h hz]; simp; omega
theorem take_ok {b : Bucket} {m : MConf} (h : b.ok m = true) : (b.take m).1.ok m = true := by
  cases hp : m.prio with
  | false => rw [take_no (.inl hp)]; exact h
  | true =>
    have hb := bk_p hp h
    by_cases hz : b.tokens = 0
    · rw [take_no (.inr (.inr hz))]; exact h
    · rw [take_is hp h hz]; exact bk_of hp ⟨by simp only; omega, by simp only; omega, by simp only; omega, by simp only; omega⟩
theorem take_back {b : Bucket} {m : MConf} (h : b.ok m = true) (hk : (b.take m).2 = true) : ((b.take m).1.back m).tokens = b.tokens := by
  have hok := take_ok h
  cases hp : m.prio with
  | false => rw [take_no (.inl hp)] at hk; cases hk
  | true =>
    have hb := bk_p hp h
    by_cases hz : b.tokens = 0
    · rw [take_no (.inr (.inr hz))] at hk; cases hk
    · rw [take_is hp h hz] at hok ⊢
      rw [back_is hp hok (by simp only; omega)]; simp only; omega
theorem bi_end {m : MConf} {b0 : Bucket} {n i : Int} {b : Bucket} {t R : Int} (ht : m.tiny) (h0 : b0.ok m = true) (hn : n < 60) (h : BInv m b0.count i b t R) (hi : i = n ∨ (i = 0 ∧ n < 0)) : t ≤ m.most n := by
  unfold MConf.tiny at ht
  have h4 := h.t
  cases hp : m.prio with
  | false => rw [h.np hp, most_no (.inl hp)]; omega
  | true =>
    have hb0 := bk_p hp h0
    have hb := bk_p hp h.ok
    obtain ⟨p1, p2, p3⟩ := h.p hp
    have he := ht.2.2.2.2 hp
    rcases hi with rfl | ⟨rfl, hneg⟩
    · rcases Int.lt_or_le i 0 with hneg | hpos
      · omega
      · rw [most_is hp (by omega) (by omega) (by simp only [inB, Bool.and_eq_true, decide_eq_true_eq]; omega), Int.tdiv_eq_ediv_of_nonneg hpos]
        have h6 : m.every = 1 ∨ m.every = 2 ∨ m.every = 3 ∨ m.every = 4 ∨ m.every = 5 ∨ m.every = 6 := by omega
        rcases h6 with e | e | e | e | e | e <;> rw [e] at p2 hb hb0 ⊢ <;> omega
    · rw [most_no (.inr (.inr (.inr (by simp [inB]; omega))))]; omega
theorem new_ok {m : MConf} (ht : m.tiny) : (m.newB).ok m = true := by
  unfold MConf.tiny at ht
  unfold MConf.newB
  split
  · rename_i hp
    have := ht.2.2.2.2 hp
    exact bk_of hp ⟨by simp only; omega, by simp only; omega, by simp only; omega, by simp only; omega⟩
  · rename_i hp
    rw [bk_n (by simpa using hp)]; rfl
theorem tmod60 (v : Int) : v.tmod 60 < 60 := Int.tmod_lt_of_pos _ (by omega)

theorem req5 {z : Int} (h : z = 2 ∨ z = 2 ∨ z = 2 ∨ z = 0 ∨ z = 1) : bytes z = 1 ∨ bytes z = 2 ∨ bytes z = 4 := bytes_pos (by rcases h with h | h | h | h | h <;> subst h <;> rfl)
theorem limit_pos {z : Int} (h : z = 2 ∨ z = 2 ∨ z = 2 ∨ z = 0 ∨ z = 1) : 0 < limit z := by rcases h with h | h | h | h | h <;> subst h <;> decide

theorem cg_237 (code : List Int) (hc : code.length ≤ 1048576) (i h : Int) (hi : 0 ≤ i ∧ i ≤ code.length) : GV prg 237 [cur code i h] [.cp 0 0] (fun u L1 => (∃ x, u = .w (.int .i64 x) ∧ -1 ≤ x ∧ x ≤ 4) ∧ ∃ (i h : Int), (0 ≤ i ∧ i ≤ code.length) ∧ L1 = [cur code i h]) := by
  refine gv_in g237 ?_
  refine s_keep [0] rfl ?_
  refine S_seq ?_
  refine s_rg ?_
  refine s_op (o_mv rfl) ?_
  refine s_nilO ?_
  refine q_seqN ?_
  refine s_keep [0] rfl ?_
  refine S_seq ?_
  refine s_rg ?_
  refine s_op (o_mv rfl) ?_
  refine s_callG [0] rfl rfl rfl rfl (by simp) (.inl rfl) (cg_228 _ hc _ _ hi _) ?_
  rintro u L1 ⟨⟨x, rfl, hx⟩, i, h, hi, rfl⟩
  refine ⟨_, _, rfl, rfl, ?_⟩
  first | refine s_op (o_subn rfl rfl (by omega)) ?_ | refine s_op (o_sub rfl rfl) ?_
  refine s_op (o_mv rfl) ?_
  refine s_nilO ?_
  refine q_seqN ?_
  refine s_keep [2] rfl ?_
  refine s_ret ?_
  refine retG_leaf [] (.inr rfl) rfl rfl rfl rfl (show (List.range 1 ++ []).Nodup by decide) ?_
  exact ⟨⟨_, rfl, by omega⟩, _, _, (by omega), rfl⟩

theorem cg_241 (code : List Int) (hc : code.length ≤ 1048576) (i h : Int) (hi : 0 ≤ i ∧ i ≤ code.length) : GV prg 241 [cur code i h] [.cp 0 0] (fun u L1 => (∃ x : Req, u = .agg x.r ∧ x.data.length ≤ 8) ∧ ∃ (i h : Int), (0 ≤ i ∧ i ≤ code.length) ∧ L1 = [cur code i h]) := by
  refine gv_inF g241 ?_
  refine s_keep [0] rfl ?_
  refine S_seq ?_
  refine s_rg ?_
  refine s_op (o_new rfl rfl) ?_
  refine s_nilO ?_
  refine q_seqN ?_
  refine s_keep [0, 2] rfl ?_
  refine S_seq ?_
  refine s_rg ?_
  refine s_op (o_mv rfl) ?_
  refine s_callG [0] rfl rfl rfl rfl (by simp) (.inl rfl) (cg_233 _ hc _ _ hi _) ?_
  rintro u L1 ⟨⟨wr, rfl⟩, i, h, hi, rfl⟩
  refine ⟨_, _, rfl, rfl, ?_⟩
  refine s_op (o_mv rfl) ?_
  refine s_op (o_bs rfl rfl rfl rfl) ?_
  refine s_callG [0, 2] rfl rfl rfl rfl (by simp) (.inl rfl) (cg_234 _ hc _ _ hi _ _ rfl (by simp) (by simp)) ?_
  rintro u L1 ⟨⟨z, rfl, hz⟩, i, h, hi, rfl⟩
  refine ⟨_, _, rfl, rfl, ?_⟩
  try simp only [List.mem_cons, List.not_mem_nil, or_false] at hz
  have hbz := req5 hz
  have hlz := limit_pos hz
  refine s_op (o_mv rfl) ?_
  refine s_op (o_bs rfl rfl rfl rfl) ?_
  refine s_callG [0, 3] rfl rfl rfl rfl (by simp) (.inl rfl) (cg_234 _ hc _ _ hi _ _ rfl (by simp) (by simp)) ?_
  rintro u L1 ⟨⟨bu, rfl, hbu⟩, i, h, hi, rfl⟩
  refine ⟨_, _, rfl, rfl, ?_⟩
  try simp only [List.mem_cons, List.not_mem_nil, or_false] at hbu
  refine s_op (o_mv rfl) ?_
  refine s_callG [0] rfl rfl rfl rfl (by simp) (.inl rfl) (cg_233 _ hc _ _ hi _) ?_
  rintro u L1 ⟨⟨lk, rfl⟩, i, h, hi, rfl⟩
  refine ⟨_, _, rfl, rfl, ?_⟩
  refine s_op (o_bd rfl rfl) ?_
  refine s_op (o_new rfl rfl) ?_
  refine s_opN (o_stnC rfl rfl rfl rfl rfl rfl rfl) ?_
  refine s_nilO ?_
  refine q_seqN ?_
  refine s_keep [0, 2, 3] rfl ?_
  refine S_seq ?_
  refine s_rg ?_
  refine s_op (o_faC rfl) ?_
  refine s_op (o_ldC rfl rfl rfl) ?_
  first | refine s_call rfl rfl (c_183 _) ?_ | refine s_callL rfl rfl (by simp) (c_183 _) rfl ?_
  refine s_op (o_mv rfl) ?_
  refine s_nilO ?_
  refine q_seqN ?_
  refine s_keep [0, 2, 3, 4] rfl ?_
  refine S_seq ?_
  refine s_rg ?_
  refine s_op (o_mv rfl) ?_
  refine s_op (o_mv rfl) ?_
  refine s_callG [0] rfl rfl rfl rfl (by simp) (.inl rfl) (cg_228 _ hc _ _ hi _) ?_
  rintro u L1 ⟨⟨a1, rfl, ha1⟩, i, h, hi, rfl⟩
  refine ⟨_, _, rfl, rfl, ?_⟩
  refine s_op (o_mv rfl) ?_
  refine s_callG [0] rfl rfl rfl rfl (by simp) (.inl rfl) (cg_228 _ hc _ _ hi _) ?_
  rintro u L1 ⟨⟨a2, rfl, ha2⟩, i, h, hi, rfl⟩
  refine ⟨_, _, rfl, rfl, ?_⟩
  refine s_op (o_mv rfl) ?_
  refine s_callG [0] rfl rfl rfl rfl (by simp) (.inl rfl) (cg_228 _ hc _ _ hi _) ?_
  rintro u L1 ⟨⟨a3, rfl, ha3⟩, i, h, hi, rfl⟩
  refine ⟨_, _, rfl, rfl, ?_⟩
  first | refine s_op (o_addn rfl rfl (by omega)) ?_ | refine s_op (o_add rfl rfl) ?_
  refine s_op (o_mv rfl) ?_
  refine s_callG [0] rfl rfl rfl rfl (by simp) (.inl rfl) (cg_228 _ hc _ _ hi _) ?_
  rintro u L1 ⟨⟨a4, rfl, ha4⟩, i, h, hi, rfl⟩
  refine ⟨_, _, rfl, rfl, ?_⟩
  first | refine s_op (o_addn rfl rfl (by omega)) ?_ | refine s_op (o_add rfl rfl) ?_
  refine s_op (o_mv rfl) ?_
  refine s_callG [0] rfl rfl rfl rfl (by simp) (.inl rfl) (cg_228 _ hc _ _ hi _) ?_
  rintro u L1 ⟨⟨a5, rfl, ha5⟩, i, h, hi, rfl⟩
  refine ⟨_, _, rfl, rfl, ?_⟩
  refine s_op (o_bs rfl rfl rfl rfl) ?_
  refine s_keepO (is := [0, 2, 3, 4, 20, 33]) rfl ?_
  refine s_callG [0, 5] rfl rfl rfl rfl (by simp) (.inl rfl) (cg_234 _ hc _ _ hi _ _ rfl (by simp) (by simp)) ?_
  rintro u L1 ⟨⟨av, rfl, hav⟩, i, h, hi, rfl⟩
  refine ⟨_, _, rfl, rfl, ?_⟩
  try simp only [List.mem_cons, List.not_mem_nil, or_false] at hav
  refine s_op (o_mv rfl) ?_
  first | refine s_op (o_quo rfl rfl (by decide)) ?_ | refine s_op (o_quo rfl rfl (by omega)) ?_
  refine s_op (o_mv rfl) ?_
  refine s_op (o_mul rfl rfl) ?_
  refine s_op (o_faC rfl) ?_
  refine s_opN (o_stC rfl rfl rfl rfl rfl rfl) ?_
  refine s_nilO ?_
  refine q_seqN ?_
  refine s_keep [0, 2, 3] rfl ?_
  refine S_seq ?_
  refine S_seq ?_
  refine s_rg ?_
  refine s_op (o_faC rfl) ?_
  refine s_op (o_ldC rfl rfl rfl) ?_
  refine s_op (o_faC rfl) ?_
  refine s_op (o_ldC rfl rfl rfl) ?_
  refine s_op (o_faC rfl) ?_
  refine s_op (o_ldC rfl rfl rfl) ?_
  first | refine s_call rfl rfl (c_180 _ _ _) ?_ | refine s_callL rfl rfl (by simp) (c_180 _ _ _) rfl ?_
  refine s_op (o_not rfl) ?_
  refine s_nilO ?_
  refine q_seqN ?_
  refine s_keep [0, 2, 3, 47] rfl ?_
  first | refine s_condD rfl ?_ ?_ | refine s_condN rfl ?_ ?_ | refine s_condNB rfl ?_ ?_ | refine s_condB rfl ?_ ?_
  · intro h1
    try rw [Decidable.not_not] at h1
    refine s_rg ?_
    refine s_op (o_faC rfl) ?_
    refine s_opN (o_stC rfl rfl rfl rfl rfl rfl) ?_
    refine s_nilO ?_
    refine q_seqN ?_
    refine s_keep [0, 2, 3] rfl ?_
    refine S_seq ?_
    refine S_seq ?_
    refine s_rg ?_
    refine s_op (o_mv rfl) ?_
    refine s_nilO ?_
    refine q_seqN ?_
    refine s_keep [0, 2, 3, 5] rfl ?_
    refine S_block ?_
    refine s_nilC 4 5 1 rfl rfl rfl rfl rfl ?_
    refine S_loop (ι := (Int × List Int × Int × Int × Int)) (fun p => 0 ≤ p.1 ∧ (p.2.1.length : Int) = p.1 ∧ p.1 ≤ 8 ∧ 0 ≤ p.2.2.2.1 ∧ p.2.2.2.1 ≤ code.length) (fun p => [(5, .w (.int .i64 p.1))]) (fun p => [cur code p.2.2.2.1 p.2.2.2.2, .cell [.w (.bool false), .w (.int .i64 0), .w (.int .i64 0), .w (.int .i64 0), .w (.bool false), .w (.slice none 0 0)], .arr 1 [[.w (.int .i64 2)], [.w (.int .i64 2)], [.w (.int .i64 2)], [.w (.int .i64 0)], [.w (.int .i64 1)]], .arr 1 [[.w (.int .i64 0)], [.w (.int .i64 0)], [.w (.int .i64 1)], [.w (.int .i64 2)], [.w (.int .i64 3)]], .cell [.w (.bool wr), .w (.int .i64 (IntKind.wrap .i64 (IntKind.wrap .i64 (av.tdiv (bytes z)) * bytes z))), .w (.int .i64 z), .w (.int .i64 p.2.2.1), .w (.bool lk), .ls 6 (p.2.1.map iR).length], .arr 1 [[.w (.int .i64 a1)], [.w (.int .i64 a2)], [.w (.int .i64 (128 + a3))], [.w (.int .i64 (192 + a4))], [.w (.int .i64 a5)]], .arr 1 (p.2.1.map iR)]) (fun p => (8 - p.1).toNat) 7 (0, [], _, i, h) ⟨by simp only; omega, rfl, by simp only; omega, hi⟩ rfl (hasOf ⟨rfl, trivial⟩ rfl) rfl (fun _ _ => rfl) (fun _ _ => ⟨rfl, rfl⟩) ?_
    rintro ⟨n, xs, bu, i, h⟩ hp
    obtain ⟨hn0, hn1, hn2, hi⟩ := hp
    simp only at hn0 hn1 hn2 hi
    have hbb := beats_bd bu
    have hml : (xs.map iR).length = xs.length := List.length_map ..
    refine s_keep [0, 2, 3, 5] rfl ?_
    dsimp only
    refine S_seq ?_
    refine S_seq ?_
    refine s_rg ?_
    refine s_op (o_mv rfl) ?_
    refine s_op (o_faC rfl) ?_
    refine s_op (o_ldC rfl rfl rfl) ?_
    first | refine s_call rfl rfl (c_173 _) ?_ | refine s_callL rfl rfl (by simp) (c_173 _) rfl ?_
    first | refine s_op (o_lss rfl rfl) ?_ | refine s_op (o_bin rfl rfl rfl rfl) ?_
    refine s_op (o_mv rfl) ?_
    first | refine s_gDT rfl ?_ ?_ | refine s_gNDT rfl ?_ ?_ | refine s_gNT rfl ?_ ?_ | refine s_gB rfl ?_ ?_
    · intro h2
      try rw [Decidable.not_not] at h2
      refine s_op (o_faC rfl) ?_
      refine s_gT rfl ?_
      refine s_op (o_ldC rfl rfl rfl) ?_
      refine s_op (o_pickT rfl rfl) ?_
      refine s_nilO ?_
      refine q_seqN ?_
      refine s_keep [0, 2, 3, 5, 55, 56, 57] rfl ?_
      first | refine s_condD rfl ?_ ?_ | refine s_condN rfl ?_ ?_ | refine s_condNB rfl ?_ ?_ | refine s_condB rfl ?_ ?_
      · intro h3
        try rw [Decidable.not_not] at h3
        refine s_skip ?_
        refine q_seqN ?_
        refine s_keep [0, 2, 3, 5, 55, 56] rfl ?_
        refine S_seq ?_
        refine S_block ?_
        refine s_rgH [0] rfl ?_
        refine h_op (o_faC rfl) rfl ?_
        refine h_op (o_ldC rfl rfl rfl) rfl ?_
        refine h_op (o_mv rfl) rfl ?_
        refine h_op (o_mv rfl) rfl ?_
        refine h_op (o_faC rfl) rfl ?_
        refine h_op (o_ldC rfl rfl rfl) rfl ?_
        first | refine h_call rfl rfl (c_201 _) rfl ?_ | refine h_callL rfl rfl (by simp) (c_201 _) rfl rfl ?_
        refine h_op (o_mn rfl) rfl ?_
        refine h_op (o_faC rfl) rfl ?_
        refine h_op (o_ldC rfl rfl rfl) rfl ?_
        first | refine h_call rfl rfl (c_201 _) rfl ?_ | refine h_callL rfl rfl (by simp) (c_201 _) rfl rfl ?_
        refine h_op (o_bs rfl rfl rfl rfl) rfl ?_
        refine h_callG [0] [7] rfl rfl rfl rfl rfl rfl (by simp) rfl (cg_234 _ hc _ _ hi _ _ rfl (by simp) (by simp)) (words_iR _ _ rfl) ?_
        rintro u L1 ⟨⟨w0, rfl, hw0⟩, i, h, hi, rfl⟩
        refine ⟨rfl, _, _, _, _, rfl, rfl, rfl, rfl, ?_⟩
        try simp only [List.mem_cons, List.not_mem_nil, or_false] at hw0
        refine h_callG [0] [] rfl rfl rfl rfl rfl rfl (by simp) rfl (cg_228 _ hc _ _ hi _) (by simp) ?_
        rintro u L1 ⟨⟨v, rfl, hv⟩, i, h, hi, rfl⟩
        refine ⟨rfl, _, _, _, _, rfl, rfl, rfl, rfl, ?_⟩
        refine h_op (o_bs rfl rfl rfl rfl) rfl ?_
        refine h_bar rfl ?_
        refine s_keepO (is := [0, 2, 3, 5, 55, 56, 61, 74]) rfl ?_
        first | refine s_op (o_appL rfl rfl rfl rfl rfl rfl rfl (by simp [roomy]; omega)) ?_ | refine s_op (o_app rfl rfl rfl rfl rfl (by simp [roomy]; omega)) ?_
        refine s_op (o_faC rfl) ?_
        refine s_opN (o_stC rfl rfl rfl rfl rfl rfl) ?_
        refine s_nilO ?_
        refine q_blkN ?_
        refine q_seqN ?_
        refine s_keep [0, 2, 3, 5, 55, 56] rfl ?_
        refine s_rg ?_
        refine s_op (o_mv rfl) ?_
        first | refine s_op (o_addn rfl rfl (by omega)) ?_ | refine s_op (o_add rfl rfl) ?_
        refine s_op (o_mv rfl) ?_
        refine s_nilO ?_
        refine q_loopN ?_
        refine ⟨(n + 1, xs ++ [v], bu, i, h), ⟨by simp only; omega, by simp only [List.length_append, List.length_cons, List.length_nil]; omega, by simp only; omega, hi⟩, by simp only; omega, hasOf ⟨rfl, trivial⟩ ?_⟩
        simp only [List.map_append]; rfl
      · intro h3
        try rw [Decidable.not_not] at h3
        refine s_exit ?_
        refine q_seqX ?_
        refine q_loopX ?_
        refine q_blkH ?_
        refine q_seqN ?_
        refine s_keep [2, 3] rfl ?_
        refine S_seq ?_
        refine s_rg ?_
        refine s_op (o_ldnC rfl rfl rfl) ?_
        refine s_opN (o_stnC rfl rfl rfl rfl rfl rfl rfl) ?_
        refine s_nilO ?_
        refine q_seqN ?_
        refine s_keep [2] rfl ?_
        refine s_ret ?_
        refine retF_leaf (.inr rfl) rfl rfl (by simp) rfl ?_
        exact ⟨⟨⟨wr, _, z, bu, lk, xs⟩, rfl, by simp only; omega⟩, _, _, (by omega), rfl⟩
    · intro h2
      try rw [Decidable.not_not] at h2
      refine s_gF rfl ?_
      refine s_gF rfl ?_
      refine s_op (o_pickF rfl rfl) ?_
      refine s_nilO ?_
      refine q_seqN ?_
      refine s_keep [0, 2, 3, 5, 55, 56, 57] rfl ?_
      refine s_condF rfl ?_
      refine s_exit ?_
      refine q_seqX ?_
      refine q_loopX ?_
      refine q_blkH ?_
      refine q_seqN ?_
      refine s_keep [2, 3] rfl ?_
      refine S_seq ?_
      refine s_rg ?_
      refine s_op (o_ldnC rfl rfl rfl) ?_
      refine s_opN (o_stnC rfl rfl rfl rfl rfl rfl rfl) ?_
      refine s_nilO ?_
      refine q_seqN ?_
      refine s_keep [2] rfl ?_
      refine s_ret ?_
      refine retF_leaf (.inr rfl) rfl rfl (by simp) rfl ?_
      exact ⟨⟨⟨wr, _, z, bu, lk, xs⟩, rfl, by simp only; omega⟩, _, _, (by omega), rfl⟩
  · intro h1
    try rw [Decidable.not_not] at h1
    refine s_skip ?_
    refine q_seqN ?_
    refine s_keep [0, 2, 3] rfl ?_
    refine S_seq ?_
    refine S_seq ?_
    refine s_rg ?_
    refine s_op (o_mv rfl) ?_
    refine s_nilO ?_
    refine q_seqN ?_
    refine s_keep [0, 2, 3, 5] rfl ?_
    refine S_block ?_
    refine s_nilC 4 5 1 rfl rfl rfl rfl rfl ?_
    refine S_loop (ι := (Int × List Int × Int × Int × Int)) (fun p => 0 ≤ p.1 ∧ (p.2.1.length : Int) = p.1 ∧ p.1 ≤ 8 ∧ 0 ≤ p.2.2.2.1 ∧ p.2.2.2.1 ≤ code.length) (fun p => [(5, .w (.int .i64 p.1))]) (fun p => [cur code p.2.2.2.1 p.2.2.2.2, .cell [.w (.bool false), .w (.int .i64 0), .w (.int .i64 0), .w (.int .i64 0), .w (.bool false), .w (.slice none 0 0)], .arr 1 [[.w (.int .i64 2)], [.w (.int .i64 2)], [.w (.int .i64 2)], [.w (.int .i64 0)], [.w (.int .i64 1)]], .arr 1 [[.w (.int .i64 0)], [.w (.int .i64 0)], [.w (.int .i64 1)], [.w (.int .i64 2)], [.w (.int .i64 3)]], .cell [.w (.bool wr), .w (.int .i64 (IntKind.wrap .i64 (IntKind.wrap .i64 (av.tdiv (bytes z)) * bytes z))), .w (.int .i64 z), .w (.int .i64 p.2.2.1), .w (.bool lk), .ls 6 (p.2.1.map iR).length], .arr 1 [[.w (.int .i64 a1)], [.w (.int .i64 a2)], [.w (.int .i64 (128 + a3))], [.w (.int .i64 (192 + a4))], [.w (.int .i64 a5)]], .arr 1 (p.2.1.map iR)]) (fun p => (8 - p.1).toNat) 7 (0, [], _, i, h) ⟨by simp only; omega, rfl, by simp only; omega, hi⟩ rfl (hasOf ⟨rfl, trivial⟩ rfl) rfl (fun _ _ => rfl) (fun _ _ => ⟨rfl, rfl⟩) ?_
    rintro ⟨n, xs, bu, i, h⟩ hp
    obtain ⟨hn0, hn1, hn2, hi⟩ := hp
    simp only at hn0 hn1 hn2 hi
    have hbb := beats_bd bu
    have hml : (xs.map iR).length = xs.length := List.length_map ..
    refine s_keep [0, 2, 3, 5] rfl ?_
    dsimp only
    refine S_seq ?_
    refine S_seq ?_
    refine s_rg ?_
    refine s_op (o_mv rfl) ?_
    refine s_op (o_faC rfl) ?_
    refine s_op (o_ldC rfl rfl rfl) ?_
    first | refine s_call rfl rfl (c_173 _) ?_ | refine s_callL rfl rfl (by simp) (c_173 _) rfl ?_
    first | refine s_op (o_lss rfl rfl) ?_ | refine s_op (o_bin rfl rfl rfl rfl) ?_
    refine s_op (o_mv rfl) ?_
    first | refine s_gDT rfl ?_ ?_ | refine s_gNDT rfl ?_ ?_ | refine s_gNT rfl ?_ ?_ | refine s_gB rfl ?_ ?_
    · intro h4
      try rw [Decidable.not_not] at h4
      refine s_op (o_faC rfl) ?_
      refine s_gT rfl ?_
      refine s_op (o_ldC rfl rfl rfl) ?_
      refine s_op (o_pickT rfl rfl) ?_
      refine s_nilO ?_
      refine q_seqN ?_
      refine s_keep [0, 2, 3, 5, 55, 56, 57] rfl ?_
      first | refine s_condD rfl ?_ ?_ | refine s_condN rfl ?_ ?_ | refine s_condNB rfl ?_ ?_ | refine s_condB rfl ?_ ?_
      · intro h5
        try rw [Decidable.not_not] at h5
        refine s_skip ?_
        refine q_seqN ?_
        refine s_keep [0, 2, 3, 5, 55, 56] rfl ?_
        refine S_seq ?_
        refine S_block ?_
        refine s_rgH [0] rfl ?_
        refine h_op (o_faC rfl) rfl ?_
        refine h_op (o_ldC rfl rfl rfl) rfl ?_
        refine h_op (o_mv rfl) rfl ?_
        refine h_op (o_mv rfl) rfl ?_
        refine h_op (o_faC rfl) rfl ?_
        refine h_op (o_ldC rfl rfl rfl) rfl ?_
        first | refine h_call rfl rfl (c_201 _) rfl ?_ | refine h_callL rfl rfl (by simp) (c_201 _) rfl rfl ?_
        refine h_op (o_mn rfl) rfl ?_
        refine h_op (o_faC rfl) rfl ?_
        refine h_op (o_ldC rfl rfl rfl) rfl ?_
        first | refine h_call rfl rfl (c_201 _) rfl ?_ | refine h_callL rfl rfl (by simp) (c_201 _) rfl rfl ?_
        refine h_op (o_bs rfl rfl rfl rfl) rfl ?_
        refine h_callG [0] [7] rfl rfl rfl rfl rfl rfl (by simp) rfl (cg_234 _ hc _ _ hi _ _ rfl (by simp) (by simp)) (words_iR _ _ rfl) ?_
        rintro u L1 ⟨⟨w0, rfl, hw0⟩, i, h, hi, rfl⟩
        refine ⟨rfl, _, _, _, _, rfl, rfl, rfl, rfl, ?_⟩
        try simp only [List.mem_cons, List.not_mem_nil, or_false] at hw0
        refine h_callG [0] [] rfl rfl rfl rfl rfl rfl (by simp) rfl (cg_228 _ hc _ _ hi _) (by simp) ?_
        rintro u L1 ⟨⟨v, rfl, hv⟩, i, h, hi, rfl⟩
        refine ⟨rfl, _, _, _, _, rfl, rfl, rfl, rfl, ?_⟩
        refine h_op (o_bs rfl rfl rfl rfl) rfl ?_
        refine h_bar rfl ?_
        refine s_keepO (is := [0, 2, 3, 5, 55, 56, 61, 74]) rfl ?_
        first | refine s_op (o_appL rfl rfl rfl rfl rfl rfl rfl (by simp [roomy]; omega)) ?_ | refine s_op (o_app rfl rfl rfl rfl rfl (by simp [roomy]; omega)) ?_
        refine s_op (o_faC rfl) ?_
        refine s_opN (o_stC rfl rfl rfl rfl rfl rfl) ?_
        refine s_nilO ?_
        refine q_blkN ?_
        refine q_seqN ?_
        refine s_keep [0, 2, 3, 5, 55, 56] rfl ?_
        refine s_rg ?_
        refine s_op (o_mv rfl) ?_
        first | refine s_op (o_addn rfl rfl (by omega)) ?_ | refine s_op (o_add rfl rfl) ?_
        refine s_op (o_mv rfl) ?_
        refine s_nilO ?_
        refine q_loopN ?_
        refine ⟨(n + 1, xs ++ [v], bu, i, h), ⟨by simp only; omega, by simp only [List.length_append, List.length_cons, List.length_nil]; omega, by simp only; omega, hi⟩, by simp only; omega, hasOf ⟨rfl, trivial⟩ ?_⟩
        simp only [List.map_append]; rfl
      · intro h5
        try rw [Decidable.not_not] at h5
        refine s_exit ?_
        refine q_seqX ?_
        refine q_loopX ?_
        refine q_blkH ?_
        refine q_seqN ?_
        refine s_keep [2, 3] rfl ?_
        refine S_seq ?_
        refine s_rg ?_
        refine s_op (o_ldnC rfl rfl rfl) ?_
        refine s_opN (o_stnC rfl rfl rfl rfl rfl rfl rfl) ?_
        refine s_nilO ?_
        refine q_seqN ?_
        refine s_keep [2] rfl ?_
        refine s_ret ?_
        refine retF_leaf (.inr rfl) rfl rfl (by simp) rfl ?_
        exact ⟨⟨⟨wr, _, z, bu, lk, xs⟩, rfl, by simp only; omega⟩, _, _, (by omega), rfl⟩
    · intro h4
      try rw [Decidable.not_not] at h4
      refine s_gF rfl ?_
      refine s_gF rfl ?_
      refine s_op (o_pickF rfl rfl) ?_
      refine s_nilO ?_
      refine q_seqN ?_
      refine s_keep [0, 2, 3, 5, 55, 56, 57] rfl ?_
      refine s_condF rfl ?_
      refine s_exit ?_
      refine q_seqX ?_
      refine q_loopX ?_
      refine q_blkH ?_
      refine q_seqN ?_
      refine s_keep [2, 3] rfl ?_
      refine S_seq ?_
      refine s_rg ?_
      refine s_op (o_ldnC rfl rfl rfl) ?_
      refine s_opN (o_stnC rfl rfl rfl rfl rfl rfl rfl) ?_
      refine s_nilO ?_
      refine q_seqN ?_
      refine s_keep [2] rfl ?_
      refine s_ret ?_
      refine retF_leaf (.inr rfl) rfl rfl (by simp) rfl ?_
      exact ⟨⟨⟨wr, _, z, bu, lk, xs⟩, rfl, by simp only; omega⟩, _, _, (by omega), rfl⟩

end Go.Proofs.Ytdlkgdlefbabcaa.AL
