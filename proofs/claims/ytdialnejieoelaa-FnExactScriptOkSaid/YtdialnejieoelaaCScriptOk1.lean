/- What functions do with plain data, each by the form of its code. Printed by program. -/
import Derived.Test.YtdialnejieoelaaCScriptOk0
namespace Go.Proofs.Ytdialnejieoelaa.AL
open Go
set_option linter.unusedVariables false
set_option linter.unusedSimpArgs false
set_option maxRecDepth 4096

def Req.ok (x : Req) : Bool := burstOk x.addr x.size x.burst && decide ((x.data.length : Int) = if x.write then beats x.burst else 0) && x.data.all fun v => inB v 0 (limit x.size - 1)
theorem data_not (l : Int) (xs : List Int) : (!xs.any (fun v => !inB v 0 l)) = xs.all (fun v => inB v 0 l) := by
  induction xs with
  | nil => rfl
  | cons m xs ih => simp only [List.any_cons, List.all_cons, Bool.not_or, Bool.not_not, ih]
theorem Req.ok_len {x : Req} (h : x.ok = true) : x.data.length ≤ 8 := by
  simp only [Req.ok, Bool.and_eq_true, decide_eq_true_eq] at h
  have := beats_bd x.burst
  have h2 := h.1.2
  split at h2 <;> omega

theorem c_67 (d : Int) (x : Req) : CV prg 67 [.w (.int .i64 d), .rp x.r 0] (fun res => res = .w (.bool (!inB d 0 (limit x.size - 1)))) := by
  refine cv_in g67 ?_
  refine s_keep [0, 1] rfl ?_
  refine S_seq ?_
  refine s_rg ?_
  refine s_op (o_mv rfl) ?_
  refine s_nilO ?_
  refine q_seqN ?_
  refine s_keep [0, 1] rfl ?_
  refine S_seq ?_
  refine s_rg ?_
  refine s_op (o_mv rfl) ?_
  refine s_op (o_fa rfl) ?_
  refine s_op (o_ld rfl rfl) ?_
  first | refine s_call rfl rfl (c_92 ..) ?_ | refine s_callL rfl rfl (by simp) (c_92 ..) rfl ?_
  refine s_op (o_not rfl) ?_
  refine s_op (o_mv rfl) ?_
  refine s_nilO ?_
  refine q_seqN ?_
  refine s_keep [3] rfl ?_
  refine s_ret ?_
  refine ret_leaf (.inr rfl) rfl rfl ?_
  refine congrArg (fun b => V.w (.bool b)) ?_
  rfl

theorem c_66 (x : Req) (hs : x.small) : CV prg 66 [.agg x.r] (fun res => res = .w (.bool x.ok)) := by
  have hd : x.data.length ≤ 1048576 := hs
  refine cv_in g66 ?_
  refine s_keep [0] rfl ?_
  refine S_seq ?_
  refine s_rg ?_
  refine s_op (o_box rfl rfl rfl) ?_
  refine s_op (o_mv rfl) ?_
  refine s_nilO ?_
  refine q_seqN ?_
  refine s_keep [1] rfl ?_
  refine S_seq ?_
  refine s_rg ?_
  refine s_op (o_mv rfl) ?_
  refine s_nilO ?_
  refine q_seqN ?_
  refine s_keep [1, 3] rfl ?_
  refine S_seq ?_
  refine S_seq ?_
  refine s_rg ?_
  refine s_op (o_faC rfl) ?_
  refine s_op (o_ldC rfl rfl rfl) ?_
  refine s_nilO ?_
  refine q_seqN ?_
  refine s_keep [1, 3, 5] rfl ?_
  first | refine s_condD rfl ?_ ?_ | refine s_condN rfl ?_ ?_ | refine s_condNB rfl ?_ ?_ | refine s_condB rfl ?_ ?_
  · intro h1
    try rw [Decidable.not_not] at h1
    refine s_rg ?_
    refine s_op (o_faC rfl) ?_
    refine s_op (o_ldC rfl rfl rfl) ?_
    first | refine s_call rfl rfl (c_22 ..) ?_ | refine s_callL rfl rfl (by simp) (c_22 ..) rfl ?_
    refine s_op (o_mv rfl) ?_
    refine s_nilO ?_
    refine q_seqN ?_
    refine s_keep [1, 3] rfl ?_
    refine S_seq ?_
    refine s_rg ?_
    refine s_op (o_faC rfl) ?_
    refine s_op (o_ldC rfl rfl rfl) ?_
    refine s_op (o_faC rfl) ?_
    refine s_op (o_ldC rfl rfl rfl) ?_
    refine s_op (o_faC rfl) ?_
    refine s_op (o_ldC rfl rfl rfl) ?_
    first | refine s_call rfl rfl (c_30 ..) ?_ | refine s_callL rfl rfl (by simp) (c_30 ..) rfl ?_
    refine s_op (o_mv rfl) ?_
    first | refine s_gDT rfl ?_ ?_ | refine s_gNDT rfl ?_ ?_ | refine s_gNT rfl ?_ ?_ | refine s_gB rfl ?_ ?_
    · intro h2
      try rw [Decidable.not_not] at h2
      refine s_op (o_faC rfl) ?_
      refine s_gT rfl ?_
      refine s_op (o_ldC rfl rfl rfl) ?_
      refine s_gT rfl ?_
      first | refine s_op (o_lenM rfl) ?_ | refine s_op (o_len rfl) ?_ | refine s_op (o_lenL rfl rfl rfl) ?_ | refine s_op (o_lenN rfl) ?_
      refine s_gT rfl ?_
      refine s_op (o_mv rfl) ?_
      refine s_gT rfl ?_
      first | refine s_op (o_eql rfl rfl) ?_ | refine s_op (o_bin rfl rfl rfl rfl) ?_
      refine s_op (o_pickT rfl rfl) ?_
      refine s_keepO (is := [1, 22]) rfl ?_
      refine s_op (o_mv rfl) ?_
      first | refine s_gDT rfl ?_ ?_ | refine s_gNDT rfl ?_ ?_ | refine s_gNT rfl ?_ ?_ | refine s_gB rfl ?_ ?_
      · intro h3
        try rw [Decidable.not_not] at h3
        refine s_op (o_faC rfl) ?_
        refine s_gT rfl ?_
        refine s_op (o_ldC rfl rfl rfl) ?_
        refine s_gT rfl ?_
        refine s_op (o_fn rfl) ?_
        refine s_gT rfl ?_
        refine s_callL rfl rfl (by simp) (c_257 _ (by omega) _ _ rfl (fun d => !inB d 0 (limit x.size - 1)) (fun y _ => c_67 y x)) rfl ?_
        refine s_gT rfl ?_
        refine s_op (o_not rfl) ?_
        refine s_op (o_pickT rfl rfl) ?_
        refine s_op (o_mv rfl) ?_
        refine s_nilO ?_
        refine q_seqN ?_
        refine s_keep [2] rfl ?_
        refine s_ret ?_
        refine ret_leaf (.inr rfl) rfl rfl ?_
        refine congrArg (fun b => V.w (.bool b)) ?_
        first | (rw [data_not]; simp_all [Req.ok]; done) | (simp_all [Req.ok]; done)
      · intro h3
        try rw [Decidable.not_not] at h3
        refine s_gF rfl ?_
        refine s_gF rfl ?_
        refine s_gF rfl ?_
        refine s_gF rfl ?_
        refine s_gF rfl ?_
        refine s_op (o_pickF rfl rfl) ?_
        refine s_op (o_mv rfl) ?_
        refine s_nilO ?_
        refine q_seqN ?_
        refine s_keep [2] rfl ?_
        refine s_ret ?_
        refine ret_leaf (.inr rfl) rfl rfl ?_
        refine congrArg (fun b => V.w (.bool b)) ?_
        first | (rw [data_not]; simp_all [Req.ok]; done) | (simp_all [Req.ok]; done)
    · intro h2
      try rw [Decidable.not_not] at h2
      refine s_gF rfl ?_
      refine s_gF rfl ?_
      refine s_gF rfl ?_
      refine s_gF rfl ?_
      refine s_gF rfl ?_
      refine s_op (o_pickF rfl rfl) ?_
      refine s_keepO (is := [1, 22]) rfl ?_
      refine s_op (o_mv rfl) ?_
      refine s_gF rfl ?_
      refine s_gF rfl ?_
      refine s_gF rfl ?_
      refine s_gF rfl ?_
      refine s_gF rfl ?_
      refine s_op (o_pickF rfl rfl) ?_
      refine s_op (o_mv rfl) ?_
      refine s_nilO ?_
      refine q_seqN ?_
      refine s_keep [2] rfl ?_
      refine s_ret ?_
      refine ret_leaf (.inr rfl) rfl rfl ?_
      refine congrArg (fun b => V.w (.bool b)) ?_
      first | (rw [data_not]; simp_all [Req.ok]; done) | (simp_all [Req.ok]; done)
  · intro h1
    try rw [Decidable.not_not] at h1
    refine s_skip ?_
    refine q_seqN ?_
    refine s_keep [1, 3] rfl ?_
    refine S_seq ?_
    refine s_rg ?_
    refine s_op (o_faC rfl) ?_
    refine s_op (o_ldC rfl rfl rfl) ?_
    refine s_op (o_faC rfl) ?_
    refine s_op (o_ldC rfl rfl rfl) ?_
    refine s_op (o_faC rfl) ?_
    refine s_op (o_ldC rfl rfl rfl) ?_
    first | refine s_call rfl rfl (c_30 ..) ?_ | refine s_callL rfl rfl (by simp) (c_30 ..) rfl ?_
    refine s_op (o_mv rfl) ?_
    first | refine s_gDT rfl ?_ ?_ | refine s_gNDT rfl ?_ ?_ | refine s_gNT rfl ?_ ?_ | refine s_gB rfl ?_ ?_
    · intro h4
      try rw [Decidable.not_not] at h4
      refine s_op (o_faC rfl) ?_
      refine s_gT rfl ?_
      refine s_op (o_ldC rfl rfl rfl) ?_
      refine s_gT rfl ?_
      first | refine s_op (o_lenM rfl) ?_ | refine s_op (o_len rfl) ?_ | refine s_op (o_lenL rfl rfl rfl) ?_ | refine s_op (o_lenN rfl) ?_
      refine s_gT rfl ?_
      refine s_op (o_mv rfl) ?_
      refine s_gT rfl ?_
      first | refine s_op (o_eql rfl rfl) ?_ | refine s_op (o_bin rfl rfl rfl rfl) ?_
      refine s_op (o_pickT rfl rfl) ?_
      refine s_keepO (is := [1, 22]) rfl ?_
      refine s_op (o_mv rfl) ?_
      first | refine s_gDT rfl ?_ ?_ | refine s_gNDT rfl ?_ ?_ | refine s_gNT rfl ?_ ?_ | refine s_gB rfl ?_ ?_
      · intro h5
        try rw [Decidable.not_not] at h5
        refine s_op (o_faC rfl) ?_
        refine s_gT rfl ?_
        refine s_op (o_ldC rfl rfl rfl) ?_
        refine s_gT rfl ?_
        refine s_op (o_fn rfl) ?_
        refine s_gT rfl ?_
        refine s_callL rfl rfl (by simp) (c_257 _ (by omega) _ _ rfl (fun d => !inB d 0 (limit x.size - 1)) (fun y _ => c_67 y x)) rfl ?_
        refine s_gT rfl ?_
        refine s_op (o_not rfl) ?_
        refine s_op (o_pickT rfl rfl) ?_
        refine s_op (o_mv rfl) ?_
        refine s_nilO ?_
        refine q_seqN ?_
        refine s_keep [2] rfl ?_
        refine s_ret ?_
        refine ret_leaf (.inr rfl) rfl rfl ?_
        refine congrArg (fun b => V.w (.bool b)) ?_
        first | (rw [data_not]; simp_all [Req.ok]; done) | (simp_all [Req.ok]; done)
      · intro h5
        try rw [Decidable.not_not] at h5
        refine s_gF rfl ?_
        refine s_gF rfl ?_
        refine s_gF rfl ?_
        refine s_gF rfl ?_
        refine s_gF rfl ?_
        refine s_op (o_pickF rfl rfl) ?_
        refine s_op (o_mv rfl) ?_
        refine s_nilO ?_
        refine q_seqN ?_
        refine s_keep [2] rfl ?_
        refine s_ret ?_
        refine ret_leaf (.inr rfl) rfl rfl ?_
        refine congrArg (fun b => V.w (.bool b)) ?_
        first | (rw [data_not]; simp_all [Req.ok]; done) | (simp_all [Req.ok]; done)
    · intro h4
      try rw [Decidable.not_not] at h4
      refine s_gF rfl ?_
      refine s_gF rfl ?_
      refine s_gF rfl ?_
      refine s_gF rfl ?_
      refine s_gF rfl ?_
      refine s_op (o_pickF rfl rfl) ?_
      refine s_keepO (is := [1, 22]) rfl ?_
      refine s_op (o_mv rfl) ?_
      refine s_gF rfl ?_
      refine s_gF rfl ?_
      refine s_gF rfl ?_
      refine s_gF rfl ?_
      refine s_gF rfl ?_
      refine s_op (o_pickF rfl rfl) ?_
      refine s_op (o_mv rfl) ?_
      refine s_nilO ?_
      refine q_seqN ?_
      refine s_keep [2] rfl ?_
      refine s_ret ?_
      refine ret_leaf (.inr rfl) rfl rfl ?_
      refine congrArg (fun b => V.w (.bool b)) ?_
      first | (rw [data_not]; simp_all [Req.ok]; done) | (simp_all [Req.ok]; done)

theorem c_207 (x : Req) (hs : x.small) : CV prg 207 [.agg x.r] (fun res => res = .w (.bool x.ok)) := by
  have hd : x.data.length ≤ 1048576 := hs
  have hz := limit_bd x.size
  refine cv_in g207 ?_
  refine s_keep [0] rfl ?_
  refine S_seq ?_
  refine s_rg ?_
  refine s_op (o_box rfl rfl rfl) ?_
  refine s_op (o_mv rfl) ?_
  refine s_nilO ?_
  refine q_seqN ?_
  refine s_keep [1] rfl ?_
  refine S_seq ?_
  refine S_seq ?_
  refine s_rg ?_
  refine s_op (o_faC rfl) ?_
  refine s_op (o_ldC rfl rfl rfl) ?_
  refine s_op (o_faC rfl) ?_
  refine s_op (o_ldC rfl rfl rfl) ?_
  refine s_op (o_faC rfl) ?_
  refine s_op (o_ldC rfl rfl rfl) ?_
  first | refine s_call rfl rfl (c_180 ..) ?_ | refine s_callL rfl rfl (by simp) (c_180 ..) rfl ?_
  refine s_op (o_not rfl) ?_
  refine s_nilO ?_
  refine q_seqN ?_
  refine s_keep [1, 11] rfl ?_
  first | refine s_condD rfl ?_ ?_ | refine s_condN rfl ?_ ?_ | refine s_condNB rfl ?_ ?_ | refine s_condB rfl ?_ ?_
  · intro h1
    try rw [Decidable.not_not] at h1
    refine S_seq ?_
    refine s_rg ?_
    refine s_op (o_mv rfl) ?_
    refine s_nilO ?_
    refine q_seqN ?_
    refine s_keep [2] rfl ?_
    refine s_ret ?_
    refine q_seqR ?_
    refine ret_leaf (.inr rfl) rfl rfl ?_
    refine congrArg (fun b => V.w (.bool b)) ?_
    first | (unfold Req.ok; rw [all_no (by assumption) (by assumption)]; simp; done) | (have ha := all_end hi.2 (by omega); clear hi; cases hw : x.write <;> simp_all [Req.ok]; done) | (have ha := all_end hi.2 (by omega); clear hi; cases hw : x.write <;> simp_all [Req.ok] <;> omega) | (simp_all [Req.ok]; done)
  · intro h1
    try rw [Decidable.not_not] at h1
    refine s_skip ?_
    refine q_seqN ?_
    refine s_keep [1] rfl ?_
    refine S_seq ?_
    refine S_seq ?_
    refine s_rg ?_
    refine s_op (o_mv rfl) ?_
    refine s_nilO ?_
    refine q_seqN ?_
    refine s_keep [1, 3] rfl ?_
    refine S_block ?_
    refine S_loop0 (ι := Nat) (fun i => i ≤ x.data.length ∧ (x.data.take i).all (fun v => inB v 0 (limit x.size - 1)) = true) (fun i => [(3, .w (.int .i64 (i : Int)))]) (fun i => x.data.length - i) 0 (by simp) rfl ⟨rfl, trivial⟩ (fun _ _ => rfl) rfl ?_
    intro i hi
    refine s_keep [1, 3] rfl ?_
    refine S_seq ?_
    refine S_seq ?_
    refine s_rg ?_
    refine s_op (o_mv rfl) ?_
    refine s_op (o_faC rfl) ?_
    refine s_op (o_ldC rfl rfl rfl) ?_
    first | refine s_op (o_lenM rfl) ?_ | refine s_op (o_len rfl) ?_ | refine s_op (o_lenL rfl rfl rfl) ?_ | refine s_op (o_lenN rfl) ?_
    first | refine s_op (o_lss rfl rfl) ?_ | refine s_op (o_bin rfl rfl rfl rfl) ?_
    refine s_nilO ?_
    refine q_seqN ?_
    refine s_keep [1, 3, 16] rfl ?_
    first | refine s_condD rfl ?_ ?_ | refine s_condN rfl ?_ ?_ | refine s_condNB rfl ?_ ?_ | refine s_condB rfl ?_ ?_
    · intro h2
      try rw [Decidable.not_not] at h2
      refine s_skip ?_
      refine q_seqN ?_
      refine s_keep [1, 3] rfl ?_
      refine S_seq ?_
      refine S_block ?_
      refine S_seq ?_
      refine s_rg ?_
      refine s_op (o_faC rfl) ?_
      refine s_op (o_ldC rfl rfl rfl) ?_
      refine s_op (o_mv rfl) ?_
      refine s_iaM rfl rfl (by omega) ?_
      intro y3 e3
      try simp only [Int.toNat_natCast, Int.toNat_zero] at e3
      refine s_op (o_ld rfl rfl) ?_
      refine s_op (o_faC rfl) ?_
      refine s_op (o_ldC rfl rfl rfl) ?_
      first | refine s_call rfl rfl (c_201 ..) ?_ | refine s_callL rfl rfl (by simp) (c_201 ..) rfl ?_
      first | refine s_op (o_subn rfl rfl (by omega)) ?_ | refine s_op (o_sub rfl rfl) ?_
      first | refine s_call rfl rfl (c_230 ..) ?_ | refine s_callL rfl rfl (by simp) (c_230 ..) rfl ?_
      refine s_op (o_not rfl) ?_
      refine s_nilO ?_
      refine q_seqN ?_
      refine s_keep [1, 3, 29] rfl ?_
      first | refine s_condD rfl ?_ ?_ | refine s_condN rfl ?_ ?_ | refine s_condNB rfl ?_ ?_ | refine s_condB rfl ?_ ?_
      · intro h4
        try rw [Decidable.not_not] at h4
        refine S_seq ?_
        refine s_rg ?_
        refine s_op (o_mv rfl) ?_
        refine s_nilO ?_
        refine q_seqN ?_
        refine s_keep [2] rfl ?_
        refine s_ret ?_
        refine q_blkR ?_
        refine q_seqR ?_
        refine q_loopR ?_
        refine q_blkR ?_
        refine q_seqR ?_
        refine ret_leaf (.inr rfl) rfl rfl ?_
        refine congrArg (fun b => V.w (.bool b)) ?_
        first | (unfold Req.ok; rw [all_no (by assumption) (by assumption)]; simp; done) | (have ha := all_end hi.2 (by omega); clear hi; cases hw : x.write <;> simp_all [Req.ok]; done) | (have ha := all_end hi.2 (by omega); clear hi; cases hw : x.write <;> simp_all [Req.ok] <;> omega) | (simp_all [Req.ok]; done)
      · intro h4
        try rw [Decidable.not_not] at h4
        refine s_skip ?_
        refine q_blkN ?_
        refine q_seqN ?_
        refine s_keep [1, 3] rfl ?_
        refine s_rg ?_
        refine s_op (o_mv rfl) ?_
        first | refine s_op (o_addn rfl rfl (by omega)) ?_ | refine s_op (o_add rfl rfl) ?_
        refine s_op (o_mv rfl) ?_
        refine s_nilO ?_
        refine q_loopN ?_
        exact ⟨i + 1, ⟨by omega, all_take (by assumption) hi.2 (by assumption)⟩, by omega, hasOf ⟨rfl, trivial⟩ rfl⟩
    · intro h2
      try rw [Decidable.not_not] at h2
      refine s_exit ?_
      refine q_seqX ?_
      refine q_loopX ?_
      refine q_blkH ?_
      refine q_seqN ?_
      refine s_keep [1] rfl ?_
      refine S_seq ?_
      refine s_rg ?_
      refine s_op (o_faC rfl) ?_
      refine s_op (o_ldC rfl rfl rfl) ?_
      first | refine s_op (o_lenM rfl) ?_ | refine s_op (o_len rfl) ?_ | refine s_op (o_lenL rfl rfl rfl) ?_ | refine s_op (o_lenN rfl) ?_
      first | refine s_op (o_eql rfl rfl) ?_ | refine s_op (o_bin rfl rfl rfl rfl) ?_
      refine s_op (o_mv rfl) ?_
      first | refine s_gDT rfl ?_ ?_ | refine s_gNDT rfl ?_ ?_ | refine s_gNT rfl ?_ ?_ | refine s_gB rfl ?_ ?_
      · intro h5
        try rw [Decidable.not_not] at h5
        refine s_op (o_faC rfl) ?_
        refine s_gT rfl ?_
        refine s_op (o_ldC rfl rfl rfl) ?_
        refine s_gT rfl ?_
        refine s_op (o_not rfl) ?_
        refine s_op (o_pickT rfl rfl) ?_
        refine s_op (o_mv rfl) ?_
        first | refine s_gDF rfl ?_ ?_ | refine s_gNDF rfl ?_ ?_ | refine s_gNF rfl ?_ ?_ | refine s_gB rfl ?_ ?_
        · intro h6
          try rw [Decidable.not_not] at h6
          refine s_op (o_faC rfl) ?_
          refine s_gT rfl ?_
          refine s_op (o_ldC rfl rfl rfl) ?_
          refine s_gT rfl ?_
          first | refine s_op (o_lenM rfl) ?_ | refine s_op (o_len rfl) ?_ | refine s_op (o_lenL rfl rfl rfl) ?_ | refine s_op (o_lenN rfl) ?_
          refine s_gT rfl ?_
          refine s_op (o_faC rfl) ?_
          refine s_keepO (is := [1, 39, 42, 43]) rfl ?_
          refine s_gT rfl ?_
          refine s_op (o_ldC rfl rfl rfl) ?_
          refine s_gT rfl ?_
          first | refine s_call rfl rfl (c_173 ..) ?_ | refine s_callL rfl rfl (by simp) (c_173 ..) rfl ?_
          refine s_gT rfl ?_
          first | refine s_op (o_eql rfl rfl) ?_ | refine s_op (o_bin rfl rfl rfl rfl) ?_
          refine s_gT rfl ?_
          refine s_op (o_mv rfl) ?_
          first | refine s_gDT rfl ?_ ?_ | refine s_gNDT rfl ?_ ?_ | refine s_gNT rfl ?_ ?_ | refine s_gB rfl ?_ ?_
          · intro h7
            try rw [Decidable.not_not] at h7
            refine s_op (o_faC rfl) ?_
            refine s_gT rfl ?_
            refine s_op (o_ldC rfl rfl rfl) ?_
            refine s_gT rfl ?_
            refine s_op (o_pickT rfl rfl) ?_
            refine s_op (o_pickF rfl rfl) ?_
            refine s_op (o_mv rfl) ?_
            refine s_nilO ?_
            refine q_seqN ?_
            refine s_keep [2] rfl ?_
            refine s_ret ?_
            refine ret_leaf (.inr rfl) rfl rfl ?_
            refine congrArg (fun b => V.w (.bool b)) ?_
            first | (unfold Req.ok; rw [all_no (by assumption) (by assumption)]; simp; done) | (have ha := all_end hi.2 (by omega); clear hi; cases hw : x.write <;> simp_all [Req.ok]; done) | (have ha := all_end hi.2 (by omega); clear hi; cases hw : x.write <;> simp_all [Req.ok] <;> omega) | (simp_all [Req.ok]; done)
          · intro h7
            try rw [Decidable.not_not] at h7
            refine s_gF rfl ?_
            refine s_gF rfl ?_
            refine s_gT rfl ?_
            refine s_op (o_pickF rfl rfl) ?_
            refine s_op (o_pickF rfl rfl) ?_
            refine s_op (o_mv rfl) ?_
            refine s_nilO ?_
            refine q_seqN ?_
            refine s_keep [2] rfl ?_
            refine s_ret ?_
            refine ret_leaf (.inr rfl) rfl rfl ?_
            refine congrArg (fun b => V.w (.bool b)) ?_
            first | (unfold Req.ok; rw [all_no (by assumption) (by assumption)]; simp; done) | (have ha := all_end hi.2 (by omega); clear hi; cases hw : x.write <;> simp_all [Req.ok]; done) | (have ha := all_end hi.2 (by omega); clear hi; cases hw : x.write <;> simp_all [Req.ok] <;> omega) | (simp_all [Req.ok]; done)
        · intro h6
          try rw [Decidable.not_not] at h6
          refine s_gF rfl ?_
          refine s_gF rfl ?_
          refine s_gF rfl ?_
          refine s_gF rfl ?_
          refine s_keepO (is := [1, 39, 42, 43]) rfl ?_
          refine s_gF rfl ?_
          refine s_gF rfl ?_
          refine s_gF rfl ?_
          refine s_gF rfl ?_
          refine s_gN rfl ?_
          refine s_gN rfl ?_
          refine s_gF rfl ?_
          refine s_op (o_pickT rfl rfl) ?_
          refine s_op (o_mv rfl) ?_
          refine s_nilO ?_
          refine q_seqN ?_
          refine s_keep [2] rfl ?_
          refine s_ret ?_
          refine ret_leaf (.inr rfl) rfl rfl ?_
          refine congrArg (fun b => V.w (.bool b)) ?_
          first | (unfold Req.ok; rw [all_no (by assumption) (by assumption)]; simp; done) | (have ha := all_end hi.2 (by omega); clear hi; cases hw : x.write <;> simp_all [Req.ok]; done) | (have ha := all_end hi.2 (by omega); clear hi; cases hw : x.write <;> simp_all [Req.ok] <;> omega) | (simp_all [Req.ok]; done)
      · intro h5
        try rw [Decidable.not_not] at h5
        refine s_gF rfl ?_
        refine s_gF rfl ?_
        refine s_gF rfl ?_
        refine s_op (o_pickF rfl rfl) ?_
        refine s_op (o_mv rfl) ?_
        refine s_gT rfl ?_
        refine s_op (o_faC rfl) ?_
        refine s_gT rfl ?_
        refine s_op (o_ldC rfl rfl rfl) ?_
        refine s_gT rfl ?_
        first | refine s_op (o_lenM rfl) ?_ | refine s_op (o_len rfl) ?_ | refine s_op (o_lenL rfl rfl rfl) ?_ | refine s_op (o_lenN rfl) ?_
        refine s_gT rfl ?_
        refine s_op (o_faC rfl) ?_
        refine s_keepO (is := [1, 39, 42, 43]) rfl ?_
        refine s_gT rfl ?_
        refine s_op (o_ldC rfl rfl rfl) ?_
        refine s_gT rfl ?_
        first | refine s_call rfl rfl (c_173 ..) ?_ | refine s_callL rfl rfl (by simp) (c_173 ..) rfl ?_
        refine s_gT rfl ?_
        first | refine s_op (o_eql rfl rfl) ?_ | refine s_op (o_bin rfl rfl rfl rfl) ?_
        refine s_gT rfl ?_
        refine s_op (o_mv rfl) ?_
        first | refine s_gDT rfl ?_ ?_ | refine s_gNDT rfl ?_ ?_ | refine s_gNT rfl ?_ ?_ | refine s_gB rfl ?_ ?_
        · intro h8
          try rw [Decidable.not_not] at h8
          refine s_op (o_faC rfl) ?_
          refine s_gT rfl ?_
          refine s_op (o_ldC rfl rfl rfl) ?_
          refine s_gT rfl ?_
          refine s_op (o_pickT rfl rfl) ?_
          refine s_op (o_pickF rfl rfl) ?_
          refine s_op (o_mv rfl) ?_
          refine s_nilO ?_
          refine q_seqN ?_
          refine s_keep [2] rfl ?_
          refine s_ret ?_
          refine ret_leaf (.inr rfl) rfl rfl ?_
          refine congrArg (fun b => V.w (.bool b)) ?_
          first | (unfold Req.ok; rw [all_no (by assumption) (by assumption)]; simp; done) | (have ha := all_end hi.2 (by omega); clear hi; cases hw : x.write <;> simp_all [Req.ok]; done) | (have ha := all_end hi.2 (by omega); clear hi; cases hw : x.write <;> simp_all [Req.ok] <;> omega) | (simp_all [Req.ok]; done)
        · intro h8
          try rw [Decidable.not_not] at h8
          refine s_gF rfl ?_
          refine s_gF rfl ?_
          refine s_gT rfl ?_
          refine s_op (o_pickF rfl rfl) ?_
          refine s_op (o_pickF rfl rfl) ?_
          refine s_op (o_mv rfl) ?_
          refine s_nilO ?_
          refine q_seqN ?_
          refine s_keep [2] rfl ?_
          refine s_ret ?_
          refine ret_leaf (.inr rfl) rfl rfl ?_
          refine congrArg (fun b => V.w (.bool b)) ?_
          first | (unfold Req.ok; rw [all_no (by assumption) (by assumption)]; simp; done) | (have ha := all_end hi.2 (by omega); clear hi; cases hw : x.write <;> simp_all [Req.ok]; done) | (have ha := all_end hi.2 (by omega); clear hi; cases hw : x.write <;> simp_all [Req.ok] <;> omega) | (simp_all [Req.ok]; done)

def Mst.beats (m : Mst) : Int := match m.queue[0]? with | some r => AL.beats r.burst | none => 0
def Mst.right (m : Mst) : Bool := decide (m.queue.length ≤ 4) && decide (0 ≤ m.tries) && m.queue.all Req.ok &&
  (if m.queue.length = 0 then decide (m.beat = 0) && decide (m.done = 0) && decide (m.tries = 0) && !m.parted && !m.broken else inB m.done 0 (m.beats - 1) && inB m.beat m.done (min (m.done + 2) m.beats))
theorem Mst.beats_bd (m : Mst) : 0 ≤ m.beats ∧ m.beats ≤ 8 := by
  unfold Mst.beats
  split
  · exact AL.beats_bd _
  · simp
theorem Mst.beats_ne {m : Mst} (h : 0 < m.beats) : 0 < m.queue.length := by
  unfold Mst.beats at h
  split at h
  · rename_i r hr; exact (List.getElem?_eq_some_iff.1 hr).1
  · omega
theorem Mst.beats_nil {m : Mst} (h : m.queue.length = 0) : m.beats = 0 := by
  unfold Mst.beats
  rw [List.getElem?_eq_none (by omega)]
theorem Mst.beats_at {m : Mst} {r : Req} (h : m.queue[0]? = some r) : m.beats = AL.beats r.burst := by unfold Mst.beats; rw [h]
theorem mst_ix1 {m : Mst} {beat : Int} (h : inB beat 0 (m.beats - 1) = true) : (0 : Int) ≤ 0 ∧ (0 : Int) < m.queue.length := by
  have h1 := inB_t h
  have := Mst.beats_ne (m := m) (by omega)
  omega
theorem Mst.right_ok {m : Mst} (h : m.right = true) {i : Nat} {r : Req} (hr : m.queue[i]? = some r) : r.ok = true := by
  simp only [Mst.right, Bool.and_eq_true] at h
  exact List.all_eq_true.1 h.1.2 r (List.mem_of_getElem? hr)
theorem Req.ok_burst {r : Req} (h : r.ok = true) : ((burstL r.addr r.size r.burst).length : Int) = AL.beats r.burst := by
  simp only [Req.ok, burstOk, Bool.and_eq_true, decide_eq_true_eq] at h
  have h1 := burstL_len r.addr r.size r.burst
  have h2 := AL.beats_bd r.burst
  omega
theorem mst_ix2 {m : Mst} {beat : Int} {r : Req} (h1 : m.right = true) (h : inB beat 0 (m.beats - 1) = true) (hq : m.queue[0]? = some r) : 0 ≤ beat ∧ beat < ((burstL r.addr r.size r.burst).length : Int) := by
  have h2 := inB_t h
  rw [Req.ok_burst (Mst.right_ok h1 hq), ← Mst.beats_at hq]
  omega
def Mst.addrAt (m : Mst) (beat : Int) : Int := if m.right && inB beat 0 (m.beats - 1) then (match m.queue[0]? with | some r => ((burstL r.addr r.size r.burst)[beat.toNat]?).getD 0 | none => 0) else -1
theorem req_not (xs : List Req) : (!xs.any (fun r => !r.ok)) = xs.all Req.ok := by
  induction xs with
  | nil => rfl
  | cons m xs ih => simp only [List.any_cons, List.all_cons, Bool.not_or, Bool.not_not, ih]
theorem req_any (xs : List Req) : xs.any (fun r => !r.ok) = !xs.all Req.ok := by rw [← req_not, Bool.not_not]

def okAt (c : Conf) (s : Script) (i : Nat) : Bool := match s.posts[i]? with
  | some p => inB p.moment 0 4000 && inB p.who 0 (c.masters.length - 1) && p.req.ok && (match i with
    | 0 => true
    | j + 1 => match s.posts[j]? with
      | some q => decide (q.moment ≤ p.moment)
      | none => true)
  | none => true
def Script.ok (s : Script) (c : Conf) : Bool := c.ok && decide (s.posts.length ≤ 20) && decide (s.waits.length ≤ 20) && decide (s.says.length ≤ 20) && (List.range s.posts.length).all (okAt c s)
theorem cast20 (n : Nat) : ((n : Int) ≤ 20) ↔ n ≤ 20 := by omega
theorem range_step {p : Nat → Bool} {i : Nat} (h : (List.range i).all p = true) (h2 : p i = true) : (List.range (i + 1)).all p = true := by
  rw [List.range_succ, List.all_append, h]; simp [h2]
theorem range_no {p : Nat → Bool} {i n : Nat} (hi : i < n) (h2 : p i = false) : (List.range n).all p = false := by
  rw [List.all_eq_false]; exact ⟨i, List.mem_range.2 hi, by simp [h2]⟩
theorem range_all {p : Nat → Bool} {i n : Nat} (h : (List.range i).all p = true) (hi : ¬ (i : Int) < n) (hn : i ≤ n) : (List.range n).all p = true := by
  have : i = n := by omega
  rw [← this]; exact h
theorem okAt_z {c : Conf} {s : Script} {i : Nat} {p : Post} (hp : s.posts[i]? = some p) (h0 : ¬ (0 : Int) < (i : Int)) : okAt c s i = (inB p.moment 0 4000 && inB p.who 0 (c.masters.length - 1) && p.req.ok) := by
  have : i = 0 := by omega
  subst this; unfold okAt; rw [hp]; simp
theorem okAt_s {c : Conf} {s : Script} {i : Nat} {p q : Post} (hp : s.posts[i]? = some p) (h0 : (0 : Int) < (i : Int)) (hq : s.posts[i - 1]? = some q) : okAt c s i = (inB p.moment 0 4000 && inB p.who 0 (c.masters.length - 1) && p.req.ok && decide (q.moment ≤ p.moment)) := by
  obtain ⟨j, rfl⟩ : ∃ j, i = j + 1 := ⟨i - 1, by omega⟩
  unfold okAt; rw [hp]; simp only [Nat.add_sub_cancel] at hq; simp [hq]
theorem okAt_n {c : Conf} {s : Script} {i : Nat} {p : Post} (hp : s.posts[i]? = some p) (h : inB p.moment 0 4000 = false ∨ inB p.who 0 (c.masters.length - 1) = false ∨ p.req.ok = false) : okAt c s i = false := by
  unfold okAt; rw [hp]
  rcases h with h | h | h <;> simp [h]

theorem c_365 (c : Conf) (x : Script) (hs : x.small) (hl : c.masters.length ≤ 1048576) : CV prg 365 [.agg c.r, .agg x.r] (fun res => res = .w (.bool (x.ok c))) := by
  have hpl := hs.1
  refine cv_in g365 ?_
  refine s_keep [0, 1] rfl ?_
  refine S_seq ?_
  refine s_rg ?_
  refine s_op (o_box rfl rfl rfl) ?_
  refine s_op (o_box rfl rfl rfl) ?_
  refine s_op (o_mv rfl) ?_
  refine s_nilO ?_
  refine q_seqN ?_
  refine s_keep [2, 3] rfl ?_
  refine S_seq ?_
  refine S_seq ?_
  refine s_rg ?_
  refine s_op (o_ldnC rfl rfl rfl) ?_
  first | refine s_call rfl rfl (c_34 _ (by assumption)) ?_ | refine s_callL rfl rfl (by simp) (c_34 _ (by assumption)) rfl ?_
  refine s_op (o_not rfl) ?_
  refine s_op (o_mv rfl) ?_
  first | refine s_gDF rfl ?_ ?_ | refine s_gNDF rfl ?_ ?_ | refine s_gNF rfl ?_ ?_ | refine s_gB rfl ?_ ?_
  · intro h1
    try rw [Decidable.not_not] at h1
    refine s_op (o_faC rfl) ?_
    refine s_gT rfl ?_
    refine s_op (o_ldC rfl rfl rfl) ?_
    refine s_gT rfl ?_
    first | refine s_op (o_lenM rfl) ?_ | refine s_op (o_len rfl) ?_ | refine s_op (o_lenL rfl rfl rfl) ?_ | refine s_op (o_lenN rfl) ?_
    refine s_gT rfl ?_
    first | refine s_op (o_gtr rfl rfl) ?_ | refine s_op (o_bin rfl rfl rfl rfl) ?_
    refine s_op (o_pickF rfl rfl) ?_
    refine s_op (o_mv rfl) ?_
    first | refine s_gDF rfl ?_ ?_ | refine s_gNDF rfl ?_ ?_ | refine s_gNF rfl ?_ ?_ | refine s_gB rfl ?_ ?_
    · intro h2
      try rw [Decidable.not_not] at h2
      refine s_op (o_faC rfl) ?_
      refine s_gT rfl ?_
      refine s_op (o_ldC rfl rfl rfl) ?_
      refine s_gT rfl ?_
      first | refine s_op (o_lenM rfl) ?_ | refine s_op (o_len rfl) ?_ | refine s_op (o_lenL rfl rfl rfl) ?_ | refine s_op (o_lenN rfl) ?_
      refine s_gT rfl ?_
      first | refine s_op (o_gtr rfl rfl) ?_ | refine s_op (o_bin rfl rfl rfl rfl) ?_
      refine s_keepO (is := [2, 3, 16, 20]) rfl ?_
      refine s_op (o_pickF rfl rfl) ?_
      refine s_op (o_mv rfl) ?_
      first | refine s_gDF rfl ?_ ?_ | refine s_gNDF rfl ?_ ?_ | refine s_gNF rfl ?_ ?_ | refine s_gB rfl ?_ ?_
      · intro h3
        try rw [Decidable.not_not] at h3
        refine s_op (o_faC rfl) ?_
        refine s_gT rfl ?_
        refine s_op (o_ldC rfl rfl rfl) ?_
        refine s_gT rfl ?_
        first | refine s_op (o_lenM rfl) ?_ | refine s_op (o_len rfl) ?_ | refine s_op (o_lenL rfl rfl rfl) ?_ | refine s_op (o_lenN rfl) ?_
        refine s_gT rfl ?_
        first | refine s_op (o_gtr rfl rfl) ?_ | refine s_op (o_bin rfl rfl rfl rfl) ?_
        refine s_op (o_pickF rfl rfl) ?_
        refine s_nilO ?_
        refine q_seqN ?_
        refine s_keep [2, 3, 27] rfl ?_
        first | refine s_condD rfl ?_ ?_ | refine s_condN rfl ?_ ?_ | refine s_condNB rfl ?_ ?_ | refine s_condB rfl ?_ ?_
        · intro h4
          try rw [Decidable.not_not] at h4
          refine S_seq ?_
          refine s_rg ?_
          refine s_op (o_mv rfl) ?_
          refine s_nilO ?_
          refine q_seqN ?_
          refine s_keep [4] rfl ?_
          refine s_ret ?_
          refine q_seqR ?_
          refine ret_leaf (.inr rfl) rfl rfl ?_
          refine congrArg (fun b => V.w (.bool b)) ?_
          clear hs; first | (unfold Script.ok; rw [range_no (by omega : i < x.posts.length) (okAt_n (by assumption) (by first | exact .inl (by assumption) | exact .inr (.inl (by assumption)) | exact .inr (.inr (by assumption))))]; simp; done) | (unfold Script.ok; rw [range_no (by omega : i < x.posts.length) (by rw [okAt_s (by assumption) (by assumption) (by assumption)]; clear hi; simp; omega)]; simp; done) | (unfold Script.ok; rw [range_all hi.2 (by assumption) hi.1]; clear hi; simp_all; done) | (unfold Script.ok; rw [range_all hi.2 (by assumption) hi.1]; clear hi; simp_all [cast20]; done) | (simp_all [Script.ok]; done) | (simp_all [Script.ok] <;> omega)
        · intro h4
          try rw [Decidable.not_not] at h4
          refine s_skip ?_
          refine q_seqN ?_
          refine s_keep [2, 3] rfl ?_
          refine S_seq ?_
          refine S_seq ?_
          refine s_rg ?_
          refine s_op (o_faC rfl) ?_
          refine s_op (o_ldC rfl rfl rfl) ?_
          first | refine s_op (o_lenM rfl) ?_ | refine s_op (o_len rfl) ?_ | refine s_op (o_lenL rfl rfl rfl) ?_ | refine s_op (o_lenN rfl) ?_
          refine s_op (o_mv rfl) ?_
          refine s_nilO ?_
          refine q_seqN ?_
          refine s_keep [2, 3, 29, 30, 31] rfl ?_
          refine S_block ?_
          refine S_loop0 (ι := Nat) (fun i => i ≤ x.posts.length ∧ (List.range i).all (okAt c x) = true) (fun i => [(31, .w (.int .i64 (i : Int)))]) (fun i => x.posts.length - i) 0 (by simp) rfl ⟨rfl, trivial⟩ (fun _ _ => rfl) rfl ?_
          intro i hi
          refine s_keep [2, 3, 29, 30, 31] rfl ?_
          refine S_seq ?_
          refine s_rg ?_
          first | refine s_op (o_lss rfl rfl) ?_ | refine s_op (o_bin rfl rfl rfl rfl) ?_
          refine s_nilO ?_
          refine q_seqN ?_
          refine s_keep [2, 3, 29, 30, 31, 32] rfl ?_
          refine S_seq ?_
          first | refine s_condD rfl ?_ ?_ | refine s_condN rfl ?_ ?_ | refine s_condNB rfl ?_ ?_ | refine s_condB rfl ?_ ?_
          · intro h5
            try rw [Decidable.not_not] at h5
            refine s_skip ?_
            refine q_seqN ?_
            refine s_keep [2, 3, 29, 30, 31] rfl ?_
            refine S_seq ?_
            refine S_block ?_
            refine S_seq ?_
            refine s_rg ?_
            refine s_op (o_mv rfl) ?_
            refine s_iaM rfl rfl (by omega) ?_
            intro y6 e6
            first | simp only [Int.toNat_natCast] at e6 | rw [show ((i : Int) - 1).toNat = i - 1 by omega] at e6
            refine s_op (o_ldn rfl rfl) ?_
            refine s_op (o_new rfl rfl) ?_
            refine s_op (o_mv rfl) ?_
            refine s_opN (o_stnC rfl rfl rfl rfl rfl rfl rfl) ?_
            refine s_nilO ?_
            refine q_seqN ?_
            refine s_keep [2, 3, 5, 6, 29, 30, 31] rfl ?_
            refine S_seq ?_
            refine s_rg ?_
            refine s_op (o_faC rfl) ?_
            refine s_op (o_ldC rfl rfl rfl) ?_
            first | refine s_call rfl rfl (c_103 ..) ?_ | refine s_callL rfl rfl (by simp) (c_103 ..) rfl ?_
            refine s_op (o_not rfl) ?_
            refine s_op (o_mv rfl) ?_
            first | refine s_gDF rfl ?_ ?_ | refine s_gNDF rfl ?_ ?_ | refine s_gNF rfl ?_ ?_ | refine s_gB rfl ?_ ?_
            · intro h7
              try rw [Decidable.not_not] at h7
              refine s_op (o_mv rfl) ?_
              refine s_gT rfl ?_
              first | refine s_op (o_gtr rfl rfl) ?_ | refine s_op (o_bin rfl rfl rfl rfl) ?_
              refine s_gT rfl ?_
              refine s_op (o_mv rfl) ?_
              first | refine s_gDT rfl ?_ ?_ | refine s_gNDT rfl ?_ ?_ | refine s_gNT rfl ?_ ?_ | refine s_gB rfl ?_ ?_
              · intro h8
                try rw [Decidable.not_not] at h8
                refine s_op (o_faC rfl) ?_
                refine s_gT rfl ?_
                refine s_op (o_ldC rfl rfl rfl) ?_
                refine s_gT rfl ?_
                refine s_op (o_faC rfl) ?_
                refine s_gT rfl ?_
                refine s_op (o_ldC rfl rfl rfl) ?_
                refine s_gT rfl ?_
                refine s_op (o_mv rfl) ?_
                refine s_gT rfl ?_
                first | refine s_op (o_subn rfl rfl (by omega)) ?_ | refine s_op (o_sub rfl rfl) ?_
                refine s_keepO (is := [2, 3, 6, 29, 30, 31, 40, 41, 42, 43, 44, 45, 46, 47, 48, 49]) rfl ?_
                refine s_gT rfl ?_
                refine s_iaM rfl rfl (by omega) ?_
                intro y9 e9
                first | simp only [Int.toNat_natCast] at e9 | rw [show ((i : Int) - 1).toNat = i - 1 by omega] at e9
                refine s_gT rfl ?_
                refine s_op (o_fa rfl) ?_
                refine s_gT rfl ?_
                refine s_op (o_ld rfl rfl) ?_
                refine s_gT rfl ?_
                first | refine s_op (o_lss rfl rfl) ?_ | refine s_op (o_bin rfl rfl rfl rfl) ?_
                refine s_gT rfl ?_
                refine s_op (o_pickT rfl rfl) ?_
                refine s_op (o_pickF rfl rfl) ?_
                refine s_op (o_mv rfl) ?_
                first | refine s_gDF rfl ?_ ?_ | refine s_gNDF rfl ?_ ?_ | refine s_gNF rfl ?_ ?_ | refine s_gB rfl ?_ ?_
                · intro h10
                  try rw [Decidable.not_not] at h10
                  refine s_op (o_ldnC rfl rfl rfl) ?_
                  refine s_gT rfl ?_
                  refine s_op (o_faC rfl) ?_
                  refine s_gT rfl ?_
                  refine s_op (o_ldC rfl rfl rfl) ?_
                  refine s_gT rfl ?_
                  first | refine s_call rfl rfl (c_91 _ _ (by assumption)) ?_ | refine s_callL rfl rfl (by simp) (c_91 _ _ (by assumption)) rfl ?_
                  refine s_gT rfl ?_
                  refine s_op (o_not rfl) ?_
                  refine s_op (o_pickF rfl rfl) ?_
                  refine s_op (o_mv rfl) ?_
                  refine s_keepO (is := [2, 3, 6, 29, 30, 31, 41, 42, 43, 44, 45, 46, 47, 48, 49, 50, 51, 52, 53, 54, 57, 58, 59, 60, 61, 63]) rfl ?_
                  first | refine s_gDF rfl ?_ ?_ | refine s_gNDF rfl ?_ ?_ | refine s_gNF rfl ?_ ?_ | refine s_gB rfl ?_ ?_
                  · intro h11
                    try rw [Decidable.not_not] at h11
                    refine s_op (o_faC rfl) ?_
                    refine s_gT rfl ?_
                    refine s_op (o_ldnC rfl rfl rfl) ?_
                    refine s_gT rfl ?_
                    first | refine s_call rfl rfl (c_66 (Post.req _) (hs.2.1 _ (List.mem_of_getElem? (by assumption)))) ?_ | refine s_callL rfl rfl (by simp) (c_66 (Post.req _) (hs.2.1 _ (List.mem_of_getElem? (by assumption)))) rfl ?_
                    refine s_gT rfl ?_
                    refine s_op (o_not rfl) ?_
                    refine s_op (o_pickF rfl rfl) ?_
                    refine s_nilO ?_
                    refine q_seqN ?_
                    refine s_keep [2, 3, 29, 30, 31, 41, 42, 43, 44, 45, 46, 47, 48, 49, 50, 51, 52, 53, 54, 57, 58, 59, 60, 61, 64, 65, 66, 67, 68] rfl ?_
                    first | refine s_condD rfl ?_ ?_ | refine s_condN rfl ?_ ?_ | refine s_condNB rfl ?_ ?_ | refine s_condB rfl ?_ ?_
                    · intro h12
                      try rw [Decidable.not_not] at h12
                      refine S_seq ?_
                      refine s_rg ?_
                      refine s_op (o_mv rfl) ?_
                      refine s_nilO ?_
                      refine q_seqN ?_
                      refine s_keep [4] rfl ?_
                      refine s_ret ?_
                      refine q_blkR ?_
                      refine q_seqR ?_
                      refine q_loopR ?_
                      refine q_blkR ?_
                      refine q_seqR ?_
                      refine ret_leaf (.inr rfl) rfl rfl ?_
                      refine congrArg (fun b => V.w (.bool b)) ?_
                      clear hs; first | (unfold Script.ok; rw [range_no (by omega : i < x.posts.length) (okAt_n (by assumption) (by first | exact .inl (by assumption) | exact .inr (.inl (by assumption)) | exact .inr (.inr (by assumption))))]; simp; done) | (unfold Script.ok; rw [range_no (by omega : i < x.posts.length) (by rw [okAt_s (by assumption) (by assumption) (by assumption)]; clear hi; simp; omega)]; simp; done) | (unfold Script.ok; rw [range_all hi.2 (by assumption) hi.1]; clear hi; simp_all; done) | (unfold Script.ok; rw [range_all hi.2 (by assumption) hi.1]; clear hi; simp_all [cast20]; done) | (simp_all [Script.ok]; done) | (simp_all [Script.ok] <;> omega)
                    · intro h12
                      try rw [Decidable.not_not] at h12
                      refine s_skip ?_
                      refine q_blkN ?_
                      refine q_seqN ?_
                      refine s_keep [2, 3, 29, 30, 31, 41, 42, 43, 44, 45, 46, 47, 48, 49, 50, 51, 52, 53, 54, 57, 58, 59, 60, 61, 64, 65, 66, 67] rfl ?_
                      refine s_rg ?_
                      first | refine s_op (o_addn rfl rfl (by omega)) ?_ | refine s_op (o_add rfl rfl) ?_
                      refine s_op (o_mv rfl) ?_
                      refine s_nilO ?_
                      refine q_loopN ?_
                      first | exact ⟨i + 1, ⟨by omega, range_step hi.2 (by rw [okAt_z (by assumption) (by assumption)]; clear hi; simp_all)⟩, by omega, hasOf ⟨rfl, trivial⟩ rfl⟩ | exact ⟨i + 1, ⟨by omega, range_step hi.2 (by rw [okAt_s (by assumption) (by assumption) (by assumption)]; clear hi; simp_all)⟩, by omega, hasOf ⟨rfl, trivial⟩ rfl⟩
                  · intro h11
                    try rw [Decidable.not_not] at h11
                    refine s_gF rfl ?_
                    refine s_gF rfl ?_
                    refine s_gF rfl ?_
                    refine s_gF rfl ?_
                    refine s_op (o_pickT rfl rfl) ?_
                    refine s_nilO ?_
                    refine q_seqN ?_
                    refine s_keep [2, 3, 29, 30, 31, 41, 42, 43, 44, 45, 46, 47, 48, 49, 50, 51, 52, 53, 54, 57, 58, 59, 60, 61, 64, 65, 66, 67, 68] rfl ?_
                    refine s_condT rfl ?_
                    refine S_seq ?_
                    refine s_rg ?_
                    refine s_op (o_mv rfl) ?_
                    refine s_nilO ?_
                    refine q_seqN ?_
                    refine s_keep [4] rfl ?_
                    refine s_ret ?_
                    refine q_blkR ?_
                    refine q_seqR ?_
                    refine q_loopR ?_
                    refine q_blkR ?_
                    refine q_seqR ?_
                    refine ret_leaf (.inr rfl) rfl rfl ?_
                    refine congrArg (fun b => V.w (.bool b)) ?_
                    clear hs; first | (unfold Script.ok; rw [range_no (by omega : i < x.posts.length) (okAt_n (by assumption) (by first | exact .inl (by assumption) | exact .inr (.inl (by assumption)) | exact .inr (.inr (by assumption))))]; simp; done) | (unfold Script.ok; rw [range_no (by omega : i < x.posts.length) (by rw [okAt_s (by assumption) (by assumption) (by assumption)]; clear hi; simp; omega)]; simp; done) | (unfold Script.ok; rw [range_all hi.2 (by assumption) hi.1]; clear hi; simp_all; done) | (unfold Script.ok; rw [range_all hi.2 (by assumption) hi.1]; clear hi; simp_all [cast20]; done) | (simp_all [Script.ok]; done) | (simp_all [Script.ok] <;> omega)
                · intro h10
                  try rw [Decidable.not_not] at h10
                  refine s_gF rfl ?_
                  refine s_gF rfl ?_
                  refine s_gF rfl ?_
                  refine s_gF rfl ?_
                  refine s_gF rfl ?_
                  refine s_op (o_pickT rfl rfl) ?_
                  refine s_op (o_mv rfl) ?_
                  refine s_keepO (is := [2, 3, 6, 29, 30, 31, 41, 42, 43, 44, 45, 46, 47, 48, 49, 50, 51, 52, 53, 54, 57, 58, 59, 60, 61, 63]) rfl ?_
                  refine s_gF rfl ?_
                  refine s_gF rfl ?_
                  refine s_gF rfl ?_
                  refine s_gF rfl ?_
                  refine s_op (o_pickT rfl rfl) ?_
                  refine s_nilO ?_
                  refine q_seqN ?_
                  refine s_keep [2, 3, 29, 30, 31, 41, 42, 43, 44, 45, 46, 47, 48, 49, 50, 51, 52, 53, 54, 57, 58, 59, 60, 61, 64, 65, 66, 67, 68] rfl ?_
                  refine s_condT rfl ?_
                  refine S_seq ?_
                  refine s_rg ?_
                  refine s_op (o_mv rfl) ?_
                  refine s_nilO ?_
                  refine q_seqN ?_
                  refine s_keep [4] rfl ?_
                  refine s_ret ?_
                  refine q_blkR ?_
                  refine q_seqR ?_
                  refine q_loopR ?_
                  refine q_blkR ?_
                  refine q_seqR ?_
                  refine ret_leaf (.inr rfl) rfl rfl ?_
                  refine congrArg (fun b => V.w (.bool b)) ?_
                  clear hs; first | (unfold Script.ok; rw [range_no (by omega : i < x.posts.length) (okAt_n (by assumption) (by first | exact .inl (by assumption) | exact .inr (.inl (by assumption)) | exact .inr (.inr (by assumption))))]; simp; done) | (unfold Script.ok; rw [range_no (by omega : i < x.posts.length) (by rw [okAt_s (by assumption) (by assumption) (by assumption)]; clear hi; simp; omega)]; simp; done) | (unfold Script.ok; rw [range_all hi.2 (by assumption) hi.1]; clear hi; simp_all; done) | (unfold Script.ok; rw [range_all hi.2 (by assumption) hi.1]; clear hi; simp_all [cast20]; done) | (simp_all [Script.ok]; done) | (simp_all [Script.ok] <;> omega)
              · intro h8
                try rw [Decidable.not_not] at h8
                refine s_gF rfl ?_
                refine s_gF rfl ?_
                refine s_gF rfl ?_
                refine s_gF rfl ?_
                refine s_gF rfl ?_
                refine s_gF rfl ?_
                refine s_keepO (is := [2, 3, 6, 29, 30, 31, 40, 41, 42, 43, 44, 45, 46, 47, 48, 49]) rfl ?_
                refine s_gF rfl ?_
                refine s_gF rfl ?_
                refine s_gF rfl ?_
                refine s_gF rfl ?_
                refine s_gT rfl ?_
                refine s_op (o_pickF rfl rfl) ?_
                refine s_op (o_pickF rfl rfl) ?_
                refine s_op (o_mv rfl) ?_
                refine s_gT rfl ?_
                refine s_op (o_ldnC rfl rfl rfl) ?_
                refine s_gT rfl ?_
                refine s_op (o_faC rfl) ?_
                refine s_gT rfl ?_
                refine s_op (o_ldC rfl rfl rfl) ?_
                refine s_gT rfl ?_
                first | refine s_call rfl rfl (c_91 _ _ (by assumption)) ?_ | refine s_callL rfl rfl (by simp) (c_91 _ _ (by assumption)) rfl ?_
                refine s_gT rfl ?_
                refine s_op (o_not rfl) ?_
                refine s_op (o_pickF rfl rfl) ?_
                refine s_op (o_mv rfl) ?_
                refine s_keepO (is := [2, 3, 6, 29, 30, 31, 41, 42, 43, 44, 45, 46, 47, 48, 49, 50, 51, 52, 53, 54, 57, 58, 59, 60, 61, 63]) rfl ?_
                first | refine s_gDF rfl ?_ ?_ | refine s_gNDF rfl ?_ ?_ | refine s_gNF rfl ?_ ?_ | refine s_gB rfl ?_ ?_
                · intro h13
                  try rw [Decidable.not_not] at h13
                  refine s_op (o_faC rfl) ?_
                  refine s_gT rfl ?_
                  refine s_op (o_ldnC rfl rfl rfl) ?_
                  refine s_gT rfl ?_
                  first | refine s_call rfl rfl (c_66 (Post.req _) (hs.2.1 _ (List.mem_of_getElem? (by assumption)))) ?_ | refine s_callL rfl rfl (by simp) (c_66 (Post.req _) (hs.2.1 _ (List.mem_of_getElem? (by assumption)))) rfl ?_
                  refine s_gT rfl ?_
                  refine s_op (o_not rfl) ?_
                  refine s_op (o_pickF rfl rfl) ?_
                  refine s_nilO ?_
                  refine q_seqN ?_
                  refine s_keep [2, 3, 29, 30, 31, 41, 42, 43, 44, 45, 46, 47, 48, 49, 50, 51, 52, 53, 54, 57, 58, 59, 60, 61, 64, 65, 66, 67, 68] rfl ?_
                  first | refine s_condD rfl ?_ ?_ | refine s_condN rfl ?_ ?_ | refine s_condNB rfl ?_ ?_ | refine s_condB rfl ?_ ?_
                  · intro h14
                    try rw [Decidable.not_not] at h14
                    refine S_seq ?_
                    refine s_rg ?_
                    refine s_op (o_mv rfl) ?_
                    refine s_nilO ?_
                    refine q_seqN ?_
                    refine s_keep [4] rfl ?_
                    refine s_ret ?_
                    refine q_blkR ?_
                    refine q_seqR ?_
                    refine q_loopR ?_
                    refine q_blkR ?_
                    refine q_seqR ?_
                    refine ret_leaf (.inr rfl) rfl rfl ?_
                    refine congrArg (fun b => V.w (.bool b)) ?_
                    clear hs; first | (unfold Script.ok; rw [range_no (by omega : i < x.posts.length) (okAt_n (by assumption) (by first | exact .inl (by assumption) | exact .inr (.inl (by assumption)) | exact .inr (.inr (by assumption))))]; simp; done) | (unfold Script.ok; rw [range_no (by omega : i < x.posts.length) (by rw [okAt_s (by assumption) (by assumption) (by assumption)]; clear hi; simp; omega)]; simp; done) | (unfold Script.ok; rw [range_all hi.2 (by assumption) hi.1]; clear hi; simp_all; done) | (unfold Script.ok; rw [range_all hi.2 (by assumption) hi.1]; clear hi; simp_all [cast20]; done) | (simp_all [Script.ok]; done) | (simp_all [Script.ok] <;> omega)
                  · intro h14
                    try rw [Decidable.not_not] at h14
                    refine s_skip ?_
                    refine q_blkN ?_
                    refine q_seqN ?_
                    refine s_keep [2, 3, 29, 30, 31, 41, 42, 43, 44, 45, 46, 47, 48, 49, 50, 51, 52, 53, 54, 57, 58, 59, 60, 61, 64, 65, 66, 67] rfl ?_
                    refine s_rg ?_
                    first | refine s_op (o_addn rfl rfl (by omega)) ?_ | refine s_op (o_add rfl rfl) ?_
                    refine s_op (o_mv rfl) ?_
                    refine s_nilO ?_
                    refine q_loopN ?_
                    first | exact ⟨i + 1, ⟨by omega, range_step hi.2 (by rw [okAt_z (by assumption) (by assumption)]; clear hi; simp_all)⟩, by omega, hasOf ⟨rfl, trivial⟩ rfl⟩ | exact ⟨i + 1, ⟨by omega, range_step hi.2 (by rw [okAt_s (by assumption) (by assumption) (by assumption)]; clear hi; simp_all)⟩, by omega, hasOf ⟨rfl, trivial⟩ rfl⟩
                · intro h13
                  try rw [Decidable.not_not] at h13
                  refine s_gF rfl ?_
                  refine s_gF rfl ?_
                  refine s_gF rfl ?_
                  refine s_gF rfl ?_
                  refine s_op (o_pickT rfl rfl) ?_
                  refine s_nilO ?_
                  refine q_seqN ?_
                  refine s_keep [2, 3, 29, 30, 31, 41, 42, 43, 44, 45, 46, 47, 48, 49, 50, 51, 52, 53, 54, 57, 58, 59, 60, 61, 64, 65, 66, 67, 68] rfl ?_
                  refine s_condT rfl ?_
                  refine S_seq ?_
                  refine s_rg ?_
                  refine s_op (o_mv rfl) ?_
                  refine s_nilO ?_
                  refine q_seqN ?_
                  refine s_keep [4] rfl ?_
                  refine s_ret ?_
                  refine q_blkR ?_
                  refine q_seqR ?_
                  refine q_loopR ?_
                  refine q_blkR ?_
                  refine q_seqR ?_
                  refine ret_leaf (.inr rfl) rfl rfl ?_
                  refine congrArg (fun b => V.w (.bool b)) ?_
                  clear hs; first | (unfold Script.ok; rw [range_no (by omega : i < x.posts.length) (okAt_n (by assumption) (by first | exact .inl (by assumption) | exact .inr (.inl (by assumption)) | exact .inr (.inr (by assumption))))]; simp; done) | (unfold Script.ok; rw [range_no (by omega : i < x.posts.length) (by rw [okAt_s (by assumption) (by assumption) (by assumption)]; clear hi; simp; omega)]; simp; done) | (unfold Script.ok; rw [range_all hi.2 (by assumption) hi.1]; clear hi; simp_all; done) | (unfold Script.ok; rw [range_all hi.2 (by assumption) hi.1]; clear hi; simp_all [cast20]; done) | (simp_all [Script.ok]; done) | (simp_all [Script.ok] <;> omega)
            · intro h7
              try rw [Decidable.not_not] at h7
              refine s_gF rfl ?_
              refine s_gF rfl ?_
              refine s_gF rfl ?_
              refine s_gN rfl ?_
              refine s_gN rfl ?_
              refine s_gN rfl ?_
              refine s_gN rfl ?_
              refine s_gN rfl ?_
              refine s_gN rfl ?_
              refine s_keepO (is := [2, 3, 6, 29, 30, 31, 40, 41, 42, 43, 44, 45, 46, 47, 48, 49]) rfl ?_
              refine s_gN rfl ?_
              refine s_gN rfl ?_
              refine s_gN rfl ?_
              refine s_gN rfl ?_
              refine s_gF rfl ?_
              refine s_op (o_pickT rfl rfl) ?_
              refine s_op (o_mv rfl) ?_
              refine s_gF rfl ?_
              refine s_gF rfl ?_
              refine s_gF rfl ?_
              refine s_gF rfl ?_
              refine s_gF rfl ?_
              refine s_op (o_pickT rfl rfl) ?_
              refine s_op (o_mv rfl) ?_
              refine s_keepO (is := [2, 3, 6, 29, 30, 31, 41, 42, 43, 44, 45, 46, 47, 48, 49, 50, 51, 52, 53, 54, 57, 58, 59, 60, 61, 63]) rfl ?_
              refine s_gF rfl ?_
              refine s_gF rfl ?_
              refine s_gF rfl ?_
              refine s_gF rfl ?_
              refine s_op (o_pickT rfl rfl) ?_
              refine s_nilO ?_
              refine q_seqN ?_
              refine s_keep [2, 3, 29, 30, 31, 41, 42, 43, 44, 45, 46, 47, 48, 49, 50, 51, 52, 53, 54, 57, 58, 59, 60, 61, 64, 65, 66, 67, 68] rfl ?_
              refine s_condT rfl ?_
              refine S_seq ?_
              refine s_rg ?_
              refine s_op (o_mv rfl) ?_
              refine s_nilO ?_
              refine q_seqN ?_
              refine s_keep [4] rfl ?_
              refine s_ret ?_
              refine q_blkR ?_
              refine q_seqR ?_
              refine q_loopR ?_
              refine q_blkR ?_
              refine q_seqR ?_
              refine ret_leaf (.inr rfl) rfl rfl ?_
              refine congrArg (fun b => V.w (.bool b)) ?_
              clear hs; first | (unfold Script.ok; rw [range_no (by omega : i < x.posts.length) (okAt_n (by assumption) (by first | exact .inl (by assumption) | exact .inr (.inl (by assumption)) | exact .inr (.inr (by assumption))))]; simp; done) | (unfold Script.ok; rw [range_no (by omega : i < x.posts.length) (by rw [okAt_s (by assumption) (by assumption) (by assumption)]; clear hi; simp; omega)]; simp; done) | (unfold Script.ok; rw [range_all hi.2 (by assumption) hi.1]; clear hi; simp_all; done) | (unfold Script.ok; rw [range_all hi.2 (by assumption) hi.1]; clear hi; simp_all [cast20]; done) | (simp_all [Script.ok]; done) | (simp_all [Script.ok] <;> omega)
          · intro h5
            try rw [Decidable.not_not] at h5
            refine s_exit ?_
            refine q_seqX ?_
            refine q_loopX ?_
            refine q_blkH ?_
            refine q_seqN ?_
            refine s_keep [] rfl ?_
            refine S_seq ?_
            refine s_rg ?_
            refine s_op (o_mv rfl) ?_
            refine s_nilO ?_
            refine q_seqN ?_
            refine s_keep [4] rfl ?_
            refine s_ret ?_
            refine ret_leaf (.inr rfl) rfl rfl ?_
            refine congrArg (fun b => V.w (.bool b)) ?_
            clear hs; first | (unfold Script.ok; rw [range_no (by omega : i < x.posts.length) (okAt_n (by assumption) (by first | exact .inl (by assumption) | exact .inr (.inl (by assumption)) | exact .inr (.inr (by assumption))))]; simp; done) | (unfold Script.ok; rw [range_no (by omega : i < x.posts.length) (by rw [okAt_s (by assumption) (by assumption) (by assumption)]; clear hi; simp; omega)]; simp; done) | (unfold Script.ok; rw [range_all hi.2 (by assumption) hi.1]; clear hi; simp_all; done) | (unfold Script.ok; rw [range_all hi.2 (by assumption) hi.1]; clear hi; simp_all [cast20]; done) | (simp_all [Script.ok]; done) | (simp_all [Script.ok] <;> omega)
      · intro h3
        try rw [Decidable.not_not] at h3
        refine s_gF rfl ?_
        refine s_gF rfl ?_
        refine s_gF rfl ?_
        refine s_gF rfl ?_
        refine s_op (o_pickT rfl rfl) ?_
        refine s_nilO ?_
        refine q_seqN ?_
        refine s_keep [2, 3, 27] rfl ?_
        refine s_condT rfl ?_
        refine S_seq ?_
        refine s_rg ?_
        refine s_op (o_mv rfl) ?_
        refine s_nilO ?_
        refine q_seqN ?_
        refine s_keep [4] rfl ?_
        refine s_ret ?_
        refine q_seqR ?_
        refine ret_leaf (.inr rfl) rfl rfl ?_
        refine congrArg (fun b => V.w (.bool b)) ?_
        clear hs; first | (unfold Script.ok; rw [range_no (by omega : i < x.posts.length) (okAt_n (by assumption) (by first | exact .inl (by assumption) | exact .inr (.inl (by assumption)) | exact .inr (.inr (by assumption))))]; simp; done) | (unfold Script.ok; rw [range_no (by omega : i < x.posts.length) (by rw [okAt_s (by assumption) (by assumption) (by assumption)]; clear hi; simp; omega)]; simp; done) | (unfold Script.ok; rw [range_all hi.2 (by assumption) hi.1]; clear hi; simp_all; done) | (unfold Script.ok; rw [range_all hi.2 (by assumption) hi.1]; clear hi; simp_all [cast20]; done) | (simp_all [Script.ok]; done) | (simp_all [Script.ok] <;> omega)
    · intro h2
      try rw [Decidable.not_not] at h2
      refine s_gF rfl ?_
      refine s_gF rfl ?_
      refine s_gF rfl ?_
      refine s_gF rfl ?_
      refine s_keepO (is := [2, 3, 16, 20]) rfl ?_
      refine s_op (o_pickT rfl rfl) ?_
      refine s_op (o_mv rfl) ?_
      refine s_gF rfl ?_
      refine s_gF rfl ?_
      refine s_gF rfl ?_
      refine s_gF rfl ?_
      refine s_op (o_pickT rfl rfl) ?_
      refine s_nilO ?_
      refine q_seqN ?_
      refine s_keep [2, 3, 27] rfl ?_
      refine s_condT rfl ?_
      refine S_seq ?_
      refine s_rg ?_
      refine s_op (o_mv rfl) ?_
      refine s_nilO ?_
      refine q_seqN ?_
      refine s_keep [4] rfl ?_
      refine s_ret ?_
      refine q_seqR ?_
      refine ret_leaf (.inr rfl) rfl rfl ?_
      refine congrArg (fun b => V.w (.bool b)) ?_
      clear hs; first | (unfold Script.ok; rw [range_no (by omega : i < x.posts.length) (okAt_n (by assumption) (by first | exact .inl (by assumption) | exact .inr (.inl (by assumption)) | exact .inr (.inr (by assumption))))]; simp; done) | (unfold Script.ok; rw [range_no (by omega : i < x.posts.length) (by rw [okAt_s (by assumption) (by assumption) (by assumption)]; clear hi; simp; omega)]; simp; done) | (unfold Script.ok; rw [range_all hi.2 (by assumption) hi.1]; clear hi; simp_all; done) | (unfold Script.ok; rw [range_all hi.2 (by assumption) hi.1]; clear hi; simp_all [cast20]; done) | (simp_all [Script.ok]; done) | (simp_all [Script.ok] <;> omega)
  · intro h1
    try rw [Decidable.not_not] at h1
    refine s_gF rfl ?_
    refine s_gF rfl ?_
    refine s_gF rfl ?_
    refine s_gF rfl ?_
    refine s_op (o_pickT rfl rfl) ?_
    refine s_op (o_mv rfl) ?_
    refine s_gF rfl ?_
    refine s_gF rfl ?_
    refine s_gF rfl ?_
    refine s_gF rfl ?_
    refine s_keepO (is := [2, 3, 16, 20]) rfl ?_
    refine s_op (o_pickT rfl rfl) ?_
    refine s_op (o_mv rfl) ?_
    refine s_gF rfl ?_
    refine s_gF rfl ?_
    refine s_gF rfl ?_
    refine s_gF rfl ?_
    refine s_op (o_pickT rfl rfl) ?_
    refine s_nilO ?_
    refine q_seqN ?_
    refine s_keep [2, 3, 27] rfl ?_
    refine s_condT rfl ?_
    refine S_seq ?_
    refine s_rg ?_
    refine s_op (o_mv rfl) ?_
    refine s_nilO ?_
    refine q_seqN ?_
    refine s_keep [4] rfl ?_
    refine s_ret ?_
    refine q_seqR ?_
    refine ret_leaf (.inr rfl) rfl rfl ?_
    refine congrArg (fun b => V.w (.bool b)) ?_
    clear hs; first | (unfold Script.ok; rw [range_no (by omega : i < x.posts.length) (okAt_n (by assumption) (by first | exact .inl (by assumption) | exact .inr (.inl (by assumption)) | exact .inr (.inr (by assumption))))]; simp; done) | (unfold Script.ok; rw [range_no (by omega : i < x.posts.length) (by rw [okAt_s (by assumption) (by assumption) (by assumption)]; clear hi; simp; omega)]; simp; done) | (unfold Script.ok; rw [range_all hi.2 (by assumption) hi.1]; clear hi; simp_all; done) | (unfold Script.ok; rw [range_all hi.2 (by assumption) hi.1]; clear hi; simp_all [cast20]; done) | (simp_all [Script.ok]; done) | (simp_all [Script.ok] <;> omega)

theorem c_212 (c : Conf) (x : Script) (hs : x.small) (hl : c.masters.length ≤ 1048576) : CV prg 212 [.agg c.r, .agg x.r] (fun res => res = .w (.bool (x.ok c))) := by
  have hpl := hs.1
  refine cv_in g212 ?_
  refine s_keep [0, 1] rfl ?_
  refine S_seq ?_
  refine s_rg ?_
  refine s_op (o_box rfl rfl rfl) ?_
  refine s_op (o_box rfl rfl rfl) ?_
  refine s_op (o_mv rfl) ?_
  refine s_nilO ?_
  refine q_seqN ?_
  refine s_keep [2, 3] rfl ?_
  refine S_seq ?_
  refine S_seq ?_
  refine s_rg ?_
  refine s_op (o_mv rfl) ?_
  refine s_nilO ?_
  refine q_seqN ?_
  refine s_keep [2, 3, 5] rfl ?_
  refine S_block ?_
  refine S_loop0 (ι := Nat) (fun i => i ≤ x.posts.length ∧ (List.range i).all (okAt c x) = true) (fun i => [(5, .w (.int .i64 (i : Int)))]) (fun i => x.posts.length - i) 0 (by simp) rfl ⟨rfl, trivial⟩ (fun _ _ => rfl) rfl ?_
  intro i hi
  refine s_keep [2, 3, 5] rfl ?_
  refine S_seq ?_
  refine S_seq ?_
  refine s_rg ?_
  refine s_op (o_mv rfl) ?_
  refine s_op (o_faC rfl) ?_
  refine s_op (o_ldC rfl rfl rfl) ?_
  first | refine s_op (o_lenM rfl) ?_ | refine s_op (o_len rfl) ?_ | refine s_op (o_lenL rfl rfl rfl) ?_ | refine s_op (o_lenN rfl) ?_
  first | refine s_op (o_lss rfl rfl) ?_ | refine s_op (o_bin rfl rfl rfl rfl) ?_
  refine s_nilO ?_
  refine q_seqN ?_
  refine s_keep [2, 3, 5, 11] rfl ?_
  first | refine s_condD rfl ?_ ?_ | refine s_condN rfl ?_ ?_ | refine s_condNB rfl ?_ ?_ | refine s_condB rfl ?_ ?_
  · intro h1
    try rw [Decidable.not_not] at h1
    refine s_skip ?_
    refine q_seqN ?_
    refine s_keep [2, 3, 5] rfl ?_
    refine S_seq ?_
    refine S_block ?_
    refine S_seq ?_
    refine s_rg ?_
    refine s_op (o_faC rfl) ?_
    refine s_op (o_ldC rfl rfl rfl) ?_
    refine s_op (o_mv rfl) ?_
    refine s_iaM rfl rfl (by omega) ?_
    intro y2 e2
    first | simp only [Int.toNat_natCast] at e2 | rw [show ((i : Int) - 1).toNat = i - 1 by omega] at e2
    refine s_op (o_ldn rfl rfl) ?_
    refine s_op (o_new rfl rfl) ?_
    refine s_opN (o_stnC rfl rfl rfl rfl rfl rfl rfl) ?_
    refine s_nilO ?_
    refine q_seqN ?_
    refine s_keep [2, 3, 5, 6] rfl ?_
    refine S_seq ?_
    refine s_rg ?_
    refine s_op (o_faC rfl) ?_
    refine s_op (o_ldC rfl rfl rfl) ?_
    first | refine s_call rfl rfl (c_230 ..) ?_ | refine s_callL rfl rfl (by simp) (c_230 ..) rfl ?_
    refine s_op (o_not rfl) ?_
    refine s_op (o_mv rfl) ?_
    first | refine s_gDF rfl ?_ ?_ | refine s_gNDF rfl ?_ ?_ | refine s_gNF rfl ?_ ?_ | refine s_gB rfl ?_ ?_
    · intro h3
      try rw [Decidable.not_not] at h3
      refine s_op (o_faC rfl) ?_
      refine s_gT rfl ?_
      refine s_op (o_ldC rfl rfl rfl) ?_
      refine s_gT rfl ?_
      refine s_op (o_faC rfl) ?_
      refine s_gT rfl ?_
      refine s_op (o_ldC rfl rfl rfl) ?_
      refine s_gT rfl ?_
      first | refine s_op (o_lenM rfl) ?_ | refine s_op (o_len rfl) ?_ | refine s_op (o_lenL rfl rfl rfl) ?_ | refine s_op (o_lenN rfl) ?_
      refine s_gT rfl ?_
      first | refine s_op (o_subn rfl rfl (by omega)) ?_ | refine s_op (o_sub rfl rfl) ?_
      refine s_gT rfl ?_
      first | refine s_call rfl rfl (c_230 ..) ?_ | refine s_callL rfl rfl (by simp) (c_230 ..) rfl ?_
      refine s_gT rfl ?_
      refine s_op (o_not rfl) ?_
      refine s_op (o_pickF rfl rfl) ?_
      refine s_keepO (is := [2, 3, 5, 6, 24, 25, 26, 27, 28, 29, 30, 31, 32]) rfl ?_
      refine s_op (o_mv rfl) ?_
      first | refine s_gDF rfl ?_ ?_ | refine s_gNDF rfl ?_ ?_ | refine s_gNF rfl ?_ ?_ | refine s_gB rfl ?_ ?_
      · intro h4
        try rw [Decidable.not_not] at h4
        refine s_op (o_faC rfl) ?_
        refine s_gT rfl ?_
        refine s_op (o_ldnC rfl rfl rfl) ?_
        refine s_gT rfl ?_
        first | refine s_call rfl rfl (c_207 (Post.req _) (hs.2.1 _ (List.mem_of_getElem? (by assumption)))) ?_ | refine s_callL rfl rfl (by simp) (c_207 (Post.req _) (hs.2.1 _ (List.mem_of_getElem? (by assumption)))) rfl ?_
        refine s_gT rfl ?_
        refine s_op (o_not rfl) ?_
        refine s_op (o_pickF rfl rfl) ?_
        refine s_op (o_mv rfl) ?_
        first | refine s_gDF rfl ?_ ?_ | refine s_gNDF rfl ?_ ?_ | refine s_gNF rfl ?_ ?_ | refine s_gB rfl ?_ ?_
        · intro h5
          try rw [Decidable.not_not] at h5
          refine s_op (o_mv rfl) ?_
          refine s_gT rfl ?_
          first | refine s_op (o_gtr rfl rfl) ?_ | refine s_op (o_bin rfl rfl rfl rfl) ?_
          refine s_gT rfl ?_
          refine s_op (o_mv rfl) ?_
          first | refine s_gDT rfl ?_ ?_ | refine s_gNDT rfl ?_ ?_ | refine s_gNT rfl ?_ ?_ | refine s_gB rfl ?_ ?_
          · intro h6
            try rw [Decidable.not_not] at h6
            refine s_op (o_faC rfl) ?_
            refine s_gT rfl ?_
            refine s_op (o_ldC rfl rfl rfl) ?_
            refine s_gT rfl ?_
            refine s_op (o_faC rfl) ?_
            refine s_gT rfl ?_
            refine s_op (o_ldC rfl rfl rfl) ?_
            refine s_keepO (is := [2, 3, 5, 24, 25, 26, 27, 28, 29, 30, 31, 34, 35, 36, 37, 39, 40, 41, 42, 43, 44, 45, 46]) rfl ?_
            refine s_gT rfl ?_
            refine s_op (o_mv rfl) ?_
            refine s_gT rfl ?_
            first | refine s_op (o_subn rfl rfl (by omega)) ?_ | refine s_op (o_sub rfl rfl) ?_
            refine s_gT rfl ?_
            refine s_iaM rfl rfl (by omega) ?_
            intro y7 e7
            first | simp only [Int.toNat_natCast] at e7 | rw [show ((i : Int) - 1).toNat = i - 1 by omega] at e7
            refine s_gT rfl ?_
            refine s_op (o_fa rfl) ?_
            refine s_gT rfl ?_
            refine s_op (o_ld rfl rfl) ?_
            refine s_gT rfl ?_
            first | refine s_op (o_lss rfl rfl) ?_ | refine s_op (o_bin rfl rfl rfl rfl) ?_
            refine s_gT rfl ?_
            refine s_op (o_pickT rfl rfl) ?_
            refine s_op (o_pickF rfl rfl) ?_
            refine s_nilO ?_
            refine q_seqN ?_
            refine s_keep [2, 3, 5, 24, 25, 26, 27, 28, 29, 30, 31, 34, 35, 36, 37, 40, 41, 42, 43, 44, 45, 46, 47, 48, 49, 50, 51, 52, 53, 54] rfl ?_
            first | refine s_condD rfl ?_ ?_ | refine s_condN rfl ?_ ?_ | refine s_condNB rfl ?_ ?_ | refine s_condB rfl ?_ ?_
            · intro h8
              try rw [Decidable.not_not] at h8
              refine S_seq ?_
              refine s_rg ?_
              refine s_op (o_mv rfl) ?_
              refine s_nilO ?_
              refine q_seqN ?_
              refine s_keep [4] rfl ?_
              refine s_ret ?_
              refine q_blkR ?_
              refine q_seqR ?_
              refine q_loopR ?_
              refine q_blkR ?_
              refine q_seqR ?_
              refine ret_leaf (.inr rfl) rfl rfl ?_
              refine congrArg (fun b => V.w (.bool b)) ?_
              clear hs; first | (unfold Script.ok; rw [range_no (by omega : i < x.posts.length) (okAt_n (by assumption) (by first | exact .inl (by assumption) | exact .inr (.inl (by assumption)) | exact .inr (.inr (by assumption))))]; simp; done) | (unfold Script.ok; rw [range_no (by omega : i < x.posts.length) (by rw [okAt_s (by assumption) (by assumption) (by assumption)]; clear hi; simp; omega)]; simp; done) | (unfold Script.ok; rw [range_all hi.2 (by assumption) hi.1]; clear hi; simp_all; done) | (unfold Script.ok; rw [range_all hi.2 (by assumption) hi.1]; clear hi; simp_all [cast20]; done) | (simp_all [Script.ok]; done) | (simp_all [Script.ok] <;> omega)
            · intro h8
              try rw [Decidable.not_not] at h8
              refine s_skip ?_
              refine q_blkN ?_
              refine q_seqN ?_
              refine s_keep [2, 3, 5, 24, 25, 26, 27, 28, 29, 30, 31, 34, 35, 36, 37, 40, 41, 42, 43, 44, 45, 46, 47, 48, 49, 50, 51, 52, 53] rfl ?_
              refine s_rg ?_
              refine s_op (o_mv rfl) ?_
              first | refine s_op (o_addn rfl rfl (by omega)) ?_ | refine s_op (o_add rfl rfl) ?_
              refine s_op (o_mv rfl) ?_
              refine s_nilO ?_
              refine q_loopN ?_
              first | exact ⟨i + 1, ⟨by omega, range_step hi.2 (by rw [okAt_z (by assumption) (by assumption)]; clear hi; simp_all)⟩, by omega, hasOf ⟨rfl, trivial⟩ rfl⟩ | exact ⟨i + 1, ⟨by omega, range_step hi.2 (by rw [okAt_s (by assumption) (by assumption) (by assumption)]; clear hi; simp_all)⟩, by omega, hasOf ⟨rfl, trivial⟩ rfl⟩
          · intro h6
            try rw [Decidable.not_not] at h6
            refine s_gF rfl ?_
            refine s_gF rfl ?_
            refine s_gF rfl ?_
            refine s_gF rfl ?_
            refine s_keepO (is := [2, 3, 5, 24, 25, 26, 27, 28, 29, 30, 31, 34, 35, 36, 37, 39, 40, 41, 42, 43, 44, 45, 46]) rfl ?_
            refine s_gF rfl ?_
            refine s_gF rfl ?_
            refine s_gF rfl ?_
            refine s_gF rfl ?_
            refine s_gF rfl ?_
            refine s_gF rfl ?_
            refine s_gT rfl ?_
            refine s_op (o_pickF rfl rfl) ?_
            refine s_op (o_pickF rfl rfl) ?_
            refine s_nilO ?_
            refine q_seqN ?_
            refine s_keep [2, 3, 5, 24, 25, 26, 27, 28, 29, 30, 31, 34, 35, 36, 37, 40, 41, 42, 43, 44, 45, 46, 47, 48, 49, 50, 51, 52, 53, 54] rfl ?_
            refine s_condF rfl ?_
            refine s_skip ?_
            refine q_blkN ?_
            refine q_seqN ?_
            refine s_keep [2, 3, 5, 24, 25, 26, 27, 28, 29, 30, 31, 34, 35, 36, 37, 40, 41, 42, 43, 44, 45, 46, 47, 48, 49, 50, 51, 52, 53] rfl ?_
            refine s_rg ?_
            refine s_op (o_mv rfl) ?_
            first | refine s_op (o_addn rfl rfl (by omega)) ?_ | refine s_op (o_add rfl rfl) ?_
            refine s_op (o_mv rfl) ?_
            refine s_nilO ?_
            refine q_loopN ?_
            first | exact ⟨i + 1, ⟨by omega, range_step hi.2 (by rw [okAt_z (by assumption) (by assumption)]; clear hi; simp_all)⟩, by omega, hasOf ⟨rfl, trivial⟩ rfl⟩ | exact ⟨i + 1, ⟨by omega, range_step hi.2 (by rw [okAt_s (by assumption) (by assumption) (by assumption)]; clear hi; simp_all)⟩, by omega, hasOf ⟨rfl, trivial⟩ rfl⟩
        · intro h5
          try rw [Decidable.not_not] at h5
          refine s_gF rfl ?_
          refine s_gF rfl ?_
          refine s_gF rfl ?_
          refine s_gN rfl ?_
          refine s_gN rfl ?_
          refine s_gN rfl ?_
          refine s_gN rfl ?_
          refine s_keepO (is := [2, 3, 5, 24, 25, 26, 27, 28, 29, 30, 31, 34, 35, 36, 37, 39, 40, 41, 42, 43, 44, 45, 46]) rfl ?_
          refine s_gN rfl ?_
          refine s_gN rfl ?_
          refine s_gN rfl ?_
          refine s_gN rfl ?_
          refine s_gN rfl ?_
          refine s_gN rfl ?_
          refine s_gF rfl ?_
          refine s_op (o_pickT rfl rfl) ?_
          refine s_nilO ?_
          refine q_seqN ?_
          refine s_keep [2, 3, 5, 24, 25, 26, 27, 28, 29, 30, 31, 34, 35, 36, 37, 40, 41, 42, 43, 44, 45, 46, 47, 48, 49, 50, 51, 52, 53, 54] rfl ?_
          refine s_condT rfl ?_
          refine S_seq ?_
          refine s_rg ?_
          refine s_op (o_mv rfl) ?_
          refine s_nilO ?_
          refine q_seqN ?_
          refine s_keep [4] rfl ?_
          refine s_ret ?_
          refine q_blkR ?_
          refine q_seqR ?_
          refine q_loopR ?_
          refine q_blkR ?_
          refine q_seqR ?_
          refine ret_leaf (.inr rfl) rfl rfl ?_
          refine congrArg (fun b => V.w (.bool b)) ?_
          clear hs; first | (unfold Script.ok; rw [range_no (by omega : i < x.posts.length) (okAt_n (by assumption) (by first | exact .inl (by assumption) | exact .inr (.inl (by assumption)) | exact .inr (.inr (by assumption))))]; simp; done) | (unfold Script.ok; rw [range_no (by omega : i < x.posts.length) (by rw [okAt_s (by assumption) (by assumption) (by assumption)]; clear hi; simp; omega)]; simp; done) | (unfold Script.ok; rw [range_all hi.2 (by assumption) hi.1]; clear hi; simp_all; done) | (unfold Script.ok; rw [range_all hi.2 (by assumption) hi.1]; clear hi; simp_all [cast20]; done) | (simp_all [Script.ok]; done) | (simp_all [Script.ok] <;> omega)
      · intro h4
        try rw [Decidable.not_not] at h4
        refine s_gF rfl ?_
        refine s_gF rfl ?_
        refine s_gF rfl ?_
        refine s_gF rfl ?_
        refine s_op (o_pickT rfl rfl) ?_
        refine s_op (o_mv rfl) ?_
        refine s_gF rfl ?_
        refine s_gF rfl ?_
        refine s_gF rfl ?_
        refine s_gN rfl ?_
        refine s_gN rfl ?_
        refine s_gN rfl ?_
        refine s_gN rfl ?_
        refine s_keepO (is := [2, 3, 5, 24, 25, 26, 27, 28, 29, 30, 31, 34, 35, 36, 37, 39, 40, 41, 42, 43, 44, 45, 46]) rfl ?_
        refine s_gN rfl ?_
        refine s_gN rfl ?_
        refine s_gN rfl ?_
        refine s_gN rfl ?_
        refine s_gN rfl ?_
        refine s_gN rfl ?_
        refine s_gF rfl ?_
        refine s_op (o_pickT rfl rfl) ?_
        refine s_nilO ?_
        refine q_seqN ?_
        refine s_keep [2, 3, 5, 24, 25, 26, 27, 28, 29, 30, 31, 34, 35, 36, 37, 40, 41, 42, 43, 44, 45, 46, 47, 48, 49, 50, 51, 52, 53, 54] rfl ?_
        refine s_condT rfl ?_
        refine S_seq ?_
        refine s_rg ?_
        refine s_op (o_mv rfl) ?_
        refine s_nilO ?_
        refine q_seqN ?_
        refine s_keep [4] rfl ?_
        refine s_ret ?_
        refine q_blkR ?_
        refine q_seqR ?_
        refine q_loopR ?_
        refine q_blkR ?_
        refine q_seqR ?_
        refine ret_leaf (.inr rfl) rfl rfl ?_
        refine congrArg (fun b => V.w (.bool b)) ?_
        clear hs; first | (unfold Script.ok; rw [range_no (by omega : i < x.posts.length) (okAt_n (by assumption) (by first | exact .inl (by assumption) | exact .inr (.inl (by assumption)) | exact .inr (.inr (by assumption))))]; simp; done) | (unfold Script.ok; rw [range_no (by omega : i < x.posts.length) (by rw [okAt_s (by assumption) (by assumption) (by assumption)]; clear hi; simp; omega)]; simp; done) | (unfold Script.ok; rw [range_all hi.2 (by assumption) hi.1]; clear hi; simp_all; done) | (unfold Script.ok; rw [range_all hi.2 (by assumption) hi.1]; clear hi; simp_all [cast20]; done) | (simp_all [Script.ok]; done) | (simp_all [Script.ok] <;> omega)
    · intro h3
      try rw [Decidable.not_not] at h3
      refine s_gF rfl ?_
      refine s_gF rfl ?_
      refine s_gF rfl ?_
      refine s_gF rfl ?_
      refine s_gF rfl ?_
      refine s_gF rfl ?_
      refine s_gF rfl ?_
      refine s_gF rfl ?_
      refine s_op (o_pickT rfl rfl) ?_
      refine s_keepO (is := [2, 3, 5, 6, 24, 25, 26, 27, 28, 29, 30, 31, 32]) rfl ?_
      refine s_op (o_mv rfl) ?_
      refine s_gF rfl ?_
      refine s_gF rfl ?_
      refine s_gF rfl ?_
      refine s_gF rfl ?_
      refine s_op (o_pickT rfl rfl) ?_
      refine s_op (o_mv rfl) ?_
      refine s_gF rfl ?_
      refine s_gF rfl ?_
      refine s_gF rfl ?_
      refine s_gN rfl ?_
      refine s_gN rfl ?_
      refine s_gN rfl ?_
      refine s_gN rfl ?_
      refine s_keepO (is := [2, 3, 5, 24, 25, 26, 27, 28, 29, 30, 31, 34, 35, 36, 37, 39, 40, 41, 42, 43, 44, 45, 46]) rfl ?_
      refine s_gN rfl ?_
      refine s_gN rfl ?_
      refine s_gN rfl ?_
      refine s_gN rfl ?_
      refine s_gN rfl ?_
      refine s_gN rfl ?_
      refine s_gF rfl ?_
      refine s_op (o_pickT rfl rfl) ?_
      refine s_nilO ?_
      refine q_seqN ?_
      refine s_keep [2, 3, 5, 24, 25, 26, 27, 28, 29, 30, 31, 34, 35, 36, 37, 40, 41, 42, 43, 44, 45, 46, 47, 48, 49, 50, 51, 52, 53, 54] rfl ?_
      refine s_condT rfl ?_
      refine S_seq ?_
      refine s_rg ?_
      refine s_op (o_mv rfl) ?_
      refine s_nilO ?_
      refine q_seqN ?_
      refine s_keep [4] rfl ?_
      refine s_ret ?_
      refine q_blkR ?_
      refine q_seqR ?_
      refine q_loopR ?_
      refine q_blkR ?_
      refine q_seqR ?_
      refine ret_leaf (.inr rfl) rfl rfl ?_
      refine congrArg (fun b => V.w (.bool b)) ?_
      clear hs; first | (unfold Script.ok; rw [range_no (by omega : i < x.posts.length) (okAt_n (by assumption) (by first | exact .inl (by assumption) | exact .inr (.inl (by assumption)) | exact .inr (.inr (by assumption))))]; simp; done) | (unfold Script.ok; rw [range_no (by omega : i < x.posts.length) (by rw [okAt_s (by assumption) (by assumption) (by assumption)]; clear hi; simp; omega)]; simp; done) | (unfold Script.ok; rw [range_all hi.2 (by assumption) hi.1]; clear hi; simp_all; done) | (unfold Script.ok; rw [range_all hi.2 (by assumption) hi.1]; clear hi; simp_all [cast20]; done) | (simp_all [Script.ok]; done) | (simp_all [Script.ok] <;> omega)
  · intro h1
    try rw [Decidable.not_not] at h1
    refine s_exit ?_
    refine q_seqX ?_
    refine q_loopX ?_
    refine q_blkH ?_
    refine q_seqN ?_
    refine s_keep [2, 3] rfl ?_
    refine S_seq ?_
    refine s_rg ?_
    refine s_op (o_ldnC rfl rfl rfl) ?_
    first | refine s_call rfl rfl (c_184 _ (by assumption)) ?_ | refine s_callL rfl rfl (by simp) (c_184 _ (by assumption)) rfl ?_
    refine s_op (o_mv rfl) ?_
    first | refine s_gDT rfl ?_ ?_ | refine s_gNDT rfl ?_ ?_ | refine s_gNT rfl ?_ ?_ | refine s_gB rfl ?_ ?_
    · intro h9
      try rw [Decidable.not_not] at h9
      refine s_op (o_faC rfl) ?_
      refine s_gT rfl ?_
      refine s_op (o_ldC rfl rfl rfl) ?_
      refine s_gT rfl ?_
      first | refine s_op (o_lenM rfl) ?_ | refine s_op (o_len rfl) ?_ | refine s_op (o_lenL rfl rfl rfl) ?_ | refine s_op (o_lenN rfl) ?_
      refine s_gT rfl ?_
      first | refine s_op (o_leq rfl rfl) ?_ | refine s_op (o_bin rfl rfl rfl rfl) ?_
      refine s_op (o_pickT rfl rfl) ?_
      refine s_op (o_mv rfl) ?_
      first | refine s_gDT rfl ?_ ?_ | refine s_gNDT rfl ?_ ?_ | refine s_gNT rfl ?_ ?_ | refine s_gB rfl ?_ ?_
      · intro h10
        try rw [Decidable.not_not] at h10
        refine s_op (o_faC rfl) ?_
        refine s_gT rfl ?_
        refine s_op (o_ldC rfl rfl rfl) ?_
        refine s_gT rfl ?_
        first | refine s_op (o_lenM rfl) ?_ | refine s_op (o_len rfl) ?_ | refine s_op (o_lenL rfl rfl rfl) ?_ | refine s_op (o_lenN rfl) ?_
        refine s_gT rfl ?_
        first | refine s_op (o_leq rfl rfl) ?_ | refine s_op (o_bin rfl rfl rfl rfl) ?_
        refine s_op (o_pickT rfl rfl) ?_
        refine s_keepO (is := [3, 68]) rfl ?_
        refine s_op (o_mv rfl) ?_
        first | refine s_gDT rfl ?_ ?_ | refine s_gNDT rfl ?_ ?_ | refine s_gNT rfl ?_ ?_ | refine s_gB rfl ?_ ?_
        · intro h11
          try rw [Decidable.not_not] at h11
          refine s_op (o_faC rfl) ?_
          refine s_gT rfl ?_
          refine s_op (o_ldC rfl rfl rfl) ?_
          refine s_gT rfl ?_
          first | refine s_op (o_lenM rfl) ?_ | refine s_op (o_len rfl) ?_ | refine s_op (o_lenL rfl rfl rfl) ?_ | refine s_op (o_lenN rfl) ?_
          refine s_gT rfl ?_
          first | refine s_op (o_leq rfl rfl) ?_ | refine s_op (o_bin rfl rfl rfl rfl) ?_
          refine s_op (o_pickT rfl rfl) ?_
          refine s_op (o_mv rfl) ?_
          refine s_nilO ?_
          refine q_seqN ?_
          refine s_keep [4] rfl ?_
          refine s_ret ?_
          refine ret_leaf (.inr rfl) rfl rfl ?_
          refine congrArg (fun b => V.w (.bool b)) ?_
          clear hs; first | (unfold Script.ok; rw [range_no (by omega : i < x.posts.length) (okAt_n (by assumption) (by first | exact .inl (by assumption) | exact .inr (.inl (by assumption)) | exact .inr (.inr (by assumption))))]; simp; done) | (unfold Script.ok; rw [range_no (by omega : i < x.posts.length) (by rw [okAt_s (by assumption) (by assumption) (by assumption)]; clear hi; simp; omega)]; simp; done) | (unfold Script.ok; rw [range_all hi.2 (by assumption) hi.1]; clear hi; simp_all; done) | (unfold Script.ok; rw [range_all hi.2 (by assumption) hi.1]; clear hi; simp_all [cast20]; done) | (simp_all [Script.ok]; done) | (simp_all [Script.ok] <;> omega)
        · intro h11
          try rw [Decidable.not_not] at h11
          refine s_gF rfl ?_
          refine s_gF rfl ?_
          refine s_gF rfl ?_
          refine s_gF rfl ?_
          refine s_op (o_pickF rfl rfl) ?_
          refine s_op (o_mv rfl) ?_
          refine s_nilO ?_
          refine q_seqN ?_
          refine s_keep [4] rfl ?_
          refine s_ret ?_
          refine ret_leaf (.inr rfl) rfl rfl ?_
          refine congrArg (fun b => V.w (.bool b)) ?_
          clear hs; first | (unfold Script.ok; rw [range_no (by omega : i < x.posts.length) (okAt_n (by assumption) (by first | exact .inl (by assumption) | exact .inr (.inl (by assumption)) | exact .inr (.inr (by assumption))))]; simp; done) | (unfold Script.ok; rw [range_no (by omega : i < x.posts.length) (by rw [okAt_s (by assumption) (by assumption) (by assumption)]; clear hi; simp; omega)]; simp; done) | (unfold Script.ok; rw [range_all hi.2 (by assumption) hi.1]; clear hi; simp_all; done) | (unfold Script.ok; rw [range_all hi.2 (by assumption) hi.1]; clear hi; simp_all [cast20]; done) | (simp_all [Script.ok]; done) | (simp_all [Script.ok] <;> omega)
      · intro h10
        try rw [Decidable.not_not] at h10
        refine s_gF rfl ?_
        refine s_gF rfl ?_
        refine s_gF rfl ?_
        refine s_gF rfl ?_
        refine s_op (o_pickF rfl rfl) ?_
        refine s_keepO (is := [3, 68]) rfl ?_
        refine s_op (o_mv rfl) ?_
        refine s_gF rfl ?_
        refine s_gF rfl ?_
        refine s_gF rfl ?_
        refine s_gF rfl ?_
        refine s_op (o_pickF rfl rfl) ?_
        refine s_op (o_mv rfl) ?_
        refine s_nilO ?_
        refine q_seqN ?_
        refine s_keep [4] rfl ?_
        refine s_ret ?_
        refine ret_leaf (.inr rfl) rfl rfl ?_
        refine congrArg (fun b => V.w (.bool b)) ?_
        clear hs; first | (unfold Script.ok; rw [range_no (by omega : i < x.posts.length) (okAt_n (by assumption) (by first | exact .inl (by assumption) | exact .inr (.inl (by assumption)) | exact .inr (.inr (by assumption))))]; simp; done) | (unfold Script.ok; rw [range_no (by omega : i < x.posts.length) (by rw [okAt_s (by assumption) (by assumption) (by assumption)]; clear hi; simp; omega)]; simp; done) | (unfold Script.ok; rw [range_all hi.2 (by assumption) hi.1]; clear hi; simp_all; done) | (unfold Script.ok; rw [range_all hi.2 (by assumption) hi.1]; clear hi; simp_all [cast20]; done) | (simp_all [Script.ok]; done) | (simp_all [Script.ok] <;> omega)
    · intro h9
      try rw [Decidable.not_not] at h9
      refine s_gF rfl ?_
      refine s_gF rfl ?_
      refine s_gF rfl ?_
      refine s_gF rfl ?_
      refine s_op (o_pickF rfl rfl) ?_
      refine s_op (o_mv rfl) ?_
      refine s_gF rfl ?_
      refine s_gF rfl ?_
      refine s_gF rfl ?_
      refine s_gF rfl ?_
      refine s_op (o_pickF rfl rfl) ?_
      refine s_keepO (is := [3, 68]) rfl ?_
      refine s_op (o_mv rfl) ?_
      refine s_gF rfl ?_
      refine s_gF rfl ?_
      refine s_gF rfl ?_
      refine s_gF rfl ?_
      refine s_op (o_pickF rfl rfl) ?_
      refine s_op (o_mv rfl) ?_
      refine s_nilO ?_
      refine q_seqN ?_
      refine s_keep [4] rfl ?_
      refine s_ret ?_
      refine ret_leaf (.inr rfl) rfl rfl ?_
      refine congrArg (fun b => V.w (.bool b)) ?_
      clear hs; first | (unfold Script.ok; rw [range_no (by omega : i < x.posts.length) (okAt_n (by assumption) (by first | exact .inl (by assumption) | exact .inr (.inl (by assumption)) | exact .inr (.inr (by assumption))))]; simp; done) | (unfold Script.ok; rw [range_no (by omega : i < x.posts.length) (by rw [okAt_s (by assumption) (by assumption) (by assumption)]; clear hi; simp; omega)]; simp; done) | (unfold Script.ok; rw [range_all hi.2 (by assumption) hi.1]; clear hi; simp_all; done) | (unfold Script.ok; rw [range_all hi.2 (by assumption) hi.1]; clear hi; simp_all [cast20]; done) | (simp_all [Script.ok]; done) | (simp_all [Script.ok] <;> omega)

theorem c_349 (c : Conf) (hwc : c.wf) (s : Script) (hws : s.wf) : CV prg 349 [.agg c.r, .agg s.r] (fun res => res = .w (.bool true)) := by
  refine cv_in g349 ?_
  refine s_keep [0, 1] rfl ?_
  refine S_seq ?_
  refine s_rg ?_
  refine s_op (o_box rfl rfl rfl) ?_
  refine s_op (o_box rfl rfl rfl) ?_
  refine s_op (o_mv rfl) ?_
  refine s_nilO ?_
  refine q_seqN ?_
  refine s_keep [2, 3] rfl ?_
  refine S_seq ?_
  refine s_rg ?_
  refine s_op (o_mv rfl) ?_
  refine s_nilO ?_
  refine q_seqN ?_
  refine s_keep [2, 3, 5] rfl ?_
  refine S_seq ?_
  refine s_rg ?_
  refine s_op (o_ldnC rfl rfl rfl) ?_
  refine s_op (o_mv rfl) ?_
  first | refine s_call rfl rfl (c_145 _ _ (by (try unfold room at *); omega) (by assumption)) ?_ | refine s_callL rfl rfl (by simp) (c_145 _ _ (by (try unfold room at *); omega) (by assumption)) rfl ?_
  refine s_op (o_mv rfl) ?_
  refine s_nilO ?_
  refine q_seqN ?_
  refine s_keep [2, 3, 5] rfl ?_
  refine S_seq ?_
  refine S_seq ?_
  refine s_rg ?_
  refine s_op (o_mv rfl) ?_
  first | refine s_op (o_lss rfl rfl) ?_ | refine s_op (o_bin rfl rfl rfl rfl) ?_
  refine s_nilO ?_
  refine q_seqN ?_
  refine s_keep [2, 3, 5, 14] rfl ?_
  first | refine s_condD rfl ?_ ?_ | refine s_condN rfl ?_ ?_ | refine s_condNB rfl ?_ ?_ | refine s_condB rfl ?_ ?_
  · intro h1
    try rw [Decidable.not_not] at h1
    try have hsc : c.small := Conf.small_of (by (try unfold room at *); omega)
    try have hlc : c.masters.length ≤ 1048576 := hsc
    try rw [decide_eq_true (rfl : c = c)] at h1
    try have hss : s.small := Script.small_of (by (try unfold room at *); omega)
    try rw [decide_eq_true (rfl : s = s)] at h1
    refine S_seq ?_
    refine s_rg ?_
    refine s_op (o_mv rfl) ?_
    refine s_nilO ?_
    refine q_seqN ?_
    refine s_keep [4] rfl ?_
    refine s_ret ?_
    refine q_seqR ?_
    refine ret_leaf (.inr rfl) rfl rfl ?_
    refine congrArg (fun b => V.w (.bool b)) ?_
    simp_all
  · intro h1
    try rw [Decidable.not_not] at h1
    try have hsc : c.small := Conf.small_of (by (try unfold room at *); omega)
    try have hlc : c.masters.length ≤ 1048576 := hsc
    try rw [decide_eq_true (rfl : c = c)] at h1
    try have hss : s.small := Script.small_of (by (try unfold room at *); omega)
    try rw [decide_eq_true (rfl : s = s)] at h1
    refine s_skip ?_
    refine q_seqN ?_
    refine s_keep [2, 3, 5] rfl ?_
    refine S_seq ?_
    refine s_rg ?_
    refine s_op (o_ldnC rfl rfl rfl) ?_
    refine s_op (o_mv rfl) ?_
    first | refine s_call rfl rfl (c_320 _ _ (by (try unfold room at *); omega) (by assumption)) ?_ | refine s_callL rfl rfl (by simp) (c_320 _ _ (by (try unfold room at *); omega) (by assumption)) rfl ?_
    refine s_op (o_mv rfl) ?_
    refine s_nilO ?_
    refine q_seqN ?_
    refine s_keep [2, 3, 5] rfl ?_
    refine S_seq ?_
    refine S_seq ?_
    refine s_rg ?_
    refine s_op (o_mv rfl) ?_
    first | refine s_op (o_lss rfl rfl) ?_ | refine s_op (o_bin rfl rfl rfl rfl) ?_
    refine s_nilO ?_
    refine q_seqN ?_
    refine s_keep [2, 3, 19] rfl ?_
    first | refine s_condD rfl ?_ ?_ | refine s_condN rfl ?_ ?_ | refine s_condNB rfl ?_ ?_ | refine s_condB rfl ?_ ?_
    · intro h2
      try rw [Decidable.not_not] at h2
      try have hsc : c.small := Conf.small_of (by (try unfold room at *); omega)
      try have hlc : c.masters.length ≤ 1048576 := hsc
      try rw [decide_eq_true (rfl : c = c)] at h2
      try have hss : s.small := Script.small_of (by (try unfold room at *); omega)
      try rw [decide_eq_true (rfl : s = s)] at h2
      refine S_seq ?_
      refine s_rg ?_
      refine s_op (o_mv rfl) ?_
      refine s_nilO ?_
      refine q_seqN ?_
      refine s_keep [4] rfl ?_
      refine s_ret ?_
      refine q_seqR ?_
      refine ret_leaf (.inr rfl) rfl rfl ?_
      refine congrArg (fun b => V.w (.bool b)) ?_
      simp_all
    · intro h2
      try rw [Decidable.not_not] at h2
      try have hsc : c.small := Conf.small_of (by (try unfold room at *); omega)
      try have hlc : c.masters.length ≤ 1048576 := hsc
      try rw [decide_eq_true (rfl : c = c)] at h2
      try have hss : s.small := Script.small_of (by (try unfold room at *); omega)
      try rw [decide_eq_true (rfl : s = s)] at h2
      refine s_skip ?_
      refine q_seqN ?_
      refine s_keep [2, 3] rfl ?_
      refine S_seq ?_
      refine s_rg ?_
      refine s_op (o_ldnC rfl rfl rfl) ?_
      first | refine s_call rfl rfl (c_159 _ (by assumption)) ?_ | refine s_callL rfl rfl (by simp) (c_159 _ (by assumption)) rfl ?_
      refine s_op (o_ldnC rfl rfl rfl) ?_
      first | refine s_call rfl rfl (c_321 _ (by assumption)) ?_ | refine s_callL rfl rfl (by simp) (c_321 _ (by assumption)) rfl ?_
      first | refine s_call rfl rfl (c_212 _ _ (by assumption) (by assumption)) ?_ | refine s_callL rfl rfl (by simp) (c_212 _ _ (by assumption) (by assumption)) rfl ?_
      refine s_op (o_mv rfl) ?_
      refine s_nilO ?_
      refine q_seqN ?_
      refine s_keep [2, 3, 6] rfl ?_
      refine S_seq ?_
      refine s_rg ?_
      refine s_op (o_ldnC rfl rfl rfl) ?_
      first | refine s_call rfl rfl (c_159 _ (by assumption)) ?_ | refine s_callL rfl rfl (by simp) (c_159 _ (by assumption)) rfl ?_
      refine s_op (o_new rfl rfl) ?_
      refine s_opN (o_stnC rfl rfl rfl rfl rfl rfl rfl) ?_
      refine s_nilO ?_
      refine q_seqN ?_
      refine s_keep [2, 3, 6, 7] rfl ?_
      refine S_seq ?_
      refine s_rg ?_
      refine s_op (o_ldnC rfl rfl rfl) ?_
      first | refine s_call rfl rfl (c_321 _ (by assumption)) ?_ | refine s_callL rfl rfl (by simp) (c_321 _ (by assumption)) rfl ?_
      refine s_op (o_new rfl rfl) ?_
      refine s_opN (o_stnC rfl rfl rfl rfl rfl rfl rfl) ?_
      refine s_nilO ?_
      refine q_seqN ?_
      refine s_keep [2, 3, 6, 7, 8] rfl ?_
      refine S_seq ?_
      refine s_rg ?_
      refine s_op (o_ldnC rfl rfl rfl) ?_
      refine s_op (o_ldnC rfl rfl rfl) ?_
      first | refine s_call rfl rfl (c_365 _ _ (by assumption) (by assumption)) ?_ | refine s_callL rfl rfl (by simp) (c_365 _ _ (by assumption) (by assumption)) rfl ?_
      refine s_op (o_mv rfl) ?_
      refine s_nilO ?_
      refine q_seqN ?_
      refine s_keep [2, 3, 6, 7, 8, 9] rfl ?_
      refine S_seq ?_
      refine S_seq ?_
      refine s_rg ?_
      refine s_op (o_mv rfl) ?_
      refine s_op (o_mv rfl) ?_
      refine s_op (o_eqb rfl rfl) ?_
      refine s_nilO ?_
      refine q_seqN ?_
      refine s_keep [2, 3, 7, 8, 34] rfl ?_
      first | refine s_condD rfl ?_ ?_ | refine s_condN rfl ?_ ?_ | refine s_condNB rfl ?_ ?_ | refine s_condB rfl ?_ ?_
      · intro h3
        try rw [Decidable.not_not] at h3
        try have hsc : c.small := Conf.small_of (by (try unfold room at *); omega)
        try have hlc : c.masters.length ≤ 1048576 := hsc
        try rw [decide_eq_true (rfl : c = c)] at h3
        try have hss : s.small := Script.small_of (by (try unfold room at *); omega)
        try rw [decide_eq_true (rfl : s = s)] at h3
        refine S_seq ?_
        refine s_rg ?_
        refine s_op (o_mv rfl) ?_
        refine s_nilO ?_
        refine q_seqN ?_
        refine s_keep [4] rfl ?_
        refine s_ret ?_
        refine q_seqR ?_
        refine ret_leaf (.inr rfl) rfl rfl ?_
        refine congrArg (fun b => V.w (.bool b)) ?_
        simp_all
      · intro h3
        try rw [Decidable.not_not] at h3
        try have hsc : c.small := Conf.small_of (by (try unfold room at *); omega)
        try have hlc : c.masters.length ≤ 1048576 := hsc
        try rw [decide_eq_true (rfl : c = c)] at h3
        try have hss : s.small := Script.small_of (by (try unfold room at *); omega)
        try rw [decide_eq_true (rfl : s = s)] at h3
        refine s_skip ?_
        refine q_seqN ?_
        refine s_keep [2, 3, 7, 8] rfl ?_
        refine S_seq ?_
        refine S_seq ?_
        refine s_rg ?_
        refine s_op (o_ldnC rfl rfl rfl) ?_
        refine s_op (o_ldnC rfl rfl rfl) ?_
        first | refine s_call rfl rfl (c_159 _ (by assumption)) ?_ | refine s_callL rfl rfl (by simp) (c_159 _ (by assumption)) rfl ?_
        first | refine s_call rfl rfl (c_128 _ _ (by assumption)) ?_ | refine s_callL rfl rfl (by simp) (c_128 _ _ (by assumption)) rfl ?_
        refine s_op (o_not rfl) ?_
        refine s_nilO ?_
        refine q_seqN ?_
        refine s_keep [3, 8, 39] rfl ?_
        first | refine s_condD rfl ?_ ?_ | refine s_condN rfl ?_ ?_ | refine s_condNB rfl ?_ ?_ | refine s_condB rfl ?_ ?_
        · intro h4
          try rw [Decidable.not_not] at h4
          try have hsc : c.small := Conf.small_of (by (try unfold room at *); omega)
          try have hlc : c.masters.length ≤ 1048576 := hsc
          try rw [decide_eq_true (rfl : c = c)] at h4
          try have hss : s.small := Script.small_of (by (try unfold room at *); omega)
          try rw [decide_eq_true (rfl : s = s)] at h4
          refine S_seq ?_
          refine s_rg ?_
          refine s_op (o_mv rfl) ?_
          refine s_nilO ?_
          refine q_seqN ?_
          refine s_keep [4] rfl ?_
          refine s_ret ?_
          refine q_seqR ?_
          refine ret_leaf (.inr rfl) rfl rfl ?_
          refine congrArg (fun b => V.w (.bool b)) ?_
          simp_all
        · intro h4
          try rw [Decidable.not_not] at h4
          try have hsc : c.small := Conf.small_of (by (try unfold room at *); omega)
          try have hlc : c.masters.length ≤ 1048576 := hsc
          try rw [decide_eq_true (rfl : c = c)] at h4
          try have hss : s.small := Script.small_of (by (try unfold room at *); omega)
          try rw [decide_eq_true (rfl : s = s)] at h4
          refine s_skip ?_
          refine q_seqN ?_
          refine s_keep [3, 8] rfl ?_
          refine S_seq ?_
          refine S_seq ?_
          refine s_rg ?_
          refine s_op (o_ldnC rfl rfl rfl) ?_
          refine s_op (o_ldnC rfl rfl rfl) ?_
          first | refine s_call rfl rfl (c_321 _ (by assumption)) ?_ | refine s_callL rfl rfl (by simp) (c_321 _ (by assumption)) rfl ?_
          first | refine s_call rfl rfl (c_322 _ _ (by assumption)) ?_ | refine s_callL rfl rfl (by simp) (c_322 _ _ (by assumption)) rfl ?_
          refine s_op (o_not rfl) ?_
          refine s_nilO ?_
          refine q_seqN ?_
          refine s_keep [44] rfl ?_
          first | refine s_condD rfl ?_ ?_ | refine s_condN rfl ?_ ?_ | refine s_condNB rfl ?_ ?_ | refine s_condB rfl ?_ ?_
          · intro h5
            try rw [Decidable.not_not] at h5
            try have hsc : c.small := Conf.small_of (by (try unfold room at *); omega)
            try have hlc : c.masters.length ≤ 1048576 := hsc
            try rw [decide_eq_true (rfl : c = c)] at h5
            try have hss : s.small := Script.small_of (by (try unfold room at *); omega)
            try rw [decide_eq_true (rfl : s = s)] at h5
            refine S_seq ?_
            refine s_rg ?_
            refine s_op (o_mv rfl) ?_
            refine s_nilO ?_
            refine q_seqN ?_
            refine s_keep [4] rfl ?_
            refine s_ret ?_
            refine q_seqR ?_
            refine ret_leaf (.inr rfl) rfl rfl ?_
            refine congrArg (fun b => V.w (.bool b)) ?_
            simp_all
          · intro h5
            try rw [Decidable.not_not] at h5
            try have hsc : c.small := Conf.small_of (by (try unfold room at *); omega)
            try have hlc : c.masters.length ≤ 1048576 := hsc
            try rw [decide_eq_true (rfl : c = c)] at h5
            try have hss : s.small := Script.small_of (by (try unfold room at *); omega)
            try rw [decide_eq_true (rfl : s = s)] at h5
            refine s_skip ?_
            refine q_seqN ?_
            refine s_keep [] rfl ?_
            refine S_seq ?_
            refine s_rg ?_
            refine s_op (o_mv rfl) ?_
            refine s_nilO ?_
            refine q_seqN ?_
            refine s_keep [4] rfl ?_
            refine s_ret ?_
            refine ret_leaf (.inr rfl) rfl rfl ?_
            refine congrArg (fun b => V.w (.bool b)) ?_
            simp_all

end Go.Proofs.Ytdialnejieoelaa.AL
