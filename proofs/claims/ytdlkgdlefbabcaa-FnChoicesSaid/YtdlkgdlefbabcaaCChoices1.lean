/- What functions do with plain data, each by the form of its code. Printed by program. -/
import Derived.Test.YtdlkgdlefbabcaaCChoices0
namespace Go.Proofs.Ytdlkgdlefbabcaa.AL
open Go
set_option linter.unusedVariables false
set_option linter.unusedSimpArgs false
set_option maxRecDepth 4096

theorem cg_239 (code : List Int) (hc : code.length ≤ 1048576) (i h : Int) (hi : 0 ≤ i ∧ i ≤ code.length) : GV prg 239 [cur code i h] [.cp 0 0] (fun u L1 => (∃ x : Req, u = .agg x.r ∧ x.data.length ≤ 16) ∧ ∃ (i h : Int), (0 ≤ i ∧ i ≤ code.length) ∧ L1 = [cur code i h]) := by
  refine gv_inF g239 ?_
  refine s_keep [0] rfl ?_
  refine S_seq ?_
  refine s_rg ?_
  refine s_op (o_new rfl rfl) ?_
  refine s_nilO ?_
  refine q_seqN ?_
  refine s_keep [0, 2] rfl ?_
  refine S_seq ?_
  refine s_rg ?_
  refine s_op (o_mv rfl) ?_
  refine s_callG [0] rfl rfl rfl rfl (by simp) (.inl rfl) (cgo_241 _ hc _ _ hi) ?_
  rintro u L1 ⟨z, i, h, rfl, hz, hi, rfl⟩
  refine ⟨_, _, rfl, rfl, ?_⟩
  refine s_op (o_new rfl rfl) ?_
  refine s_opN (o_stnC rfl rfl rfl rfl rfl rfl rfl) ?_
  refine s_nilO ?_
  refine q_seqN ?_
  refine s_keep [0, 2, 3] rfl ?_
  refine S_seq ?_
  refine S_seq ?_
  refine s_rg ?_
  refine s_op (o_mv rfl) ?_
  refine s_callG [0] rfl rfl rfl rfl (by simp) (.inl rfl) (cg_228 _ hc _ _ hi _) ?_
  rintro u L1 ⟨⟨x, rfl, hx⟩, i, h, hi, rfl⟩
  refine ⟨_, _, rfl, rfl, ?_⟩
  refine s_nilO ?_
  refine q_seqN ?_
  refine s_keep [0, 2, 3, 7] rfl ?_
  refine S_block ?_
  refine S_seq ?_
  refine s_rg ?_
  first | refine s_op (o_eql rfl rfl) ?_ | refine s_op (o_bin rfl rfl rfl rfl) ?_
  refine s_op (o_mv rfl) ?_
  refine s_nilO ?_
  refine q_seqN ?_
  refine s_keep [0, 2, 3, 7, 8] rfl ?_
  first | refine s_condD rfl ?_ ?_ | refine s_condN rfl ?_ ?_ | refine s_condNB rfl ?_ ?_ | refine s_condB rfl ?_ ?_
  · intro h1
    try rw [Decidable.not_not] at h1
    refine s_rg ?_
    refine s_op (o_mv rfl) ?_
    refine s_op (o_bs rfl rfl rfl rfl) ?_
    refine s_callG [0, 4] rfl rfl rfl rfl (by simp) (.inl rfl) (cg_234 _ hc _ _ hi _ _ rfl (by simp) (by simp)) ?_
    rintro u L1 ⟨⟨x, rfl, hx⟩, i, h, hi, rfl⟩
    refine ⟨_, _, rfl, rfl, ?_⟩
    try simp only [List.mem_cons, List.not_mem_nil, or_false] at hx
    refine s_op (o_faC rfl) ?_
    refine s_opN (o_stC rfl rfl rfl rfl rfl rfl) ?_
    refine s_nilO ?_
    refine q_blkN ?_
    refine q_seqN ?_
    refine s_keep [2, 3] rfl ?_
    refine S_seq ?_
    refine s_rg ?_
    refine s_op (o_ldnC rfl rfl rfl) ?_
    refine s_opN (o_stnC rfl rfl rfl rfl rfl rfl rfl) ?_
    refine s_nilO ?_
    refine q_seqN ?_
    refine s_keep [2] rfl ?_
    refine s_ret ?_
    refine retF_leaf (.inr rfl) rfl rfl (by simp) rfl ?_
    first | exact ⟨⟨⟨z.write, z.addr, z.size, z.burst, z.lock, z.data⟩, rfl, by simp only; omega⟩, _, _, (by omega), rfl⟩ | exact ⟨⟨⟨z.write, x, z.size, z.burst, z.lock, z.data⟩, rfl, by simp only; omega⟩, _, _, (by omega), rfl⟩ | exact ⟨⟨⟨(!z.write), z.addr, z.size, z.burst, z.lock, z.data⟩, rfl, by simp only; omega⟩, _, _, (by omega), rfl⟩ | exact ⟨⟨⟨z.write, z.addr, x, z.burst, z.lock, z.data⟩, rfl, by simp only; omega⟩, _, _, (by omega), rfl⟩ | exact ⟨⟨⟨z.write, z.addr, z.size, x, z.lock, z.data⟩, rfl, by simp only; omega⟩, _, _, (by omega), rfl⟩ | exact ⟨⟨⟨z.write, z.addr, z.size, z.burst, z.lock, z.data ++ [1]⟩, (by simp only [Req.r, List.map_append]; rfl), by simp only [List.length_append, List.length_cons, List.length_nil]; omega⟩, _, _, (by omega), rfl⟩
  · intro h1
    try rw [Decidable.not_not] at h1
    refine S_seq ?_
    refine s_rg ?_
    first | refine s_op (o_eql rfl rfl) ?_ | refine s_op (o_bin rfl rfl rfl rfl) ?_
    refine s_op (o_mv rfl) ?_
    refine s_nilO ?_
    refine q_seqN ?_
    refine s_keep [0, 2, 3, 7, 14] rfl ?_
    first | refine s_condD rfl ?_ ?_ | refine s_condN rfl ?_ ?_ | refine s_condNB rfl ?_ ?_ | refine s_condB rfl ?_ ?_
    · intro h2
      try rw [Decidable.not_not] at h2
      refine s_rg ?_
      refine s_op (o_faC rfl) ?_
      refine s_op (o_ldC rfl rfl rfl) ?_
      refine s_op (o_not rfl) ?_
      refine s_op (o_faC rfl) ?_
      refine s_opN (o_stC rfl rfl rfl rfl rfl rfl) ?_
      refine s_nilO ?_
      refine q_blkN ?_
      refine q_seqN ?_
      refine s_keep [2, 3] rfl ?_
      refine S_seq ?_
      refine s_rg ?_
      refine s_op (o_ldnC rfl rfl rfl) ?_
      refine s_opN (o_stnC rfl rfl rfl rfl rfl rfl rfl) ?_
      refine s_nilO ?_
      refine q_seqN ?_
      refine s_keep [2] rfl ?_
      refine s_ret ?_
      refine retF_leaf (.inr rfl) rfl rfl (by simp) rfl ?_
      first | exact ⟨⟨⟨z.write, z.addr, z.size, z.burst, z.lock, z.data⟩, rfl, by simp only; omega⟩, _, _, (by omega), rfl⟩ | exact ⟨⟨⟨z.write, x, z.size, z.burst, z.lock, z.data⟩, rfl, by simp only; omega⟩, _, _, (by omega), rfl⟩ | exact ⟨⟨⟨(!z.write), z.addr, z.size, z.burst, z.lock, z.data⟩, rfl, by simp only; omega⟩, _, _, (by omega), rfl⟩ | exact ⟨⟨⟨z.write, z.addr, x, z.burst, z.lock, z.data⟩, rfl, by simp only; omega⟩, _, _, (by omega), rfl⟩ | exact ⟨⟨⟨z.write, z.addr, z.size, x, z.lock, z.data⟩, rfl, by simp only; omega⟩, _, _, (by omega), rfl⟩ | exact ⟨⟨⟨z.write, z.addr, z.size, z.burst, z.lock, z.data ++ [1]⟩, (by simp only [Req.r, List.map_append]; rfl), by simp only [List.length_append, List.length_cons, List.length_nil]; omega⟩, _, _, (by omega), rfl⟩
    · intro h2
      try rw [Decidable.not_not] at h2
      refine S_seq ?_
      refine s_rg ?_
      first | refine s_op (o_eql rfl rfl) ?_ | refine s_op (o_bin rfl rfl rfl rfl) ?_
      refine s_op (o_mv rfl) ?_
      refine s_nilO ?_
      refine q_seqN ?_
      refine s_keep [0, 2, 3, 7, 20] rfl ?_
      first | refine s_condD rfl ?_ ?_ | refine s_condN rfl ?_ ?_ | refine s_condNB rfl ?_ ?_ | refine s_condB rfl ?_ ?_
      · intro h3
        try rw [Decidable.not_not] at h3
        refine s_rg ?_
        refine s_op (o_mv rfl) ?_
        refine s_callG [0] rfl rfl rfl rfl (by simp) (.inl rfl) (cg_237 _ hc _ _ hi) ?_
        rintro u L1 ⟨⟨x, rfl, hx⟩, i, h, hi, rfl⟩
        refine ⟨_, _, rfl, rfl, ?_⟩
        refine s_op (o_faC rfl) ?_
        refine s_opN (o_stC rfl rfl rfl rfl rfl rfl) ?_
        refine s_nilO ?_
        refine q_blkN ?_
        refine q_seqN ?_
        refine s_keep [2, 3] rfl ?_
        refine S_seq ?_
        refine s_rg ?_
        refine s_op (o_ldnC rfl rfl rfl) ?_
        refine s_opN (o_stnC rfl rfl rfl rfl rfl rfl rfl) ?_
        refine s_nilO ?_
        refine q_seqN ?_
        refine s_keep [2] rfl ?_
        refine s_ret ?_
        refine retF_leaf (.inr rfl) rfl rfl (by simp) rfl ?_
        first | exact ⟨⟨⟨z.write, z.addr, z.size, z.burst, z.lock, z.data⟩, rfl, by simp only; omega⟩, _, _, (by omega), rfl⟩ | exact ⟨⟨⟨z.write, x, z.size, z.burst, z.lock, z.data⟩, rfl, by simp only; omega⟩, _, _, (by omega), rfl⟩ | exact ⟨⟨⟨(!z.write), z.addr, z.size, z.burst, z.lock, z.data⟩, rfl, by simp only; omega⟩, _, _, (by omega), rfl⟩ | exact ⟨⟨⟨z.write, z.addr, x, z.burst, z.lock, z.data⟩, rfl, by simp only; omega⟩, _, _, (by omega), rfl⟩ | exact ⟨⟨⟨z.write, z.addr, z.size, x, z.lock, z.data⟩, rfl, by simp only; omega⟩, _, _, (by omega), rfl⟩ | exact ⟨⟨⟨z.write, z.addr, z.size, z.burst, z.lock, z.data ++ [1]⟩, (by simp only [Req.r, List.map_append]; rfl), by simp only [List.length_append, List.length_cons, List.length_nil]; omega⟩, _, _, (by omega), rfl⟩
      · intro h3
        try rw [Decidable.not_not] at h3
        refine S_seq ?_
        refine s_rg ?_
        first | refine s_op (o_eql rfl rfl) ?_ | refine s_op (o_bin rfl rfl rfl rfl) ?_
        refine s_op (o_mv rfl) ?_
        refine s_nilO ?_
        refine q_seqN ?_
        refine s_keep [0, 2, 3, 7, 25] rfl ?_
        first | refine s_condD rfl ?_ ?_ | refine s_condN rfl ?_ ?_ | refine s_condNB rfl ?_ ?_ | refine s_condB rfl ?_ ?_
        · intro h4
          try rw [Decidable.not_not] at h4
          refine s_rg ?_
          refine s_op (o_mv rfl) ?_
          refine s_callG [0] rfl rfl rfl rfl (by simp) (.inl rfl) (cg_237 _ hc _ _ hi) ?_
          rintro u L1 ⟨⟨x, rfl, hx⟩, i, h, hi, rfl⟩
          refine ⟨_, _, rfl, rfl, ?_⟩
          refine s_op (o_faC rfl) ?_
          refine s_opN (o_stC rfl rfl rfl rfl rfl rfl) ?_
          refine s_nilO ?_
          refine q_blkN ?_
          refine q_seqN ?_
          refine s_keep [2, 3] rfl ?_
          refine S_seq ?_
          refine s_rg ?_
          refine s_op (o_ldnC rfl rfl rfl) ?_
          refine s_opN (o_stnC rfl rfl rfl rfl rfl rfl rfl) ?_
          refine s_nilO ?_
          refine q_seqN ?_
          refine s_keep [2] rfl ?_
          refine s_ret ?_
          refine retF_leaf (.inr rfl) rfl rfl (by simp) rfl ?_
          first | exact ⟨⟨⟨z.write, z.addr, z.size, z.burst, z.lock, z.data⟩, rfl, by simp only; omega⟩, _, _, (by omega), rfl⟩ | exact ⟨⟨⟨z.write, x, z.size, z.burst, z.lock, z.data⟩, rfl, by simp only; omega⟩, _, _, (by omega), rfl⟩ | exact ⟨⟨⟨(!z.write), z.addr, z.size, z.burst, z.lock, z.data⟩, rfl, by simp only; omega⟩, _, _, (by omega), rfl⟩ | exact ⟨⟨⟨z.write, z.addr, x, z.burst, z.lock, z.data⟩, rfl, by simp only; omega⟩, _, _, (by omega), rfl⟩ | exact ⟨⟨⟨z.write, z.addr, z.size, x, z.lock, z.data⟩, rfl, by simp only; omega⟩, _, _, (by omega), rfl⟩ | exact ⟨⟨⟨z.write, z.addr, z.size, z.burst, z.lock, z.data ++ [1]⟩, (by simp only [Req.r, List.map_append]; rfl), by simp only [List.length_append, List.length_cons, List.length_nil]; omega⟩, _, _, (by omega), rfl⟩
        · intro h4
          try rw [Decidable.not_not] at h4
          refine S_seq ?_
          refine s_rg ?_
          first | refine s_op (o_eql rfl rfl) ?_ | refine s_op (o_bin rfl rfl rfl rfl) ?_
          refine s_op (o_mv rfl) ?_
          refine s_nilO ?_
          refine q_seqN ?_
          refine s_keep [2, 3, 30] rfl ?_
          first | refine s_condD rfl ?_ ?_ | refine s_condN rfl ?_ ?_ | refine s_condNB rfl ?_ ?_ | refine s_condB rfl ?_ ?_
          · intro h5
            try rw [Decidable.not_not] at h5
            refine s_rg ?_
            refine s_op (o_faC rfl) ?_
            refine s_op (o_ldC rfl rfl rfl) ?_
            refine s_op (o_bs rfl rfl rfl rfl) ?_
            first | refine s_op (o_appL rfl rfl (by simp) rfl rfl rfl rfl (by simp [roomy]; omega)) ?_ | refine s_op (o_app rfl rfl (by simp) rfl rfl (by simp [roomy]; omega)) ?_
            refine s_op (o_faC rfl) ?_
            refine s_opN (o_stC rfl rfl rfl rfl rfl rfl) ?_
            refine s_nilO ?_
            refine q_blkN ?_
            refine q_seqN ?_
            refine s_keep [2, 3] rfl ?_
            refine S_seq ?_
            refine s_rg ?_
            refine s_op (o_ldnC rfl rfl rfl) ?_
            refine s_opN (o_stnC rfl rfl rfl rfl rfl rfl rfl) ?_
            refine s_nilO ?_
            refine q_seqN ?_
            refine s_keep [2] rfl ?_
            refine s_ret ?_
            refine retF_leaf (.inr rfl) rfl rfl (by simp) rfl ?_
            first | exact ⟨⟨⟨z.write, z.addr, z.size, z.burst, z.lock, z.data⟩, rfl, by simp only; omega⟩, _, _, (by omega), rfl⟩ | exact ⟨⟨⟨z.write, x, z.size, z.burst, z.lock, z.data⟩, rfl, by simp only; omega⟩, _, _, (by omega), rfl⟩ | exact ⟨⟨⟨(!z.write), z.addr, z.size, z.burst, z.lock, z.data⟩, rfl, by simp only; omega⟩, _, _, (by omega), rfl⟩ | exact ⟨⟨⟨z.write, z.addr, x, z.burst, z.lock, z.data⟩, rfl, by simp only; omega⟩, _, _, (by omega), rfl⟩ | exact ⟨⟨⟨z.write, z.addr, z.size, x, z.lock, z.data⟩, rfl, by simp only; omega⟩, _, _, (by omega), rfl⟩ | exact ⟨⟨⟨z.write, z.addr, z.size, z.burst, z.lock, z.data ++ [1]⟩, (by simp only [Req.r, List.map_append]; rfl), by simp only [List.length_append, List.length_cons, List.length_nil]; omega⟩, _, _, (by omega), rfl⟩
          · intro h5
            try rw [Decidable.not_not] at h5
            refine s_skip ?_
            refine q_blkN ?_
            refine q_seqN ?_
            refine s_keep [2, 3] rfl ?_
            refine S_seq ?_
            refine s_rg ?_
            refine s_op (o_ldnC rfl rfl rfl) ?_
            refine s_opN (o_stnC rfl rfl rfl rfl rfl rfl rfl) ?_
            refine s_nilO ?_
            refine q_seqN ?_
            refine s_keep [2] rfl ?_
            refine s_ret ?_
            refine retF_leaf (.inr rfl) rfl rfl (by simp) rfl ?_
            first | exact ⟨⟨⟨z.write, z.addr, z.size, z.burst, z.lock, z.data⟩, rfl, by simp only; omega⟩, _, _, (by omega), rfl⟩ | exact ⟨⟨⟨z.write, x, z.size, z.burst, z.lock, z.data⟩, rfl, by simp only; omega⟩, _, _, (by omega), rfl⟩ | exact ⟨⟨⟨(!z.write), z.addr, z.size, z.burst, z.lock, z.data⟩, rfl, by simp only; omega⟩, _, _, (by omega), rfl⟩ | exact ⟨⟨⟨z.write, z.addr, x, z.burst, z.lock, z.data⟩, rfl, by simp only; omega⟩, _, _, (by omega), rfl⟩ | exact ⟨⟨⟨z.write, z.addr, z.size, x, z.lock, z.data⟩, rfl, by simp only; omega⟩, _, _, (by omega), rfl⟩ | exact ⟨⟨⟨z.write, z.addr, z.size, z.burst, z.lock, z.data ++ [1]⟩, (by simp only [Req.r, List.map_append]; rfl), by simp only [List.length_append, List.length_cons, List.length_nil]; omega⟩, _, _, (by omega), rfl⟩

theorem cg_248 (code : List Int) (hc : code.length ≤ 1048576) (i h : Int) (hi : 0 ≤ i ∧ i ≤ code.length) (most : Int) (hm : most ≤ 16) : GV prg 248 [cur code i h] [.cp 0 0, .w (.int .i64 most)] (fun u L1 => (∃ l : List Int, u = .sl 1 (l.map iR) ∧ l.length ≤ 6 ∧ ∀ y, y ∈ l → 0 ≤ y ∧ y ≤ 16) ∧ ∃ (i h : Int), (0 ≤ i ∧ i ≤ code.length) ∧ L1 = [cur code i h]) := by
  refine gv_inF g248 ?_
  refine s_keep [0, 1] rfl ?_
  refine S_seq ?_
  refine s_rg ?_
  refine s_op (o_mv rfl) ?_
  refine s_nilO ?_
  refine q_seqN ?_
  refine s_keep [0, 1] rfl ?_
  refine S_seq ?_
  refine s_rg ?_
  refine s_op (o_bs rfl rfl rfl rfl) ?_
  refine s_op (o_mv rfl) ?_
  refine s_nilO ?_
  refine q_seqN ?_
  refine s_keep [0, 1, 5] rfl ?_
  refine S_seq ?_
  refine S_seq ?_
  refine s_rg ?_
  refine s_op (o_mv rfl) ?_
  refine s_callG [0] rfl rfl rfl rfl (by simp) (.inl rfl) (cg_228 _ hc _ _ hi _) ?_
  rintro u L1 ⟨⟨n0, rfl, hn0⟩, i, h, hi, rfl⟩
  refine ⟨_, _, rfl, rfl, ?_⟩
  refine s_op (o_mv rfl) ?_
  refine s_nilO ?_
  refine q_seqN ?_
  refine s_keep [0, 1, 5, 6] rfl ?_
  refine S_block ?_
  refine S_loop (ι := (Int × List Int × Int × Int)) (fun p => 0 ≤ p.1 ∧ (p.2.1.length : Int) + p.1 ≤ 6 ∧ (∀ y, y ∈ p.2.1 → 0 ≤ y ∧ y ≤ 16) ∧ 0 ≤ p.2.2.1 ∧ p.2.2.1 ≤ code.length) (fun p => [(6, .w (.int .i64 p.1)), (5, .ls 1 (p.2.1.map iR).length)]) (fun p => [cur code p.2.2.1 p.2.2.2, .arr 1 (p.2.1.map iR)]) (fun p => p.1.toNat) 2 (n0, [], i, h) ⟨by simp only; omega, by simp only [List.length_nil]; omega, (fun y hy => nomatch hy), hi⟩ rfl (hasOf ⟨rfl, rfl, trivial⟩ rfl) rfl (fun _ _ => rfl) (fun _ _ => ⟨rfl, rfl⟩) ?_
  rintro ⟨n, l, i, h⟩ hp
  obtain ⟨hn0, hn1, hn2, hi⟩ := hp
  simp only at hn0 hn1 hn2 hi
  have hml : (l.map iR).length = l.length := List.length_map ..
  refine s_keep [0, 1, 5, 6] rfl ?_
  dsimp only
  refine S_seq ?_
  refine S_seq ?_
  refine s_rg ?_
  refine s_op (o_mv rfl) ?_
  first | refine s_op (o_gtr rfl rfl) ?_ | refine s_op (o_bin rfl rfl rfl rfl) ?_
  refine s_nilO ?_
  refine q_seqN ?_
  refine s_keep [0, 1, 5, 6, 11] rfl ?_
  first | refine s_condD rfl ?_ ?_ | refine s_condN rfl ?_ ?_ | refine s_condNB rfl ?_ ?_ | refine s_condB rfl ?_ ?_
  · intro h1
    try rw [Decidable.not_not] at h1
    refine s_skip ?_
    refine q_seqN ?_
    refine s_keep [0, 1, 5, 6] rfl ?_
    refine S_seq ?_
    refine S_block ?_
    refine s_rg ?_
    refine s_op (o_mv rfl) ?_
    refine s_op (o_mv rfl) ?_
    refine s_op (o_mv rfl) ?_
    refine s_callG [0] rfl rfl rfl rfl (by simp) (.inl rfl) (cg_228 _ hc _ _ hi _) ?_
    rintro u L1 ⟨⟨v, rfl, hv⟩, i, h, hi, rfl⟩
    refine ⟨_, _, rfl, rfl, ?_⟩
    refine s_op (o_bs rfl rfl rfl rfl) ?_
    first | refine s_op (o_appL rfl rfl rfl rfl rfl rfl rfl (by simp [roomy]; omega)) ?_ | refine s_op (o_app rfl rfl rfl rfl rfl (by simp [roomy]; omega)) ?_
    refine s_op (o_mv rfl) ?_
    refine s_nilO ?_
    refine q_blkN ?_
    refine q_seqN ?_
    refine s_keep [0, 1, 5, 6] rfl ?_
    refine s_rg ?_
    refine s_op (o_mv rfl) ?_
    first | refine s_op (o_subn rfl rfl (by omega)) ?_ | refine s_op (o_sub rfl rfl) ?_
    refine s_op (o_mv rfl) ?_
    refine s_nilO ?_
    refine q_loopN ?_
    refine ⟨(n - 1, l ++ [v], i, h), ⟨by simp only; omega, by simp only [List.length_append, List.length_cons, List.length_nil]; omega, ?_, hi⟩, by simp only; omega, hasOf ⟨rfl, ?_, trivial⟩ ?_⟩
    · intro y hy
      rcases List.mem_append.1 hy with h | h
      · exact hn2 y h
      · rw [List.mem_singleton.1 h]; omega
    · simp only [List.map_append]; rfl
    · simp only [List.map_append]; rfl
  · intro h1
    try rw [Decidable.not_not] at h1
    refine s_exit ?_
    refine q_seqX ?_
    refine q_loopX ?_
    refine q_blkH ?_
    refine q_seqN ?_
    refine s_keep [5] rfl ?_
    refine S_seq ?_
    refine s_rg ?_
    refine s_op (o_mv rfl) ?_
    refine s_op (o_mv rfl) ?_
    refine s_nilO ?_
    refine q_seqN ?_
    refine s_keep [4] rfl ?_
    refine s_ret ?_
    refine retF_leaf (.inr rfl) rfl rfl (by simp) rfl ?_
    exact ⟨⟨l, rfl, by omega, hn2⟩, _, _, (by omega), rfl⟩

def Script.fit (s : Script) : Prop := s.posts.length ≤ 6 ∧ (∀ p, p ∈ s.posts → p.req.data.length ≤ 16) ∧ (s.waits.length ≤ 6 ∧ ∀ y, y ∈ s.waits → 0 ≤ y ∧ y ≤ 16) ∧ s.says.length ≤ 6 ∧ ∀ y, y ∈ s.says → 0 ≤ y ∧ y ≤ 16
theorem fit_set {s : Script} (h : s.fit) {k : Nat} {p : Post} (hp : p.req.data.length ≤ 16) : Script.fit ⟨s.posts.set k p, s.waits, s.says⟩ := by
  obtain ⟨h1, h2, h3, h4⟩ := h
  refine ⟨by simp only [List.length_set]; exact h1, fun q hq => ?_, h3, h4⟩
  rcases List.mem_or_eq_of_mem_set hq with hq | rfl
  · exact h2 q hq
  · exact hp

theorem cg_249 (code : List Int) (hc : code.length ≤ 1048576) (i h : Int) (hi : 0 ≤ i ∧ i ≤ code.length) (x : Conf) : GV prg 249 [cur code i h] [.cp 0 0, .agg x.r] (fun u L1 => ∃ (s : Script) (i h : Int), u = .agg [.ls 1 s.posts.length, .sl 1 (s.waits.map iR), .sl 1 (s.says.map iR)] ∧ s.fit ∧ (0 ≤ i ∧ i ≤ code.length) ∧ L1 = [cur code i h, .arr 8 (s.posts.map Post.r)]) := by
  refine gv_in g249 ?_
  refine s_keep [0, 1] rfl ?_
  refine S_seq ?_
  refine s_rg ?_
  refine s_op (o_box rfl rfl rfl) ?_
  refine s_op (o_new rfl rfl) ?_
  refine s_nilO ?_
  refine q_seqN ?_
  refine s_keep [0, 3, 4] rfl ?_
  refine S_seq ?_
  refine s_rg ?_
  refine s_op (o_mv rfl) ?_
  refine s_callG [0] rfl rfl rfl rfl (by simp) (.inl rfl) (cg_248 _ hc _ _ hi _ (by omega)) ?_
  rintro u L1 ⟨⟨wl, rfl, hwl2⟩, i, h, hi, rfl⟩
  refine ⟨_, _, rfl, rfl, ?_⟩
  refine s_op (o_mv rfl) ?_
  refine s_callG [0] rfl rfl rfl rfl (by simp) (.inl rfl) (cg_248 _ hc _ _ hi _ (by omega)) ?_
  rintro u L1 ⟨⟨sa, rfl, hsa2⟩, i, h, hi, rfl⟩
  refine ⟨_, _, rfl, rfl, ?_⟩
  refine s_op (o_bd rfl rfl) ?_
  refine s_op (o_new rfl rfl) ?_
  refine s_opN (o_stnC rfl rfl rfl rfl rfl rfl rfl) ?_
  refine s_nilO ?_
  refine q_seqN ?_
  refine s_keep [0, 3, 4, 5] rfl ?_
  refine S_seq ?_
  refine s_rg ?_
  refine s_op (o_mv rfl) ?_
  refine s_nilO ?_
  refine q_seqN ?_
  refine s_keep [0, 3, 4, 5, 6] rfl ?_
  refine S_seq ?_
  refine S_seq ?_
  refine s_rg ?_
  refine s_op (o_mv rfl) ?_
  refine s_callG [0] rfl rfl rfl rfl (by simp) (.inl rfl) (cg_228 _ hc _ _ hi _) ?_
  rintro u L1 ⟨⟨n0, rfl, hn0⟩, i, h, hi, rfl⟩
  refine ⟨_, _, rfl, rfl, ?_⟩
  refine s_op (o_mv rfl) ?_
  refine s_nilO ?_
  refine q_seqN ?_
  refine s_keep [0, 3, 4, 5, 6, 7] rfl ?_
  refine S_block ?_
  refine s_nilC 3 0 8 rfl rfl rfl rfl rfl ?_
  refine S_loop (ι := (Int × Int × List Post × Int × Int)) (fun p => p.1 ≤ 6 ∧ 0 ≤ p.1 ∧ (p.2.2.1.length : Int) + p.1 ≤ 6 ∧ (∀ y, y ∈ p.2.2.1 → y.req.data.length ≤ 16) ∧ 0 ≤ p.2.2.2.1 ∧ p.2.2.2.1 ≤ code.length) (fun p => [(6, .w (.int .i64 p.2.1)), (7, .w (.int .i64 p.1))]) (fun p => [cur code p.2.2.2.1 p.2.2.2.2, .cell x.r, .cell [.w (.slice none 0 0), .w (.slice none 0 0), .w (.slice none 0 0)], .cell [.ls 4 (p.2.2.1.map Post.r).length, .sl 1 (wl.map iR), .sl 1 (sa.map iR)], .arr 8 (p.2.2.1.map Post.r)]) (fun p => p.1.toNat) 5 (n0, 0, [], i, h) ⟨by simp only; omega, by simp only; omega, by simp only [List.length_nil]; omega, (fun y hy => nomatch hy), hi⟩ rfl (hasOf ⟨rfl, rfl, trivial⟩ rfl) rfl (fun _ _ => rfl) (fun _ _ => ⟨rfl, rfl⟩) ?_
  rintro ⟨n, pt, ps, i, h⟩ hp
  obtain ⟨hn3, hn0, hn1, hn2, hi⟩ := hp
  simp only at hn3 hn0 hn1 hn2 hi
  have hml : (ps.map Post.r).length = ps.length := List.length_map ..
  refine s_keep [0, 3, 4, 5, 6, 7] rfl ?_
  dsimp only
  refine S_seq ?_
  refine S_seq ?_
  refine s_rg ?_
  refine s_op (o_mv rfl) ?_
  first | refine s_op (o_gtr rfl rfl) ?_ | refine s_op (o_bin rfl rfl rfl rfl) ?_
  refine s_op (o_mv rfl) ?_
  first | refine s_gDT rfl ?_ ?_ | refine s_gNDT rfl ?_ ?_ | refine s_gNT rfl ?_ ?_ | refine s_gB rfl ?_ ?_
  · intro h1
    try rw [Decidable.not_not] at h1
    refine s_op (o_faC rfl) ?_
    refine s_gT rfl ?_
    refine s_op (o_ldC rfl rfl rfl) ?_
    refine s_gT rfl ?_
    first | refine s_op (o_lenM rfl) ?_ | refine s_op (o_len rfl) ?_ | refine s_op (o_lenL rfl rfl (by simp)) ?_ | refine s_op (o_lenN rfl) ?_
    refine s_gT rfl ?_
    first | refine s_op (o_gtr rfl rfl) ?_ | refine s_op (o_bin rfl rfl rfl rfl) ?_
    refine s_op (o_pickT rfl rfl) ?_
    refine s_nilO ?_
    refine q_seqN ?_
    refine s_keep [0, 3, 4, 5, 6, 7, 18, 19, 20, 21, 22] rfl ?_
    first | refine s_condD rfl ?_ ?_ | refine s_condN rfl ?_ ?_ | refine s_condNB rfl ?_ ?_ | refine s_condB rfl ?_ ?_
    · intro h2
      try rw [Decidable.not_not] at h2
      refine s_skip ?_
      refine q_seqN ?_
      refine s_keep [0, 3, 4, 5, 6, 7, 18, 19, 20, 21] rfl ?_
      refine S_seq ?_
      refine S_block ?_
      refine S_seq ?_
      refine s_rg ?_
      refine s_op (o_mv rfl) ?_
      refine s_op (o_mv rfl) ?_
      refine s_op (o_bs rfl rfl rfl rfl) ?_
      refine s_callG [0, 5] rfl rfl rfl rfl (by simp) (.inl rfl) (cg_234 _ hc _ _ hi _ _ rfl (by simp) (by simp)) ?_
      rintro u L1 ⟨⟨pv, rfl, hpv⟩, i, h, hi, rfl⟩
      refine ⟨_, _, rfl, rfl, ?_⟩
      try simp only [List.mem_cons, List.not_mem_nil, or_false] at hpv
      first | refine s_op (o_addn rfl rfl (by omega)) ?_ | refine s_op (o_add rfl rfl) ?_
      refine s_op (o_mv rfl) ?_
      refine s_nilO ?_
      refine q_seqN ?_
      refine s_keep [0, 3, 4, 5, 6, 7, 18, 19, 20, 21] rfl ?_
      refine s_rgH [0] rfl ?_
      refine h_op (o_faC rfl) rfl ?_
      refine h_op (o_ldC rfl rfl rfl) rfl ?_
      refine h_op (o_mv rfl) rfl ?_
      refine h_op (o_mv rfl) rfl ?_
      refine h_op (o_faC rfl) rfl ?_
      refine h_op (o_ldC rfl rfl rfl) rfl ?_
      first | refine h_op (o_lenM rfl) rfl ?_ | refine h_op (o_len rfl) rfl ?_ | refine h_op (o_lenL rfl rfl (by simp)) rfl ?_ | refine h_op (o_lenN rfl) rfl ?_
      refine h_callG [0] [] rfl rfl rfl rfl rfl rfl (by simp) rfl (cg_228 _ hc _ _ hi _) (by simp) ?_
      rintro u L1 ⟨⟨who, rfl, hwho⟩, i, h, hi, rfl⟩
      refine ⟨rfl, _, _, _, _, rfl, rfl, rfl, rfl, ?_⟩
      refine h_op (o_mv rfl) rfl ?_
      refine h_callG [0] [] rfl rfl rfl rfl rfl rfl (by simp) rfl (cg_241 _ hc _ _ hi) (by simp) ?_
      rintro u L1 ⟨⟨rq, rfl, hrq⟩, i, h, hi, rfl⟩
      refine ⟨rfl, _, _, _, _, rfl, rfl, rfl, rfl, ?_⟩
      refine h_op (o_bd rfl rfl) rfl ?_
      refine h_op (o_bs rfl rfl rfl rfl) rfl ?_
      refine h_bar rfl ?_
      first | refine s_op (o_appL rfl rfl (by simp) rfl rfl rfl rfl (by simp [roomy]; omega)) ?_ | refine s_op (o_app rfl rfl (by simp) rfl rfl (by simp [roomy]; omega)) ?_
      refine s_op (o_faC rfl) ?_
      refine s_opN (o_stC rfl rfl rfl rfl rfl rfl) ?_
      refine s_nilO ?_
      refine q_blkN ?_
      refine q_seqN ?_
      refine s_keep [0, 3, 4, 5, 6, 7, 18, 19, 20, 21] rfl ?_
      refine s_rg ?_
      refine s_op (o_mv rfl) ?_
      first | refine s_op (o_subn rfl rfl (by omega)) ?_ | refine s_op (o_sub rfl rfl) ?_
      refine s_op (o_mv rfl) ?_
      refine s_nilO ?_
      refine q_loopN ?_
      refine ⟨(n - 1, IntKind.wrap .i64 (pt + pv), ps ++ [⟨IntKind.wrap .i64 (pt + pv), who, rq⟩], i, h), ⟨by simp only; omega, by simp only; omega, by simp only [List.length_append, List.length_cons, List.length_nil]; omega, ?_, hi⟩, by simp only; omega, hasOf ⟨rfl, rfl, trivial⟩ ?_⟩
      · intro y hy
        rcases List.mem_append.1 hy with h | h
        · exact hn2 y h
        · rw [List.mem_singleton.1 h]; simp only; omega
      · simp only [List.map_append]; rfl
    · intro h2
      try rw [Decidable.not_not] at h2
      refine s_exit ?_
      refine q_seqX ?_
      refine q_loopX ?_
      refine q_blkH ?_
      refine q_seqN ?_
      refine s_keep [4, 5] rfl ?_
      refine S_seq ?_
      refine s_rg ?_
      refine s_op (o_ldnC rfl rfl rfl) ?_
      refine s_opN (o_stnC rfl rfl rfl rfl rfl rfl rfl) ?_
      refine s_nilO ?_
      refine q_seqN ?_
      refine s_keep [4] rfl ?_
      refine s_ret ?_
      refine retG_leaf [4] (.inr rfl) rfl rfl rfl rfl (show (List.range 1 ++ [4]).Nodup by decide) ?_
      exact ⟨⟨ps, wl, sa⟩, _, _, (by simp), ⟨by simp only; omega, hn2, hwl2, hsa2⟩, (by omega), rfl⟩
  · intro h1
    try rw [Decidable.not_not] at h1
    refine s_gF rfl ?_
    refine s_gF rfl ?_
    refine s_gF rfl ?_
    refine s_gF rfl ?_
    refine s_op (o_pickF rfl rfl) ?_
    refine s_nilO ?_
    refine q_seqN ?_
    refine s_keep [0, 3, 4, 5, 6, 7, 18, 19, 20, 21, 22] rfl ?_
    refine s_condF rfl ?_
    refine s_exit ?_
    refine q_seqX ?_
    refine q_loopX ?_
    refine q_blkH ?_
    refine q_seqN ?_
    refine s_keep [4, 5] rfl ?_
    refine S_seq ?_
    refine s_rg ?_
    refine s_op (o_ldnC rfl rfl rfl) ?_
    refine s_opN (o_stnC rfl rfl rfl rfl rfl rfl rfl) ?_
    refine s_nilO ?_
    refine q_seqN ?_
    refine s_keep [4] rfl ?_
    refine s_ret ?_
    refine retG_leaf [4] (.inr rfl) rfl rfl rfl rfl (show (List.range 1 ++ [4]).Nodup by decide) ?_
    exact ⟨⟨ps, wl, sa⟩, _, _, (by simp), ⟨by simp only; omega, hn2, hwl2, hsa2⟩, (by omega), rfl⟩

theorem cg_246 (code : List Int) (hc : code.length ≤ 1048576) (i h : Int) (hi : 0 ≤ i ∧ i ≤ code.length) (x : Conf) : GV prg 246 [cur code i h] [.cp 0 0, .agg x.r] (fun u L1 => (∃ s : Script, u = .agg s.r ∧ s.fit) ∧ ∃ (i h : Int), (0 ≤ i ∧ i ≤ code.length) ∧ L1 = [cur code i h]) := by
  refine gv_inF g246 ?_
  refine s_keep [0, 1] rfl ?_
  refine S_seq ?_
  refine s_rg ?_
  refine s_op (o_box rfl rfl rfl) ?_
  refine s_op (o_new rfl rfl) ?_
  refine s_nilO ?_
  refine q_seqN ?_
  refine s_keep [0, 3, 4] rfl ?_
  refine S_seq ?_
  refine s_rg ?_
  refine s_op (o_mv rfl) ?_
  refine s_op (o_ldnC rfl rfl rfl) ?_
  refine s_callG [0] rfl rfl rfl rfl (by simp) (.inl rfl) (cg_249 _ hc _ _ hi _) ?_
  rintro u L1 ⟨z, i, h, rfl, hz, hi, rfl⟩
  refine ⟨_, _, rfl, rfl, ?_⟩
  have hz1 := hz.1
  refine s_op (o_new rfl rfl) ?_
  refine s_opN (o_stnC rfl rfl rfl rfl rfl rfl rfl) ?_
  refine s_nilO ?_
  refine q_seqN ?_
  refine s_keep [0, 4, 5] rfl ?_
  refine S_seq ?_
  refine S_seq ?_
  refine s_rg ?_
  refine s_op (o_faC rfl) ?_
  refine s_op (o_ldC rfl rfl rfl) ?_
  first | refine s_op (o_lenM rfl) ?_ | refine s_op (o_len rfl) ?_ | refine s_op (o_lenL rfl rfl (by simp)) ?_ | refine s_op (o_lenN rfl) ?_
  first | refine s_op (o_eql rfl rfl) ?_ | refine s_op (o_bin rfl rfl rfl rfl) ?_
  refine s_nilO ?_
  refine q_seqN ?_
  refine s_keep [0, 4, 5, 13] rfl ?_
  first | refine s_condD rfl ?_ ?_ | refine s_condN rfl ?_ ?_ | refine s_condNB rfl ?_ ?_ | refine s_condB rfl ?_ ?_
  · intro h1
    try rw [Decidable.not_not] at h1
    refine S_seq ?_
    refine s_rg ?_
    refine s_op (o_ldnC rfl rfl rfl) ?_
    refine s_opN (o_stnC rfl rfl rfl rfl rfl rfl rfl) ?_
    refine s_nilO ?_
    refine q_seqN ?_
    refine s_keep [4] rfl ?_
    refine s_ret ?_
    refine q_seqR ?_
    refine retF_leaf (.inr rfl) rfl rfl (by simp) rfl ?_
    first | exact ⟨⟨z, rfl, hz⟩, _, _, (by omega), rfl⟩ | exact ⟨⟨⟨z.posts.set k.toNat ⟨mv, m.who, m.req⟩, z.waits, z.says⟩, (by simp only [Script.r, List.map_set]; rfl), fit_set hz (by first | exact hz.2.1 m (List.mem_of_getElem? hm) | exact hrq)⟩, _, _, (by omega), rfl⟩ | exact ⟨⟨⟨z.posts.set k.toNat ⟨m.moment, wv - 1, m.req⟩, z.waits, z.says⟩, (by simp only [Script.r, List.map_set]; rfl), fit_set hz (by first | exact hz.2.1 m (List.mem_of_getElem? hm) | exact hrq)⟩, _, _, (by omega), rfl⟩ | exact ⟨⟨⟨z.posts.set k.toNat ⟨m.moment, m.who, rq⟩, z.waits, z.says⟩, (by simp only [Script.r, List.map_set]; rfl), fit_set hz (by first | exact hz.2.1 m (List.mem_of_getElem? hm) | exact hrq)⟩, _, _, (by omega), rfl⟩
  · intro h1
    try rw [Decidable.not_not] at h1
    refine s_skip ?_
    refine q_seqN ?_
    refine s_keep [0, 4, 5] rfl ?_
    refine S_seq ?_
    refine s_rg ?_
    refine s_op (o_mv rfl) ?_
    refine s_op (o_faC rfl) ?_
    refine s_op (o_ldC rfl rfl rfl) ?_
    first | refine s_op (o_lenM rfl) ?_ | refine s_op (o_len rfl) ?_ | refine s_op (o_lenL rfl rfl (by simp)) ?_ | refine s_op (o_lenN rfl) ?_
    refine s_callG [0] rfl rfl rfl rfl (by simp) (.inl rfl) (cg_228 _ hc _ _ hi _) ?_
    rintro u L1 ⟨⟨k, rfl, hk⟩, i, h, hi, rfl⟩
    refine ⟨_, _, rfl, rfl, ?_⟩
    have hk1 := hk.1 (by omega)
    obtain ⟨m, hm⟩ := get_ex (xs := z.posts) hk1.1 hk1.2
    refine s_op (o_mv rfl) ?_
    refine s_nilO ?_
    refine q_seqN ?_
    refine s_keep [0, 4, 5, 6] rfl ?_
    refine S_seq ?_
    refine S_seq ?_
    refine s_rg ?_
    refine s_op (o_mv rfl) ?_
    refine s_callG [0] rfl rfl rfl rfl (by simp) (.inl rfl) (cg_228 _ hc _ _ hi _) ?_
    rintro u L1 ⟨⟨x, rfl, hx⟩, i, h, hi, rfl⟩
    refine ⟨_, _, rfl, rfl, ?_⟩
    refine s_nilO ?_
    refine q_seqN ?_
    refine s_keep [0, 4, 5, 6, 21] rfl ?_
    refine S_block ?_
    refine S_seq ?_
    refine s_rg ?_
    first | refine s_op (o_eql rfl rfl) ?_ | refine s_op (o_bin rfl rfl rfl rfl) ?_
    refine s_op (o_mv rfl) ?_
    refine s_nilO ?_
    refine q_seqN ?_
    refine s_keep [0, 4, 5, 6, 21, 22] rfl ?_
    first | refine s_condD rfl ?_ ?_ | refine s_condN rfl ?_ ?_ | refine s_condNB rfl ?_ ?_ | refine s_condB rfl ?_ ?_
    · intro h2
      try rw [Decidable.not_not] at h2
      refine s_rgH [0] rfl ?_
      refine h_op (o_faC rfl) rfl ?_
      refine h_op (o_ldC rfl rfl rfl) rfl ?_
      refine h_op (o_mv rfl) rfl ?_
      refine h_op (o_mv rfl) rfl ?_
      refine h_op (o_bs rfl rfl rfl rfl) rfl ?_
      refine h_callG [0] [5] rfl rfl rfl rfl rfl rfl (by simp) rfl (cg_234 _ hc _ _ hi _ _ rfl (by simp) (by simp)) (words_iR _ _ rfl) ?_
      rintro u L1 ⟨⟨mv, rfl, hmv⟩, i, h, hi, rfl⟩
      refine ⟨rfl, _, _, _, _, rfl, rfl, rfl, rfl, ?_⟩
      try simp only [List.mem_cons, List.not_mem_nil, or_false] at hmv
      refine h_bar rfl ?_
      refine s_op (o_iaL rfl rfl (by simp) rfl (by first | omega | (simp; omega))) ?_
      refine s_op (o_faA rfl rfl (by simp)) ?_
      refine s_opN (o_stA rfl rfl rfl rfl (by simp) (by first | exact get_map hm | exact List.getElem?_set_self (by simp; omega)) rfl rfl) ?_
      refine s_nilO ?_
      refine q_blkN ?_
      refine q_seqN ?_
      refine s_keep [4, 5] rfl ?_
      refine S_seq ?_
      refine s_rg ?_
      refine s_op (o_ldnC rfl rfl rfl) ?_
      refine s_opN (o_stnC rfl rfl rfl rfl rfl rfl rfl) ?_
      refine s_nilO ?_
      refine q_seqN ?_
      refine s_keep [4] rfl ?_
      refine s_ret ?_
      refine retF_leaf (.inr rfl) rfl rfl (by simp) rfl ?_
      first | exact ⟨⟨z, rfl, hz⟩, _, _, (by omega), rfl⟩ | exact ⟨⟨⟨z.posts.set k.toNat ⟨mv, m.who, m.req⟩, z.waits, z.says⟩, (by simp only [Script.r, List.map_set]; rfl), fit_set hz (by first | exact hz.2.1 m (List.mem_of_getElem? hm) | exact hrq)⟩, _, _, (by omega), rfl⟩ | exact ⟨⟨⟨z.posts.set k.toNat ⟨m.moment, wv - 1, m.req⟩, z.waits, z.says⟩, (by simp only [Script.r, List.map_set]; rfl), fit_set hz (by first | exact hz.2.1 m (List.mem_of_getElem? hm) | exact hrq)⟩, _, _, (by omega), rfl⟩ | exact ⟨⟨⟨z.posts.set k.toNat ⟨m.moment, m.who, rq⟩, z.waits, z.says⟩, (by simp only [Script.r, List.map_set]; rfl), fit_set hz (by first | exact hz.2.1 m (List.mem_of_getElem? hm) | exact hrq)⟩, _, _, (by omega), rfl⟩
    · intro h2
      try rw [Decidable.not_not] at h2
      refine S_seq ?_
      refine s_rg ?_
      first | refine s_op (o_eql rfl rfl) ?_ | refine s_op (o_bin rfl rfl rfl rfl) ?_
      refine s_op (o_mv rfl) ?_
      refine s_nilO ?_
      refine q_seqN ?_
      refine s_keep [0, 4, 5, 6, 21, 32] rfl ?_
      first | refine s_condD rfl ?_ ?_ | refine s_condN rfl ?_ ?_ | refine s_condNB rfl ?_ ?_ | refine s_condB rfl ?_ ?_
      · intro h4
        try rw [Decidable.not_not] at h4
        refine s_rgH [0] rfl ?_
        refine h_op (o_faC rfl) rfl ?_
        refine h_op (o_ldC rfl rfl rfl) rfl ?_
        refine h_op (o_mv rfl) rfl ?_
        refine h_op (o_mv rfl) rfl ?_
        refine h_callG [0] [] rfl rfl rfl rfl rfl rfl (by simp) rfl (cg_228 _ hc _ _ hi _) (by simp) ?_
        rintro u L1 ⟨⟨wv, rfl, hwv⟩, i, h, hi, rfl⟩
        refine ⟨rfl, _, _, _, _, rfl, rfl, rfl, rfl, ?_⟩
        first | refine h_op (o_subn rfl rfl (by omega)) rfl ?_ | refine h_op (o_sub rfl rfl) rfl ?_
        refine h_bar rfl ?_
        refine s_op (o_iaL rfl rfl (by simp) rfl (by first | omega | (simp; omega))) ?_
        refine s_op (o_faA rfl rfl (by simp)) ?_
        refine s_opN (o_stA rfl rfl rfl rfl (by simp) (by first | exact get_map hm | exact List.getElem?_set_self (by simp; omega)) rfl rfl) ?_
        refine s_nilO ?_
        refine q_blkN ?_
        refine q_seqN ?_
        refine s_keep [4, 5] rfl ?_
        refine S_seq ?_
        refine s_rg ?_
        refine s_op (o_ldnC rfl rfl rfl) ?_
        refine s_opN (o_stnC rfl rfl rfl rfl rfl rfl rfl) ?_
        refine s_nilO ?_
        refine q_seqN ?_
        refine s_keep [4] rfl ?_
        refine s_ret ?_
        refine retF_leaf (.inr rfl) rfl rfl (by simp) rfl ?_
        first | exact ⟨⟨z, rfl, hz⟩, _, _, (by omega), rfl⟩ | exact ⟨⟨⟨z.posts.set k.toNat ⟨mv, m.who, m.req⟩, z.waits, z.says⟩, (by simp only [Script.r, List.map_set]; rfl), fit_set hz (by first | exact hz.2.1 m (List.mem_of_getElem? hm) | exact hrq)⟩, _, _, (by omega), rfl⟩ | exact ⟨⟨⟨z.posts.set k.toNat ⟨m.moment, wv - 1, m.req⟩, z.waits, z.says⟩, (by simp only [Script.r, List.map_set]; rfl), fit_set hz (by first | exact hz.2.1 m (List.mem_of_getElem? hm) | exact hrq)⟩, _, _, (by omega), rfl⟩ | exact ⟨⟨⟨z.posts.set k.toNat ⟨m.moment, m.who, rq⟩, z.waits, z.says⟩, (by simp only [Script.r, List.map_set]; rfl), fit_set hz (by first | exact hz.2.1 m (List.mem_of_getElem? hm) | exact hrq)⟩, _, _, (by omega), rfl⟩
      · intro h4
        try rw [Decidable.not_not] at h4
        refine S_seq ?_
        refine s_rg ?_
        first | refine s_op (o_eql rfl rfl) ?_ | refine s_op (o_bin rfl rfl rfl rfl) ?_
        refine s_op (o_mv rfl) ?_
        refine s_nilO ?_
        refine q_seqN ?_
        refine s_keep [0, 4, 5, 6, 42] rfl ?_
        first | refine s_condD rfl ?_ ?_ | refine s_condN rfl ?_ ?_ | refine s_condNB rfl ?_ ?_ | refine s_condB rfl ?_ ?_
        · intro h6
          try rw [Decidable.not_not] at h6
          refine s_rgH [0] rfl ?_
          refine h_op (o_faC rfl) rfl ?_
          refine h_op (o_ldC rfl rfl rfl) rfl ?_
          refine h_op (o_mv rfl) rfl ?_
          refine h_op (o_mv rfl) rfl ?_
          refine h_callG [0] [] rfl rfl rfl rfl rfl rfl (by simp) rfl (cg_239 _ hc _ _ hi) (by simp) ?_
          rintro u L1 ⟨⟨rq, rfl, hrq⟩, i, h, hi, rfl⟩
          refine ⟨rfl, _, _, _, _, rfl, rfl, rfl, rfl, ?_⟩
          refine h_bar rfl ?_
          refine s_op (o_iaL rfl rfl (by simp) rfl (by first | omega | (simp; omega))) ?_
          refine s_op (o_faA rfl rfl (by simp)) ?_
          refine s_opN (o_stnA rfl rfl rfl rfl rfl (by simp) (by first | exact get_map hm | exact List.getElem?_set_self (by simp; omega)) rfl rfl) ?_
          refine s_nilO ?_
          refine q_blkN ?_
          refine q_seqN ?_
          refine s_keep [4, 5] rfl ?_
          refine S_seq ?_
          refine s_rg ?_
          refine s_op (o_ldnC rfl rfl rfl) ?_
          refine s_opN (o_stnC rfl rfl rfl rfl rfl rfl rfl) ?_
          refine s_nilO ?_
          refine q_seqN ?_
          refine s_keep [4] rfl ?_
          refine s_ret ?_
          refine retF_leaf (.inr rfl) rfl rfl (by simp) rfl ?_
          first | exact ⟨⟨z, rfl, hz⟩, _, _, (by omega), rfl⟩ | exact ⟨⟨⟨z.posts.set k.toNat ⟨mv, m.who, m.req⟩, z.waits, z.says⟩, (by simp only [Script.r, List.map_set]; rfl), fit_set hz (by first | exact hz.2.1 m (List.mem_of_getElem? hm) | exact hrq)⟩, _, _, (by omega), rfl⟩ | exact ⟨⟨⟨z.posts.set k.toNat ⟨m.moment, wv - 1, m.req⟩, z.waits, z.says⟩, (by simp only [Script.r, List.map_set]; rfl), fit_set hz (by first | exact hz.2.1 m (List.mem_of_getElem? hm) | exact hrq)⟩, _, _, (by omega), rfl⟩ | exact ⟨⟨⟨z.posts.set k.toNat ⟨m.moment, m.who, rq⟩, z.waits, z.says⟩, (by simp only [Script.r, List.map_set]; rfl), fit_set hz (by first | exact hz.2.1 m (List.mem_of_getElem? hm) | exact hrq)⟩, _, _, (by omega), rfl⟩
        · intro h6
          try rw [Decidable.not_not] at h6
          refine s_skip ?_
          refine q_blkN ?_
          refine q_seqN ?_
          refine s_keep [4, 5] rfl ?_
          refine S_seq ?_
          refine s_rg ?_
          refine s_op (o_ldnC rfl rfl rfl) ?_
          refine s_opN (o_stnC rfl rfl rfl rfl rfl rfl rfl) ?_
          refine s_nilO ?_
          refine q_seqN ?_
          refine s_keep [4] rfl ?_
          refine s_ret ?_
          refine retF_leaf (.inr rfl) rfl rfl (by simp) rfl ?_
          first | exact ⟨⟨z, rfl, hz⟩, _, _, (by omega), rfl⟩ | exact ⟨⟨⟨z.posts.set k.toNat ⟨mv, m.who, m.req⟩, z.waits, z.says⟩, (by simp only [Script.r, List.map_set]; rfl), fit_set hz (by first | exact hz.2.1 m (List.mem_of_getElem? hm) | exact hrq)⟩, _, _, (by omega), rfl⟩ | exact ⟨⟨⟨z.posts.set k.toNat ⟨m.moment, wv - 1, m.req⟩, z.waits, z.says⟩, (by simp only [Script.r, List.map_set]; rfl), fit_set hz (by first | exact hz.2.1 m (List.mem_of_getElem? hm) | exact hrq)⟩, _, _, (by omega), rfl⟩ | exact ⟨⟨⟨z.posts.set k.toNat ⟨m.moment, m.who, rq⟩, z.waits, z.says⟩, (by simp only [Script.r, List.map_set]; rfl), fit_set hz (by first | exact hz.2.1 m (List.mem_of_getElem? hm) | exact hrq)⟩, _, _, (by omega), rfl⟩

theorem cg_247 (code : List Int) (hc : code.length ≤ 1048576) (i h : Int) (hi : 0 ≤ i ∧ i ≤ code.length) : GV prg 247 [cur code i h] [.cp 0 0] (fun u L1 => (∃ (x : Conf) (s : Script), u = .tup [.agg x.r, .agg s.r] ∧ x.masters.length ≤ 4 ∧ s.fit) ∧ ∃ (i h : Int), (0 ≤ i ∧ i ≤ code.length) ∧ L1 = [cur code i h]) := by
  refine gv_inF g247 ?_
  refine s_keep [0] rfl ?_
  refine S_seq ?_
  refine s_rg ?_
  refine s_op (o_new rfl rfl) ?_
  refine s_op (o_new rfl rfl) ?_
  refine s_nilO ?_
  refine q_seqN ?_
  refine s_keep [0, 2, 3] rfl ?_
  refine S_seq ?_
  refine s_rg ?_
  refine s_op (o_mv rfl) ?_
  refine s_callG [0] rfl rfl rfl rfl (by simp) (.inl rfl) (cg_243 _ hc _ _ hi) ?_
  rintro u L1 ⟨⟨y, rfl, hy⟩, i, h, hi, rfl⟩
  refine ⟨_, _, rfl, rfl, ?_⟩
  refine s_op (o_new rfl rfl) ?_
  refine s_opN (o_stnC rfl rfl rfl rfl rfl rfl rfl) ?_
  refine s_nilO ?_
  refine q_seqN ?_
  refine s_keep [0, 2, 3, 4] rfl ?_
  refine S_seq ?_
  refine S_seq ?_
  refine s_rg ?_
  refine s_op (o_mv rfl) ?_
  refine s_callG [0] rfl rfl rfl rfl (by simp) (.inl rfl) (cg_233 _ hc _ _ hi _) ?_
  rintro u L1 ⟨⟨ob, rfl⟩, i, h, hi, rfl⟩
  refine ⟨_, _, rfl, rfl, ?_⟩
  refine s_nilO ?_
  refine q_seqN ?_
  refine s_keep [0, 2, 3, 4, 8] rfl ?_
  first | refine s_condD rfl ?_ ?_ | refine s_condN rfl ?_ ?_ | refine s_condNB rfl ?_ ?_ | refine s_condB rfl ?_ ?_
  · intro h1
    try rw [Decidable.not_not] at h1
    refine s_rg ?_
    refine s_op (o_mv rfl) ?_
    refine s_callG [0] rfl rfl rfl rfl (by simp) (.inl rfl) (cg_242 _ hc _ _ hi) ?_
    rintro u L1 ⟨⟨y, rfl, hy⟩, i, h, hi, rfl⟩
    refine ⟨_, _, rfl, rfl, ?_⟩
    refine s_opN (o_stnC rfl rfl rfl rfl rfl rfl rfl) ?_
    refine s_nilO ?_
    refine q_seqN ?_
    refine s_keep [0, 2, 3, 4] rfl ?_
    refine S_seq ?_
    refine s_rgH [0] rfl ?_
    refine h_op (o_ldnC rfl rfl rfl) rfl ?_
    refine h_op (o_mv rfl) rfl ?_
    refine h_op (o_ldnC rfl rfl rfl) rfl ?_
    refine h_callG [0] [] rfl rfl rfl rfl rfl rfl (by simp) rfl (cg_246 _ hc _ _ hi _) (by simp) ?_
    rintro u L1 ⟨⟨s, rfl, hs⟩, i, h, hi, rfl⟩
    refine ⟨rfl, _, _, _, _, rfl, rfl, rfl, rfl, ?_⟩
    refine h_bar rfl ?_
    refine s_opN (o_stnC rfl rfl rfl rfl rfl rfl rfl) ?_
    refine s_opN (o_stnC rfl rfl rfl rfl rfl rfl rfl) ?_
    refine s_nilO ?_
    refine q_seqN ?_
    refine s_keep [2, 3] rfl ?_
    refine s_ret ?_
    refine retF_leaf (.inr rfl) rfl rfl (by simp) rfl ?_
    exact ⟨⟨y, s, rfl, by omega, hs⟩, _, _, (by omega), rfl⟩
  · intro h1
    try rw [Decidable.not_not] at h1
    refine s_skip ?_
    refine q_seqN ?_
    refine s_keep [0, 2, 3, 4] rfl ?_
    refine S_seq ?_
    refine s_rgH [0] rfl ?_
    refine h_op (o_ldnC rfl rfl rfl) rfl ?_
    refine h_op (o_mv rfl) rfl ?_
    refine h_op (o_ldnC rfl rfl rfl) rfl ?_
    refine h_callG [0] [] rfl rfl rfl rfl rfl rfl (by simp) rfl (cg_246 _ hc _ _ hi _) (by simp) ?_
    rintro u L1 ⟨⟨s, rfl, hs⟩, i, h, hi, rfl⟩
    refine ⟨rfl, _, _, _, _, rfl, rfl, rfl, rfl, ?_⟩
    refine h_bar rfl ?_
    refine s_opN (o_stnC rfl rfl rfl rfl rfl rfl rfl) ?_
    refine s_opN (o_stnC rfl rfl rfl rfl rfl rfl rfl) ?_
    refine s_nilO ?_
    refine q_seqN ?_
    refine s_keep [2, 3] rfl ?_
    refine s_ret ?_
    refine retF_leaf (.inr rfl) rfl rfl (by simp) rfl ?_
    exact ⟨⟨y, s, rfl, by omega, hs⟩, _, _, (by omega), rfl⟩

theorem c_316 (code : List Int) (hc : code.length ≤ 1048576) : CV prg 316 [.sl 1 (code.map uR)] (fun u => ∃ (x : Conf) (s : Script) (k : Int), u = .tup [.agg x.r, .agg s.r, .w (.int .i64 k)] ∧ x.masters.length ≤ 4 ∧ s.fit ∧ -1 ≤ k ∧ k ≤ 18) := by
  refine cv_in g316 ?_
  refine s_keep [0] rfl ?_
  refine S_seq ?_
  refine s_rg ?_
  refine s_op (o_new rfl rfl) ?_
  refine s_op (o_new rfl rfl) ?_
  refine s_op (o_mv rfl) ?_
  refine s_nilO ?_
  refine q_seqN ?_
  refine s_keep [0, 2, 3] rfl ?_
  refine S_seq ?_
  refine s_rg ?_
  refine s_op (o_mv rfl) ?_
  refine s_callG [] rfl rfl rfl rfl (by simp) (.inl rfl) (cg_231 _ hc) ?_
  rintro u L1 ⟨rfl, h, rfl⟩
  refine ⟨_, _, rfl, rfl, ?_⟩
  have hi : (0 : Int) ≤ 0 ∧ (0 : Int) ≤ (code.length : Int) := by omega
  refine s_op (o_mv rfl) ?_
  refine s_nilO ?_
  refine q_seqN ?_
  refine s_keep [2, 3, 5] rfl ?_
  refine S_seq ?_
  refine s_rg ?_
  refine s_op (o_mv rfl) ?_
  refine s_callG [2] rfl rfl rfl rfl (by simp) (.inl rfl) (cg_247 _ hc _ _ hi) ?_
  rintro u L1 ⟨⟨x, s, rfl, hx, hs⟩, i, h, hi, rfl⟩
  refine ⟨_, _, rfl, rfl, ?_⟩
  refine s_op (o_mv rfl) ?_
  refine s_op (o_ext rfl rfl) ?_
  refine s_op (o_ext rfl rfl) ?_
  refine s_op (o_new rfl rfl) ?_
  refine s_op (o_new rfl rfl) ?_
  refine s_opN (o_stnC rfl rfl rfl rfl rfl rfl rfl) ?_
  refine s_opN (o_stnC rfl rfl rfl rfl rfl rfl rfl) ?_
  refine s_nilO ?_
  refine q_seqN ?_
  refine s_keep [2, 3, 5, 6, 7] rfl ?_
  refine S_seq ?_
  refine s_rgH [0, 1, 2] rfl ?_
  refine h_op (o_ldnC rfl rfl rfl) rfl ?_
  refine h_op (o_ldnC rfl rfl rfl) rfl ?_
  refine h_op (o_mv rfl) rfl ?_
  refine h_callG [2] [] rfl rfl rfl rfl rfl rfl (by simp) rfl (cg_228 _ hc _ _ hi _) (by simp) ?_
  rintro u L1 ⟨⟨kv, rfl, hkv⟩, i, h, hi, rfl⟩
  refine ⟨rfl, _, _, _, _, rfl, rfl, rfl, rfl, ?_⟩
  first | refine h_op (o_subn rfl rfl (by omega)) rfl ?_ | refine h_op (o_sub rfl rfl) rfl ?_
  refine h_stn rfl rfl rfl rfl rfl ?_
  refine h_stn rfl rfl rfl rfl rfl ?_
  refine h_bar rfl ?_
  refine s_op (o_mv rfl) ?_
  refine s_nilO ?_
  refine q_seqN ?_
  refine s_keep [2, 3, 4] rfl ?_
  refine s_ret ?_
  refine ret_leaf (.inr rfl) rfl rfl ?_
  exact ⟨x, s, _, rfl, by omega, hs, by omega, by omega⟩

def saidOf (n : Int) : Int := if n = 2 ∨ n = 3 then n else 0
def Conf.waitAt (c : Conf) (s : Script) (k : Int) : Int := max 0 (min (elem s.waits k) c.maxWait)
theorem elem_rot {l : List Int} {k : Int} (hk : 0 ≤ k) (hl : ¬ (l.length : Int) = 0) : elem l (k + l.length) = elem l k := by
  unfold elem
  rw [if_neg (by omega), if_neg (by omega), Int.tmod_eq_emod_of_nonneg (by omega), Int.tmod_eq_emod_of_nonneg hk, Int.add_emod_right]
theorem cost_wait {c : Conf} (h : c.ok = true) : 0 ≤ c.maxWait ∧ c.maxWait ≤ 3 := by
  have h1 := (ok_parts h).2.2.2.2.2.2.1
  unfold Conf.cost at h1
  split at h1
  · rename_i h2
    simp only [Bool.and_eq_true] at h2
    exact inB_t h2.2
  · omega
structure ChoiceF (c : Conf) (s : Script) (k : Int) : Prop where
  wait : 0 ≤ c.waitAt s k ∧ c.waitAt s k ≤ c.maxWait
  split : 1 ≤ c.splitAt s k ∧ c.splitAt s k ≤ c.maxSplit
  said : saidOf (elem s.says k) = 0 ∨ saidOf (elem s.says k) = 2 ∨ saidOf (elem s.says k) = 3
  w2 : ¬ (s.waits.length : Int) = 0 → c.waitAt s (k + s.waits.length) = c.waitAt s k
  s2 : ¬ (s.says.length : Int) = 0 → saidOf (elem s.says (k + s.says.length)) = saidOf (elem s.says k)
theorem choiceF {c : Conf} {s : Script} {k : Int} (h : c.ok = true) (hk : ¬ k < 0) : ChoiceF c s k := by
  have h1 := cost_wait h
  obtain ⟨_, _, _, _, h5, h6, _⟩ := ok_parts h
  refine ⟨by unfold Conf.waitAt; omega, by unfold Conf.splitAt; omega, by unfold saidOf; split <;> simp_all, fun hl => ?_, fun hl => ?_⟩
  · unfold Conf.waitAt; rw [elem_rot (by omega) hl]
  · rw [elem_rot (by omega) hl]

theorem c_80 (x : Conf) (s : Script) (k : Int) : CV prg 80 [.agg x.r, .agg s.r, .w (.int .i64 k)] (fun res => res = .w (.int .i64 (x.waitAt s k))) := by
  refine cv_in g80 ?_
  refine s_keep [0, 1, 2] rfl ?_
  refine S_seq ?_
  refine s_rg ?_
  refine s_op (o_box rfl rfl rfl) ?_
  refine s_op (o_box rfl rfl rfl) ?_
  refine s_op (o_mv rfl) ?_
  refine s_nilO ?_
  refine q_seqN ?_
  refine s_keep [2, 3, 4] rfl ?_
  refine S_seq ?_
  refine s_rg ?_
  refine s_op (o_faC rfl) ?_
  refine s_op (o_ldC rfl rfl rfl) ?_
  refine s_op (o_mv rfl) ?_
  first | refine s_call rfl rfl (c_85 _ _) ?_ | refine s_callL rfl rfl (by simp) (c_85 _ _) rfl ?_
  refine s_op (o_faC rfl) ?_
  refine s_op (o_ldC rfl rfl rfl) ?_
  refine s_op (o_mn rfl) ?_
  refine s_op (o_mx rfl) ?_
  refine s_op (o_mv rfl) ?_
  refine s_nilO ?_
  refine q_seqN ?_
  refine s_keep [6] rfl ?_
  refine s_ret ?_
  refine ret_leaf (.inr rfl) rfl rfl ?_
  refine congrArg (fun b => V.w (.int .i64 b)) ?_
  unfold Conf.waitAt; simp only [minL2, maxL2]; first | done | omega

theorem c_317 (x : Conf) (s : Script) (k : Int) : CV prg 317 [.agg x.r, .agg s.r, .w (.int .i64 k)] (fun res => res = .w (.int .i64 (x.waitAt s k))) := by
  refine cv_in g317 ?_
  refine s_keep [0, 1, 2] rfl ?_
  refine S_seq ?_
  refine s_rg ?_
  refine s_op (o_box rfl rfl rfl) ?_
  refine s_op (o_box rfl rfl rfl) ?_
  refine s_op (o_mv rfl) ?_
  refine s_nilO ?_
  refine q_seqN ?_
  refine s_keep [2, 3, 4] rfl ?_
  refine S_seq ?_
  refine s_rg ?_
  refine s_op (o_faC rfl) ?_
  refine s_op (o_ldC rfl rfl rfl) ?_
  refine s_op (o_faC rfl) ?_
  refine s_op (o_ldC rfl rfl rfl) ?_
  refine s_op (o_mv rfl) ?_
  first | refine s_call rfl rfl (c_332 _ _) ?_ | refine s_callL rfl rfl (by simp) (c_332 _ _) rfl ?_
  refine s_op (o_mn rfl) ?_
  refine s_op (o_mx rfl) ?_
  refine s_op (o_mv rfl) ?_
  refine s_nilO ?_
  refine q_seqN ?_
  refine s_keep [6] rfl ?_
  refine s_ret ?_
  refine ret_leaf (.inr rfl) rfl rfl ?_
  refine congrArg (fun b => V.w (.int .i64 b)) ?_
  unfold Conf.waitAt; simp only [minL2, maxL2]; first | done | omega

theorem c_68 (s : Script) (k : Int) : CV prg 68 [.agg s.r, .w (.int .i64 k)] (fun res => res = .w (.int .i64 (saidOf (elem s.says k)))) := by
  refine cv_in g68 ?_
  refine s_keep [0, 1] rfl ?_
  refine S_seq ?_
  refine s_rg ?_
  refine s_op (o_box rfl rfl rfl) ?_
  refine s_op (o_mv rfl) ?_
  refine s_nilO ?_
  refine q_seqN ?_
  refine s_keep [1, 2] rfl ?_
  refine S_seq ?_
  refine S_seq ?_
  refine s_rg ?_
  refine s_op (o_faC rfl) ?_
  refine s_op (o_ldC rfl rfl rfl) ?_
  refine s_op (o_mv rfl) ?_
  first | refine s_call rfl rfl (c_85 _ _) ?_ | refine s_callL rfl rfl (by simp) (c_85 _ _) rfl ?_
  refine s_op (o_mv rfl) ?_
  refine s_nilO ?_
  refine q_seqN ?_
  refine s_keep [5] rfl ?_
  refine S_seq ?_
  refine s_rg ?_
  refine s_op (o_mv rfl) ?_
  first | refine s_op (o_eql rfl rfl) ?_ | refine s_op (o_bin rfl rfl rfl rfl) ?_
  refine s_op (o_mv rfl) ?_
  first | refine s_gDF rfl ?_ ?_ | refine s_gNDF rfl ?_ ?_ | refine s_gNF rfl ?_ ?_ | refine s_gB rfl ?_ ?_
  · intro h1
    try rw [Decidable.not_not] at h1
    refine s_op (o_mv rfl) ?_
    refine s_gT rfl ?_
    first | refine s_op (o_eql rfl rfl) ?_ | refine s_op (o_bin rfl rfl rfl rfl) ?_
    refine s_op (o_pickF rfl rfl) ?_
    refine s_nilO ?_
    refine q_seqN ?_
    refine s_keep [5, 15] rfl ?_
    first | refine s_condD rfl ?_ ?_ | refine s_condN rfl ?_ ?_ | refine s_condNB rfl ?_ ?_ | refine s_condB rfl ?_ ?_
    · intro h2
      try rw [Decidable.not_not] at h2
      refine S_seq ?_
      refine s_rg ?_
      refine s_op (o_mv rfl) ?_
      refine s_op (o_mv rfl) ?_
      refine s_nilO ?_
      refine q_seqN ?_
      refine s_keep [4] rfl ?_
      refine s_ret ?_
      refine q_seqR ?_
      refine ret_leaf (.inr rfl) rfl rfl ?_
      refine congrArg (fun b => V.w (.int .i64 b)) ?_
      first | (unfold saidOf; rw [if_pos (.inl (by assumption))]; done) | (unfold saidOf; rw [if_pos (.inr (by assumption))]; done) | (unfold saidOf; rw [if_neg (by omega)])
    · intro h2
      try rw [Decidable.not_not] at h2
      refine s_skip ?_
      refine q_seqN ?_
      refine s_keep [] rfl ?_
      refine S_seq ?_
      refine s_rg ?_
      refine s_op (o_mv rfl) ?_
      refine s_nilO ?_
      refine q_seqN ?_
      refine s_keep [4] rfl ?_
      refine s_ret ?_
      refine ret_leaf (.inr rfl) rfl rfl ?_
      refine congrArg (fun b => V.w (.int .i64 b)) ?_
      first | (unfold saidOf; rw [if_pos (.inl (by assumption))]; done) | (unfold saidOf; rw [if_pos (.inr (by assumption))]; done) | (unfold saidOf; rw [if_neg (by omega)])
  · intro h1
    try rw [Decidable.not_not] at h1
    refine s_gF rfl ?_
    refine s_gF rfl ?_
    refine s_op (o_pickT rfl rfl) ?_
    refine s_nilO ?_
    refine q_seqN ?_
    refine s_keep [5, 15] rfl ?_
    refine s_condT rfl ?_
    refine S_seq ?_
    refine s_rg ?_
    refine s_op (o_mv rfl) ?_
    refine s_op (o_mv rfl) ?_
    refine s_nilO ?_
    refine q_seqN ?_
    refine s_keep [4] rfl ?_
    refine s_ret ?_
    refine q_seqR ?_
    refine ret_leaf (.inr rfl) rfl rfl ?_
    refine congrArg (fun b => V.w (.int .i64 b)) ?_
    first | (unfold saidOf; rw [if_pos (.inl (by assumption))]; done) | (unfold saidOf; rw [if_pos (.inr (by assumption))]; done) | (unfold saidOf; rw [if_neg (by omega)])

theorem c_318 (s : Script) (k : Int) : CV prg 318 [.agg s.r, .w (.int .i64 k)] (fun res => res = .w (.int .i64 (saidOf (elem s.says k)))) := by
  refine cv_in g318 ?_
  refine s_keep [0, 1] rfl ?_
  refine S_seq ?_
  refine s_rg ?_
  refine s_op (o_box rfl rfl rfl) ?_
  refine s_op (o_mv rfl) ?_
  refine s_nilO ?_
  refine q_seqN ?_
  refine s_keep [1, 2] rfl ?_
  refine S_seq ?_
  refine s_rg ?_
  refine s_op (o_faC rfl) ?_
  refine s_op (o_ldC rfl rfl rfl) ?_
  refine s_op (o_mv rfl) ?_
  first | refine s_call rfl rfl (c_332 _ _) ?_ | refine s_callL rfl rfl (by simp) (c_332 _ _) rfl ?_
  refine s_op (o_mv rfl) ?_
  refine s_nilO ?_
  refine q_seqN ?_
  refine s_keep [5] rfl ?_
  refine S_seq ?_
  refine S_seq ?_
  refine s_rg ?_
  refine s_op (o_mv rfl) ?_
  first | refine s_op (o_eql rfl rfl) ?_ | refine s_op (o_bin rfl rfl rfl rfl) ?_
  refine s_op (o_mv rfl) ?_
  first | refine s_gDF rfl ?_ ?_ | refine s_gNDF rfl ?_ ?_ | refine s_gNF rfl ?_ ?_ | refine s_gB rfl ?_ ?_
  · intro h1
    try rw [Decidable.not_not] at h1
    refine s_op (o_mv rfl) ?_
    refine s_gT rfl ?_
    first | refine s_op (o_eql rfl rfl) ?_ | refine s_op (o_bin rfl rfl rfl rfl) ?_
    refine s_op (o_pickF rfl rfl) ?_
    refine s_nilO ?_
    refine q_seqN ?_
    refine s_keep [5, 15] rfl ?_
    first | refine s_condD rfl ?_ ?_ | refine s_condN rfl ?_ ?_ | refine s_condNB rfl ?_ ?_ | refine s_condB rfl ?_ ?_
    · intro h2
      try rw [Decidable.not_not] at h2
      refine S_seq ?_
      refine s_rg ?_
      refine s_op (o_mv rfl) ?_
      refine s_op (o_mv rfl) ?_
      refine s_nilO ?_
      refine q_seqN ?_
      refine s_keep [4] rfl ?_
      refine s_ret ?_
      refine q_seqR ?_
      refine ret_leaf (.inr rfl) rfl rfl ?_
      refine congrArg (fun b => V.w (.int .i64 b)) ?_
      first | (unfold saidOf; rw [if_pos (.inl (by assumption))]; done) | (unfold saidOf; rw [if_pos (.inr (by assumption))]; done) | (unfold saidOf; rw [if_neg (by omega)])
    · intro h2
      try rw [Decidable.not_not] at h2
      refine s_skip ?_
      refine q_seqN ?_
      refine s_keep [] rfl ?_
      refine S_seq ?_
      refine s_rg ?_
      refine s_op (o_mv rfl) ?_
      refine s_nilO ?_
      refine q_seqN ?_
      refine s_keep [4] rfl ?_
      refine s_ret ?_
      refine ret_leaf (.inr rfl) rfl rfl ?_
      refine congrArg (fun b => V.w (.int .i64 b)) ?_
      first | (unfold saidOf; rw [if_pos (.inl (by assumption))]; done) | (unfold saidOf; rw [if_pos (.inr (by assumption))]; done) | (unfold saidOf; rw [if_neg (by omega)])
  · intro h1
    try rw [Decidable.not_not] at h1
    refine s_gF rfl ?_
    refine s_gF rfl ?_
    refine s_op (o_pickT rfl rfl) ?_
    refine s_nilO ?_
    refine q_seqN ?_
    refine s_keep [5, 15] rfl ?_
    refine s_condT rfl ?_
    refine S_seq ?_
    refine s_rg ?_
    refine s_op (o_mv rfl) ?_
    refine s_op (o_mv rfl) ?_
    refine s_nilO ?_
    refine q_seqN ?_
    refine s_keep [4] rfl ?_
    refine s_ret ?_
    refine q_seqR ?_
    refine ret_leaf (.inr rfl) rfl rfl ?_
    refine congrArg (fun b => V.w (.int .i64 b)) ?_
    first | (unfold saidOf; rw [if_pos (.inl (by assumption))]; done) | (unfold saidOf; rw [if_pos (.inr (by assumption))]; done) | (unfold saidOf; rw [if_neg (by omega)])

theorem c_300 (code : List Int) (hw : code.length ≤ 140737488355328) : CV prg 300 [.sl 1 (code.map uR)] (fun res => res = .w (.bool true)) := by
  refine cv_in g300 ?_
  refine s_keep [0] rfl ?_
  refine S_seq ?_
  refine s_rg ?_
  refine s_op (o_mv rfl) ?_
  refine s_nilO ?_
  refine q_seqN ?_
  refine s_keep [0] rfl ?_
  refine S_seq ?_
  refine S_seq ?_
  refine s_rg ?_
  refine s_op (o_mv rfl) ?_
  refine s_call rfl rfl (c_123 _ (by assumption)) ?_
  refine s_nilO ?_
  refine q_seqN ?_
  refine s_keep [0, 10] rfl ?_
  first | refine s_condD rfl ?_ ?_ | refine s_condN rfl ?_ ?_ | refine s_condNB rfl ?_ ?_ | refine s_condB rfl ?_ ?_
  · intro h1
    try rw [Decidable.not_not] at h1
    try have hc : code.length ≤ 1048576 := by simp at h1; omega
    try have hcf := choiceF (c := x) (s := s) (k := k) (by assumption) (by assumption)
    refine S_seq ?_
    refine s_rg ?_
    refine s_op (o_mv rfl) ?_
    refine s_nilO ?_
    refine q_seqN ?_
    refine s_keep [2] rfl ?_
    refine s_ret ?_
    refine q_seqR ?_
    refine ret_leaf (.inr rfl) rfl rfl ?_
    refine congrArg (fun b => V.w (.bool b)) ?_
    first | rfl | (simp_all; done) | (have k1 := hcf.wait; have k2 := hcf.split; have k3 := hcf.said; have k4 := hcf.w2; have k5 := hcf.s2; clear hs; first | omega | (simp_all; done) | (simp_all; omega))
  · intro h1
    try rw [Decidable.not_not] at h1
    try have hc : code.length ≤ 1048576 := by simp at h1; omega
    try have hcf := choiceF (c := x) (s := s) (k := k) (by assumption) (by assumption)
    refine s_skip ?_
    refine q_seqN ?_
    refine s_keep [0] rfl ?_
    refine S_seq ?_
    refine s_rg ?_
    refine s_op (o_mv rfl) ?_
    refine s_callP rfl rfl (c_316 _ hc) ?_
    rintro u ⟨x, s, k, rfl, hx, hs, hk0, hk1⟩
    refine s_op (o_mv rfl) ?_
    refine s_op (o_ext rfl rfl) ?_
    refine s_op (o_ext rfl rfl) ?_
    refine s_op (o_ext rfl rfl) ?_
    have hsl1 := hs.2.2.1.1
    have hsl2 := hs.2.2.2.1
    refine s_op (o_new rfl rfl) ?_
    refine s_op (o_new rfl rfl) ?_
    refine s_opN (o_stnC rfl rfl rfl rfl rfl rfl rfl) ?_
    refine s_opN (o_stnC rfl rfl rfl rfl rfl rfl rfl) ?_
    refine s_op (o_mv rfl) ?_
    refine s_nilO ?_
    refine q_seqN ?_
    refine s_keep [3, 4, 5] rfl ?_
    refine S_seq ?_
    refine s_rg ?_
    refine s_op (o_ldnC rfl rfl rfl) ?_
    refine s_op (o_ldnC rfl rfl rfl) ?_
    refine s_op (o_mv rfl) ?_
    first | refine s_call rfl rfl (c_80 x s _) ?_ | refine s_callL rfl rfl (by simp) (c_80 x s _) rfl ?_
    refine s_op (o_mv rfl) ?_
    refine s_nilO ?_
    refine q_seqN ?_
    refine s_keep [3, 4, 5, 6] rfl ?_
    refine S_seq ?_
    refine s_rg ?_
    refine s_op (o_ldnC rfl rfl rfl) ?_
    refine s_op (o_mv rfl) ?_
    first | refine s_call rfl rfl (c_68 s _) ?_ | refine s_callL rfl rfl (by simp) (c_68 s _) rfl ?_
    refine s_op (o_mv rfl) ?_
    refine s_nilO ?_
    refine q_seqN ?_
    refine s_keep [3, 4, 5, 6, 7] rfl ?_
    refine S_seq ?_
    refine s_rg ?_
    refine s_op (o_ldnC rfl rfl rfl) ?_
    refine s_op (o_ldnC rfl rfl rfl) ?_
    refine s_op (o_mv rfl) ?_
    first | refine s_call rfl rfl (c_75 x s k (fun y hy => by have h9 := hs.2.2.1.2 y hy; unfold AL.i64; omega)) ?_ | refine s_callL rfl rfl (by simp) (c_75 x s k (fun y hy => by have h9 := hs.2.2.1.2 y hy; unfold AL.i64; omega)) rfl ?_
    refine s_op (o_mv rfl) ?_
    refine s_nilO ?_
    refine q_seqN ?_
    refine s_keep [3, 4, 5, 6, 7, 8] rfl ?_
    refine S_seq ?_
    refine S_seq ?_
    refine s_rg ?_
    refine s_op (o_mv rfl) ?_
    refine s_op (o_ldnC rfl rfl rfl) ?_
    refine s_op (o_ldnC rfl rfl rfl) ?_
    refine s_op (o_mv rfl) ?_
    first | refine s_call rfl rfl (c_317 x s _) ?_ | refine s_callL rfl rfl (by simp) (c_317 x s _) rfl ?_
    first | refine s_op (o_neq rfl rfl) ?_ | refine s_op (o_bin rfl rfl rfl rfl) ?_
    refine s_op (o_mv rfl) ?_
    first | refine s_gDF rfl ?_ ?_ | refine s_gNDF rfl ?_ ?_ | refine s_gNF rfl ?_ ?_ | refine s_gB rfl ?_ ?_
    · intro h2
      try rw [Decidable.not_not] at h2
      try have hc : code.length ≤ 1048576 := by simp at h2; omega
      try have hcf := choiceF (c := x) (s := s) (k := k) (by assumption) (by assumption)
      refine s_op (o_mv rfl) ?_
      refine s_gT rfl ?_
      refine s_op (o_ldnC rfl rfl rfl) ?_
      refine s_gT rfl ?_
      refine s_op (o_mv rfl) ?_
      refine s_gT rfl ?_
      first | refine s_call rfl rfl (c_318 s _) ?_ | refine s_callL rfl rfl (by simp) (c_318 s _) rfl ?_
      refine s_gT rfl ?_
      first | refine s_op (o_neq rfl rfl) ?_ | refine s_op (o_bin rfl rfl rfl rfl) ?_
      refine s_op (o_pickF rfl rfl) ?_
      refine s_op (o_mv rfl) ?_
      refine s_keepO (is := [3, 4, 5, 6, 7, 8, 41]) rfl ?_
      first | refine s_gDF rfl ?_ ?_ | refine s_gNDF rfl ?_ ?_ | refine s_gNF rfl ?_ ?_ | refine s_gB rfl ?_ ?_
      · intro h3
        try rw [Decidable.not_not] at h3
        try have hc : code.length ≤ 1048576 := by simp at h3; omega
        try have hcf := choiceF (c := x) (s := s) (k := k) (by assumption) (by assumption)
        refine s_op (o_mv rfl) ?_
        refine s_gT rfl ?_
        refine s_op (o_ldnC rfl rfl rfl) ?_
        refine s_gT rfl ?_
        refine s_op (o_ldnC rfl rfl rfl) ?_
        refine s_gT rfl ?_
        refine s_op (o_mv rfl) ?_
        refine s_gT rfl ?_
        first | refine s_call rfl rfl (c_319 x s k (fun y hy => by have h9 := hs.2.2.1.2 y hy; unfold AL.i64; omega)) ?_ | refine s_callL rfl rfl (by simp) (c_319 x s k (fun y hy => by have h9 := hs.2.2.1.2 y hy; unfold AL.i64; omega)) rfl ?_
        refine s_gT rfl ?_
        first | refine s_op (o_neq rfl rfl) ?_ | refine s_op (o_bin rfl rfl rfl rfl) ?_
        refine s_op (o_pickF rfl rfl) ?_
        refine s_nilO ?_
        refine q_seqN ?_
        refine s_keep [3, 4, 5, 6, 7, 8, 48] rfl ?_
        first | refine s_condD rfl ?_ ?_ | refine s_condN rfl ?_ ?_ | refine s_condNB rfl ?_ ?_ | refine s_condB rfl ?_ ?_
        · intro h4
          try rw [Decidable.not_not] at h4
          try have hc : code.length ≤ 1048576 := by simp at h4; omega
          try have hcf := choiceF (c := x) (s := s) (k := k) (by assumption) (by assumption)
          refine S_seq ?_
          refine s_rg ?_
          refine s_op (o_mv rfl) ?_
          refine s_nilO ?_
          refine q_seqN ?_
          refine s_keep [2] rfl ?_
          refine s_ret ?_
          refine q_seqR ?_
          refine ret_leaf (.inr rfl) rfl rfl ?_
          refine congrArg (fun b => V.w (.bool b)) ?_
          first | rfl | (simp_all; done) | (have k1 := hcf.wait; have k2 := hcf.split; have k3 := hcf.said; have k4 := hcf.w2; have k5 := hcf.s2; clear hs; first | omega | (simp_all; done) | (simp_all; omega))
        · intro h4
          try rw [Decidable.not_not] at h4
          try have hc : code.length ≤ 1048576 := by simp at h4; omega
          try have hcf := choiceF (c := x) (s := s) (k := k) (by assumption) (by assumption)
          refine s_skip ?_
          refine q_seqN ?_
          refine s_keep [3, 4, 5, 6, 7, 8] rfl ?_
          refine S_seq ?_
          refine S_seq ?_
          refine s_rg ?_
          refine s_op (o_mv rfl) ?_
          first | refine s_op (o_lss rfl rfl) ?_ | refine s_op (o_bin rfl rfl rfl rfl) ?_
          refine s_op (o_mv rfl) ?_
          first | refine s_gDF rfl ?_ ?_ | refine s_gNDF rfl ?_ ?_ | refine s_gNF rfl ?_ ?_ | refine s_gB rfl ?_ ?_
          · intro h5
            try rw [Decidable.not_not] at h5
            try have hc : code.length ≤ 1048576 := by simp at h5; omega
            try have hcf := choiceF (c := x) (s := s) (k := k) (by assumption) (by assumption)
            refine s_op (o_ldnC rfl rfl rfl) ?_
            refine s_gT rfl ?_
            first | refine s_call rfl rfl (c_184 x (by omega)) ?_ | refine s_callL rfl rfl (by simp) (c_184 x (by omega)) rfl ?_
            refine s_gT rfl ?_
            refine s_op (o_not rfl) ?_
            refine s_op (o_pickF rfl rfl) ?_
            refine s_nilO ?_
            refine q_seqN ?_
            refine s_keep [3, 4, 5, 6, 7, 8, 55] rfl ?_
            first | refine s_condD rfl ?_ ?_ | refine s_condN rfl ?_ ?_ | refine s_condNB rfl ?_ ?_ | refine s_condB rfl ?_ ?_
            · intro h6
              try rw [Decidable.not_not] at h6
              try have hc : code.length ≤ 1048576 := by simp at h6; omega
              try have hcf := choiceF (c := x) (s := s) (k := k) (by assumption) (by assumption)
              refine S_seq ?_
              refine s_rg ?_
              refine s_op (o_mv rfl) ?_
              refine s_nilO ?_
              refine q_seqN ?_
              refine s_keep [2] rfl ?_
              refine s_ret ?_
              refine q_seqR ?_
              refine ret_leaf (.inr rfl) rfl rfl ?_
              refine congrArg (fun b => V.w (.bool b)) ?_
              first | rfl | (simp_all; done) | (have k1 := hcf.wait; have k2 := hcf.split; have k3 := hcf.said; have k4 := hcf.w2; have k5 := hcf.s2; clear hs; first | omega | (simp_all; done) | (simp_all; omega))
            · intro h6
              try rw [Decidable.not_not] at h6
              try have hc : code.length ≤ 1048576 := by simp at h6; omega
              try have hcf := choiceF (c := x) (s := s) (k := k) (by assumption) (by assumption)
              refine s_skip ?_
              refine q_seqN ?_
              refine s_keep [3, 4, 5, 6, 7, 8] rfl ?_
              refine S_seq ?_
              refine s_rg ?_
              refine s_op (o_mv rfl) ?_
              refine s_op (o_faC rfl) ?_
              refine s_op (o_ldC rfl rfl rfl) ?_
              first | refine s_op (o_leq rfl rfl) ?_ | refine s_op (o_bin rfl rfl rfl rfl) ?_
              refine s_op (o_mv rfl) ?_
              first | refine s_gDT rfl ?_ ?_ | refine s_gNDT rfl ?_ ?_ | refine s_gNT rfl ?_ ?_ | refine s_gB rfl ?_ ?_
              · intro h7
                try rw [Decidable.not_not] at h7
                try have hc : code.length ≤ 1048576 := by simp at h7; omega
                try have hcf := choiceF (c := x) (s := s) (k := k) (by assumption) (by assumption)
                refine s_op (o_mv rfl) ?_
                refine s_gT rfl ?_
                first | refine s_op (o_geq rfl rfl) ?_ | refine s_op (o_bin rfl rfl rfl rfl) ?_
                refine s_op (o_pickT rfl rfl) ?_
                refine s_op (o_mv rfl) ?_
                first | refine s_gDT rfl ?_ ?_ | refine s_gNDT rfl ?_ ?_ | refine s_gNT rfl ?_ ?_ | refine s_gB rfl ?_ ?_
                · intro h8
                  try rw [Decidable.not_not] at h8
                  try have hc : code.length ≤ 1048576 := by simp at h8; omega
                  try have hcf := choiceF (c := x) (s := s) (k := k) (by assumption) (by assumption)
                  refine s_op (o_mv rfl) ?_
                  refine s_gT rfl ?_
                  first | refine s_op (o_geq rfl rfl) ?_ | refine s_op (o_bin rfl rfl rfl rfl) ?_
                  refine s_op (o_pickT rfl rfl) ?_
                  refine s_op (o_mv rfl) ?_
                  first | refine s_gDT rfl ?_ ?_ | refine s_gNDT rfl ?_ ?_ | refine s_gNT rfl ?_ ?_ | refine s_gB rfl ?_ ?_
                  · intro h9
                    try rw [Decidable.not_not] at h9
                    try have hc : code.length ≤ 1048576 := by simp at h9; omega
                    try have hcf := choiceF (c := x) (s := s) (k := k) (by assumption) (by assumption)
                    refine s_op (o_mv rfl) ?_
                    refine s_keepO (is := [3, 4, 5, 6, 7, 68, 69]) rfl ?_
                    refine s_gT rfl ?_
                    refine s_op (o_faC rfl) ?_
                    refine s_gT rfl ?_
                    refine s_op (o_ldC rfl rfl rfl) ?_
                    refine s_gT rfl ?_
                    first | refine s_op (o_leq rfl rfl) ?_ | refine s_op (o_bin rfl rfl rfl rfl) ?_
                    refine s_op (o_pickT rfl rfl) ?_
                    refine s_op (o_mv rfl) ?_
                    first | refine s_gDT rfl ?_ ?_ | refine s_gNDT rfl ?_ ?_ | refine s_gNT rfl ?_ ?_ | refine s_gB rfl ?_ ?_
                    · intro h10
                      try rw [Decidable.not_not] at h10
                      try have hc : code.length ≤ 1048576 := by simp at h10; omega
                      try have hcf := choiceF (c := x) (s := s) (k := k) (by assumption) (by assumption)
                      refine s_op (o_mv rfl) ?_
                      refine s_gT rfl ?_
                      first | refine s_op (o_eql rfl rfl) ?_ | refine s_op (o_bin rfl rfl rfl rfl) ?_
                      refine s_gT rfl ?_
                      refine s_op (o_mv rfl) ?_
                      first | refine s_gDF rfl ?_ ?_ | refine s_gNDF rfl ?_ ?_ | refine s_gNF rfl ?_ ?_ | refine s_gB rfl ?_ ?_
                      · intro h11
                        try rw [Decidable.not_not] at h11
                        try have hc : code.length ≤ 1048576 := by simp at h11; omega
                        try have hcf := choiceF (c := x) (s := s) (k := k) (by assumption) (by assumption)
                        refine s_op (o_mv rfl) ?_
                        refine s_gT rfl ?_
                        first | refine s_op (o_eql rfl rfl) ?_ | refine s_op (o_bin rfl rfl rfl rfl) ?_
                        refine s_gT rfl ?_
                        refine s_op (o_pickF rfl rfl) ?_
                        refine s_gT rfl ?_
                        refine s_op (o_mv rfl) ?_
                        first | refine s_gDF rfl ?_ ?_ | refine s_gNDF rfl ?_ ?_ | refine s_gNF rfl ?_ ?_ | refine s_gB rfl ?_ ?_
                        · intro h12
                          try rw [Decidable.not_not] at h12
                          try have hc : code.length ≤ 1048576 := by simp at h12; omega
                          try have hcf := choiceF (c := x) (s := s) (k := k) (by assumption) (by assumption)
                          refine s_op (o_mv rfl) ?_
                          refine s_gT rfl ?_
                          first | refine s_op (o_eql rfl rfl) ?_ | refine s_op (o_bin rfl rfl rfl rfl) ?_
                          refine s_keepO (is := [3, 4, 5, 6, 7, 74, 81, 83]) rfl ?_
                          refine s_gT rfl ?_
                          refine s_op (o_pickF rfl rfl) ?_
                          refine s_op (o_pickT rfl rfl) ?_
                          refine s_op (o_mv rfl) ?_
                          first | refine s_gDT rfl ?_ ?_ | refine s_gNDT rfl ?_ ?_ | refine s_gNT rfl ?_ ?_ | refine s_gB rfl ?_ ?_
                          · intro h13
                            try rw [Decidable.not_not] at h13
                            try have hc : code.length ≤ 1048576 := by simp at h13; omega
                            try have hcf := choiceF (c := x) (s := s) (k := k) (by assumption) (by assumption)
                            refine s_op (o_faC rfl) ?_
                            refine s_gT rfl ?_
                            refine s_op (o_ldC rfl rfl rfl) ?_
                            refine s_gT rfl ?_
                            first | refine s_op (o_lenM rfl) ?_ | refine s_op (o_len rfl) ?_ | refine s_op (o_lenL rfl rfl rfl) ?_ | refine s_op (o_lenN rfl) ?_
                            refine s_gT rfl ?_
                            first | refine s_op (o_eql rfl rfl) ?_ | refine s_op (o_bin rfl rfl rfl rfl) ?_
                            refine s_gT rfl ?_
                            refine s_op (o_mv rfl) ?_
                            first | refine s_gDF rfl ?_ ?_ | refine s_gNDF rfl ?_ ?_ | refine s_gNF rfl ?_ ?_ | refine s_gB rfl ?_ ?_
                            · intro h14
                              try rw [Decidable.not_not] at h14
                              try have hc : code.length ≤ 1048576 := by simp at h14; omega
                              try have hcf := choiceF (c := x) (s := s) (k := k) (by assumption) (by assumption)
                              refine s_op (o_ldnC rfl rfl rfl) ?_
                              refine s_gT rfl ?_
                              refine s_op (o_ldnC rfl rfl rfl) ?_
                              refine s_gT rfl ?_
                              refine s_op (o_mv rfl) ?_
                              refine s_gT rfl ?_
                              refine s_op (o_faC rfl) ?_
                              refine s_gT rfl ?_
                              refine s_op (o_ldC rfl rfl rfl) ?_
                              refine s_gT rfl ?_
                              first | refine s_op (o_lenM rfl) ?_ | refine s_op (o_len rfl) ?_ | refine s_op (o_lenL rfl rfl rfl) ?_ | refine s_op (o_lenN rfl) ?_
                              refine s_keepO (is := [4, 5, 6, 7, 86, 91, 92, 93, 94, 97]) rfl ?_
                              refine s_gT rfl ?_
                              first | refine s_op (o_addn rfl rfl (by omega)) ?_ | refine s_op (o_add rfl rfl) ?_
                              refine s_gT rfl ?_
                              first | refine s_call rfl rfl (c_80 x s _) ?_ | refine s_callL rfl rfl (by simp) (c_80 x s _) rfl ?_
                              refine s_gT rfl ?_
                              refine s_op (o_mv rfl) ?_
                              refine s_gT rfl ?_
                              first | refine s_op (o_eql rfl rfl) ?_ | refine s_op (o_bin rfl rfl rfl rfl) ?_
                              refine s_gT rfl ?_
                              refine s_op (o_pickF rfl rfl) ?_
                              refine s_op (o_pickT rfl rfl) ?_
                              refine s_op (o_mv rfl) ?_
                              first | refine s_gDT rfl ?_ ?_ | refine s_gNDT rfl ?_ ?_ | refine s_gNT rfl ?_ ?_ | refine s_gB rfl ?_ ?_
                              · intro h15
                                try rw [Decidable.not_not] at h15
                                try have hc : code.length ≤ 1048576 := by simp at h15; omega
                                try have hcf := choiceF (c := x) (s := s) (k := k) (by assumption) (by assumption)
                                refine s_op (o_faC rfl) ?_
                                refine s_gT rfl ?_
                                refine s_op (o_ldC rfl rfl rfl) ?_
                                refine s_gT rfl ?_
                                first | refine s_op (o_lenM rfl) ?_ | refine s_op (o_len rfl) ?_ | refine s_op (o_lenL rfl rfl rfl) ?_ | refine s_op (o_lenN rfl) ?_
                                refine s_gT rfl ?_
                                first | refine s_op (o_eql rfl rfl) ?_ | refine s_op (o_bin rfl rfl rfl rfl) ?_
                                refine s_gT rfl ?_
                                refine s_op (o_mv rfl) ?_
                                first | refine s_gDF rfl ?_ ?_ | refine s_gNDF rfl ?_ ?_ | refine s_gNF rfl ?_ ?_ | refine s_gB rfl ?_ ?_
                                · intro h16
                                  try rw [Decidable.not_not] at h16
                                  try have hc : code.length ≤ 1048576 := by simp at h16; omega
                                  try have hcf := choiceF (c := x) (s := s) (k := k) (by assumption) (by assumption)
                                  refine s_op (o_ldnC rfl rfl rfl) ?_
                                  refine s_gT rfl ?_
                                  refine s_op (o_mv rfl) ?_
                                  refine s_keepO (is := [4, 7, 104, 109, 110, 111]) rfl ?_
                                  refine s_gT rfl ?_
                                  refine s_op (o_faC rfl) ?_
                                  refine s_gT rfl ?_
                                  refine s_op (o_ldC rfl rfl rfl) ?_
                                  refine s_gT rfl ?_
                                  first | refine s_op (o_lenM rfl) ?_ | refine s_op (o_len rfl) ?_ | refine s_op (o_lenL rfl rfl rfl) ?_ | refine s_op (o_lenN rfl) ?_
                                  refine s_gT rfl ?_
                                  first | refine s_op (o_addn rfl rfl (by omega)) ?_ | refine s_op (o_add rfl rfl) ?_
                                  refine s_gT rfl ?_
                                  first | refine s_call rfl rfl (c_68 s _) ?_ | refine s_callL rfl rfl (by simp) (c_68 s _) rfl ?_
                                  refine s_gT rfl ?_
                                  refine s_op (o_mv rfl) ?_
                                  refine s_gT rfl ?_
                                  first | refine s_op (o_eql rfl rfl) ?_ | refine s_op (o_bin rfl rfl rfl rfl) ?_
                                  refine s_gT rfl ?_
                                  refine s_op (o_pickF rfl rfl) ?_
                                  refine s_op (o_pickT rfl rfl) ?_
                                  refine s_op (o_mv rfl) ?_
                                  refine s_nilO ?_
                                  refine q_seqN ?_
                                  refine s_keep [2] rfl ?_
                                  refine s_ret ?_
                                  refine ret_leaf (.inr rfl) rfl rfl ?_
                                  refine congrArg (fun b => V.w (.bool b)) ?_
                                  first | rfl | (simp_all; done) | (have k1 := hcf.wait; have k2 := hcf.split; have k3 := hcf.said; have k4 := hcf.w2; have k5 := hcf.s2; clear hs; first | omega | (simp_all; done) | (simp_all; omega))
                                · intro h16
                                  try rw [Decidable.not_not] at h16
                                  try have hc : code.length ≤ 1048576 := by simp at h16; omega
                                  try have hcf := choiceF (c := x) (s := s) (k := k) (by assumption) (by assumption)
                                  refine s_gF rfl ?_
                                  refine s_gF rfl ?_
                                  refine s_keepO (is := [4, 7, 104, 109, 110, 111]) rfl ?_
                                  refine s_gF rfl ?_
                                  refine s_gF rfl ?_
                                  refine s_gF rfl ?_
                                  refine s_gF rfl ?_
                                  refine s_gF rfl ?_
                                  refine s_gF rfl ?_
                                  refine s_gF rfl ?_
                                  refine s_gT rfl ?_
                                  refine s_op (o_pickT rfl rfl) ?_
                                  refine s_op (o_pickT rfl rfl) ?_
                                  refine s_op (o_mv rfl) ?_
                                  refine s_nilO ?_
                                  refine q_seqN ?_
                                  refine s_keep [2] rfl ?_
                                  refine s_ret ?_
                                  refine ret_leaf (.inr rfl) rfl rfl ?_
                                  refine congrArg (fun b => V.w (.bool b)) ?_
                                  first | rfl | (simp_all; done) | (have k1 := hcf.wait; have k2 := hcf.split; have k3 := hcf.said; have k4 := hcf.w2; have k5 := hcf.s2; clear hs; first | omega | (simp_all; done) | (simp_all; omega))
                              · intro h15
                                try rw [Decidable.not_not] at h15
                                try have hc : code.length ≤ 1048576 := by simp at h15; omega
                                try have hcf := choiceF (c := x) (s := s) (k := k) (by assumption) (by assumption)
                                refine s_gF rfl ?_
                                refine s_gF rfl ?_
                                refine s_gF rfl ?_
                                refine s_gF rfl ?_
                                refine s_gF rfl ?_
                                refine s_gN rfl ?_
                                refine s_gN rfl ?_
                                refine s_keepO (is := [4, 7, 104, 109, 110, 111]) rfl ?_
                                refine s_gN rfl ?_
                                refine s_gN rfl ?_
                                refine s_gN rfl ?_
                                refine s_gN rfl ?_
                                refine s_gN rfl ?_
                                refine s_gN rfl ?_
                                refine s_gN rfl ?_
                                refine s_gF rfl ?_
                                refine s_op (o_pickF rfl rfl) ?_
                                refine s_op (o_mv rfl) ?_
                                refine s_nilO ?_
                                refine q_seqN ?_
                                refine s_keep [2] rfl ?_
                                refine s_ret ?_
                                refine ret_leaf (.inr rfl) rfl rfl ?_
                                refine congrArg (fun b => V.w (.bool b)) ?_
                                first | rfl | (simp_all; done) | (have k1 := hcf.wait; have k2 := hcf.split; have k3 := hcf.said; have k4 := hcf.w2; have k5 := hcf.s2; clear hs; first | omega | (simp_all; done) | (simp_all; omega))
                            · intro h14
                              try rw [Decidable.not_not] at h14
                              try have hc : code.length ≤ 1048576 := by simp at h14; omega
                              try have hcf := choiceF (c := x) (s := s) (k := k) (by assumption) (by assumption)
                              refine s_gF rfl ?_
                              refine s_gF rfl ?_
                              refine s_gF rfl ?_
                              refine s_gF rfl ?_
                              refine s_gF rfl ?_
                              refine s_gF rfl ?_
                              refine s_keepO (is := [4, 5, 6, 7, 86, 91, 92, 93, 94, 97]) rfl ?_
                              refine s_gF rfl ?_
                              refine s_gF rfl ?_
                              refine s_gF rfl ?_
                              refine s_gF rfl ?_
                              refine s_gT rfl ?_
                              refine s_op (o_pickT rfl rfl) ?_
                              refine s_op (o_pickT rfl rfl) ?_
                              refine s_op (o_mv rfl) ?_
                              refine s_gT rfl ?_
                              refine s_op (o_faC rfl) ?_
                              refine s_gT rfl ?_
                              refine s_op (o_ldC rfl rfl rfl) ?_
                              refine s_gT rfl ?_
                              first | refine s_op (o_lenM rfl) ?_ | refine s_op (o_len rfl) ?_ | refine s_op (o_lenL rfl rfl rfl) ?_ | refine s_op (o_lenN rfl) ?_
                              refine s_gT rfl ?_
                              first | refine s_op (o_eql rfl rfl) ?_ | refine s_op (o_bin rfl rfl rfl rfl) ?_
                              refine s_gT rfl ?_
                              refine s_op (o_mv rfl) ?_
                              first | refine s_gDF rfl ?_ ?_ | refine s_gNDF rfl ?_ ?_ | refine s_gNF rfl ?_ ?_ | refine s_gB rfl ?_ ?_
                              · intro h17
                                try rw [Decidable.not_not] at h17
                                try have hc : code.length ≤ 1048576 := by simp at h17; omega
                                try have hcf := choiceF (c := x) (s := s) (k := k) (by assumption) (by assumption)
                                refine s_op (o_ldnC rfl rfl rfl) ?_
                                refine s_gT rfl ?_
                                refine s_op (o_mv rfl) ?_
                                refine s_keepO (is := [4, 7, 104, 109, 110, 111]) rfl ?_
                                refine s_gT rfl ?_
                                refine s_op (o_faC rfl) ?_
                                refine s_gT rfl ?_
                                refine s_op (o_ldC rfl rfl rfl) ?_
                                refine s_gT rfl ?_
                                first | refine s_op (o_lenM rfl) ?_ | refine s_op (o_len rfl) ?_ | refine s_op (o_lenL rfl rfl rfl) ?_ | refine s_op (o_lenN rfl) ?_
                                refine s_gT rfl ?_
                                first | refine s_op (o_addn rfl rfl (by omega)) ?_ | refine s_op (o_add rfl rfl) ?_
                                refine s_gT rfl ?_
                                first | refine s_call rfl rfl (c_68 s _) ?_ | refine s_callL rfl rfl (by simp) (c_68 s _) rfl ?_
                                refine s_gT rfl ?_
                                refine s_op (o_mv rfl) ?_
                                refine s_gT rfl ?_
                                first | refine s_op (o_eql rfl rfl) ?_ | refine s_op (o_bin rfl rfl rfl rfl) ?_
                                refine s_gT rfl ?_
                                refine s_op (o_pickF rfl rfl) ?_
                                refine s_op (o_pickT rfl rfl) ?_
                                refine s_op (o_mv rfl) ?_
                                refine s_nilO ?_
                                refine q_seqN ?_
                                refine s_keep [2] rfl ?_
                                refine s_ret ?_
                                refine ret_leaf (.inr rfl) rfl rfl ?_
                                refine congrArg (fun b => V.w (.bool b)) ?_
                                first | rfl | (simp_all; done) | (have k1 := hcf.wait; have k2 := hcf.split; have k3 := hcf.said; have k4 := hcf.w2; have k5 := hcf.s2; clear hs; first | omega | (simp_all; done) | (simp_all; omega))
                              · intro h17
                                try rw [Decidable.not_not] at h17
                                try have hc : code.length ≤ 1048576 := by simp at h17; omega
                                try have hcf := choiceF (c := x) (s := s) (k := k) (by assumption) (by assumption)
                                refine s_gF rfl ?_
                                refine s_gF rfl ?_
                                refine s_keepO (is := [4, 7, 104, 109, 110, 111]) rfl ?_
                                refine s_gF rfl ?_
                                refine s_gF rfl ?_
                                refine s_gF rfl ?_
                                refine s_gF rfl ?_
                                refine s_gF rfl ?_
                                refine s_gF rfl ?_
                                refine s_gF rfl ?_
                                refine s_gT rfl ?_
                                refine s_op (o_pickT rfl rfl) ?_
                                refine s_op (o_pickT rfl rfl) ?_
                                refine s_op (o_mv rfl) ?_
                                refine s_nilO ?_
                                refine q_seqN ?_
                                refine s_keep [2] rfl ?_
                                refine s_ret ?_
                                refine ret_leaf (.inr rfl) rfl rfl ?_
                                refine congrArg (fun b => V.w (.bool b)) ?_
                                first | rfl | (simp_all; done) | (have k1 := hcf.wait; have k2 := hcf.split; have k3 := hcf.said; have k4 := hcf.w2; have k5 := hcf.s2; clear hs; first | omega | (simp_all; done) | (simp_all; omega))
                          · intro h13
                            try rw [Decidable.not_not] at h13
                            try have hc : code.length ≤ 1048576 := by simp at h13; omega
                            try have hcf := choiceF (c := x) (s := s) (k := k) (by assumption) (by assumption)
                            refine s_gF rfl ?_
                            refine s_gF rfl ?_
                            refine s_gF rfl ?_
                            refine s_gF rfl ?_
                            refine s_gF rfl ?_
                            refine s_gN rfl ?_
                            refine s_gN rfl ?_
                            refine s_gN rfl ?_
                            refine s_gN rfl ?_
                            refine s_gN rfl ?_
                            refine s_gN rfl ?_
                            refine s_keepO (is := [4, 5, 6, 7, 86, 91, 92, 93, 94, 97]) rfl ?_
                            refine s_gN rfl ?_
                            refine s_gN rfl ?_
                            refine s_gN rfl ?_
                            refine s_gN rfl ?_
                            refine s_gF rfl ?_
                            refine s_op (o_pickF rfl rfl) ?_
                            refine s_op (o_mv rfl) ?_
                            refine s_gF rfl ?_
                            refine s_gF rfl ?_
                            refine s_gF rfl ?_
                            refine s_gF rfl ?_
                            refine s_gF rfl ?_
                            refine s_gN rfl ?_
                            refine s_gN rfl ?_
                            refine s_keepO (is := [4, 7, 104, 109, 110, 111]) rfl ?_
                            refine s_gN rfl ?_
                            refine s_gN rfl ?_
                            refine s_gN rfl ?_
                            refine s_gN rfl ?_
                            refine s_gN rfl ?_
                            refine s_gN rfl ?_
                            refine s_gN rfl ?_
                            refine s_gF rfl ?_
                            refine s_op (o_pickF rfl rfl) ?_
                            refine s_op (o_mv rfl) ?_
                            refine s_nilO ?_
                            refine q_seqN ?_
                            refine s_keep [2] rfl ?_
                            refine s_ret ?_
                            refine ret_leaf (.inr rfl) rfl rfl ?_
                            refine congrArg (fun b => V.w (.bool b)) ?_
                            first | rfl | (simp_all; done) | (have k1 := hcf.wait; have k2 := hcf.split; have k3 := hcf.said; have k4 := hcf.w2; have k5 := hcf.s2; clear hs; first | omega | (simp_all; done) | (simp_all; omega))
                        · intro h12
                          try rw [Decidable.not_not] at h12
                          try have hc : code.length ≤ 1048576 := by simp at h12; omega
                          try have hcf := choiceF (c := x) (s := s) (k := k) (by assumption) (by assumption)
                          refine s_gF rfl ?_
                          refine s_gF rfl ?_
                          refine s_keepO (is := [3, 4, 5, 6, 7, 74, 81, 83]) rfl ?_
                          refine s_gT rfl ?_
                          refine s_op (o_pickT rfl rfl) ?_
                          refine s_op (o_pickT rfl rfl) ?_
                          refine s_op (o_mv rfl) ?_
                          refine s_gT rfl ?_
                          refine s_op (o_faC rfl) ?_
                          refine s_gT rfl ?_
                          refine s_op (o_ldC rfl rfl rfl) ?_
                          refine s_gT rfl ?_
                          first | refine s_op (o_lenM rfl) ?_ | refine s_op (o_len rfl) ?_ | refine s_op (o_lenL rfl rfl rfl) ?_ | refine s_op (o_lenN rfl) ?_
                          refine s_gT rfl ?_
                          first | refine s_op (o_eql rfl rfl) ?_ | refine s_op (o_bin rfl rfl rfl rfl) ?_
                          refine s_gT rfl ?_
                          refine s_op (o_mv rfl) ?_
                          first | refine s_gDF rfl ?_ ?_ | refine s_gNDF rfl ?_ ?_ | refine s_gNF rfl ?_ ?_ | refine s_gB rfl ?_ ?_
                          · intro h18
                            try rw [Decidable.not_not] at h18
                            try have hc : code.length ≤ 1048576 := by simp at h18; omega
                            try have hcf := choiceF (c := x) (s := s) (k := k) (by assumption) (by assumption)
                            refine s_op (o_ldnC rfl rfl rfl) ?_
                            refine s_gT rfl ?_
                            refine s_op (o_ldnC rfl rfl rfl) ?_
                            refine s_gT rfl ?_
                            refine s_op (o_mv rfl) ?_
                            refine s_gT rfl ?_
                            refine s_op (o_faC rfl) ?_
                            refine s_gT rfl ?_
                            refine s_op (o_ldC rfl rfl rfl) ?_
                            refine s_gT rfl ?_
                            first | refine s_op (o_lenM rfl) ?_ | refine s_op (o_len rfl) ?_ | refine s_op (o_lenL rfl rfl rfl) ?_ | refine s_op (o_lenN rfl) ?_
                            refine s_keepO (is := [4, 5, 6, 7, 86, 91, 92, 93, 94, 97]) rfl ?_
                            refine s_gT rfl ?_
                            first | refine s_op (o_addn rfl rfl (by omega)) ?_ | refine s_op (o_add rfl rfl) ?_
                            refine s_gT rfl ?_
                            first | refine s_call rfl rfl (c_80 x s _) ?_ | refine s_callL rfl rfl (by simp) (c_80 x s _) rfl ?_
                            refine s_gT rfl ?_
                            refine s_op (o_mv rfl) ?_
                            refine s_gT rfl ?_
                            first | refine s_op (o_eql rfl rfl) ?_ | refine s_op (o_bin rfl rfl rfl rfl) ?_
                            refine s_gT rfl ?_
                            refine s_op (o_pickF rfl rfl) ?_
                            refine s_op (o_pickT rfl rfl) ?_
                            refine s_op (o_mv rfl) ?_
                            first | refine s_gDT rfl ?_ ?_ | refine s_gNDT rfl ?_ ?_ | refine s_gNT rfl ?_ ?_ | refine s_gB rfl ?_ ?_
                            · intro h19
                              try rw [Decidable.not_not] at h19
                              try have hc : code.length ≤ 1048576 := by simp at h19; omega
                              try have hcf := choiceF (c := x) (s := s) (k := k) (by assumption) (by assumption)
                              refine s_op (o_faC rfl) ?_
                              refine s_gT rfl ?_
                              refine s_op (o_ldC rfl rfl rfl) ?_
                              refine s_gT rfl ?_
                              first | refine s_op (o_lenM rfl) ?_ | refine s_op (o_len rfl) ?_ | refine s_op (o_lenL rfl rfl rfl) ?_ | refine s_op (o_lenN rfl) ?_
                              refine s_gT rfl ?_
                              first | refine s_op (o_eql rfl rfl) ?_ | refine s_op (o_bin rfl rfl rfl rfl) ?_
                              refine s_gT rfl ?_
                              refine s_op (o_mv rfl) ?_
                              first | refine s_gDF rfl ?_ ?_ | refine s_gNDF rfl ?_ ?_ | refine s_gNF rfl ?_ ?_ | refine s_gB rfl ?_ ?_
                              · intro h20
                                try rw [Decidable.not_not] at h20
                                try have hc : code.length ≤ 1048576 := by simp at h20; omega
                                try have hcf := choiceF (c := x) (s := s) (k := k) (by assumption) (by assumption)
                                refine s_op (o_ldnC rfl rfl rfl) ?_
                                refine s_gT rfl ?_
                                refine s_op (o_mv rfl) ?_
                                refine s_keepO (is := [4, 7, 104, 109, 110, 111]) rfl ?_
                                refine s_gT rfl ?_
                                refine s_op (o_faC rfl) ?_
                                refine s_gT rfl ?_
                                refine s_op (o_ldC rfl rfl rfl) ?_
                                refine s_gT rfl ?_
                                first | refine s_op (o_lenM rfl) ?_ | refine s_op (o_len rfl) ?_ | refine s_op (o_lenL rfl rfl rfl) ?_ | refine s_op (o_lenN rfl) ?_
                                refine s_gT rfl ?_
                                first | refine s_op (o_addn rfl rfl (by omega)) ?_ | refine s_op (o_add rfl rfl) ?_
                                refine s_gT rfl ?_
                                first | refine s_call rfl rfl (c_68 s _) ?_ | refine s_callL rfl rfl (by simp) (c_68 s _) rfl ?_
                                refine s_gT rfl ?_
                                refine s_op (o_mv rfl) ?_
                                refine s_gT rfl ?_
                                first | refine s_op (o_eql rfl rfl) ?_ | refine s_op (o_bin rfl rfl rfl rfl) ?_
                                refine s_gT rfl ?_
                                refine s_op (o_pickF rfl rfl) ?_
                                refine s_op (o_pickT rfl rfl) ?_
                                refine s_op (o_mv rfl) ?_
                                refine s_nilO ?_
                                refine q_seqN ?_
                                refine s_keep [2] rfl ?_
                                refine s_ret ?_
                                refine ret_leaf (.inr rfl) rfl rfl ?_
                                refine congrArg (fun b => V.w (.bool b)) ?_
                                first | rfl | (simp_all; done) | (have k1 := hcf.wait; have k2 := hcf.split; have k3 := hcf.said; have k4 := hcf.w2; have k5 := hcf.s2; clear hs; first | omega | (simp_all; done) | (simp_all; omega))
                              · intro h20
                                try rw [Decidable.not_not] at h20
                                try have hc : code.length ≤ 1048576 := by simp at h20; omega
                                try have hcf := choiceF (c := x) (s := s) (k := k) (by assumption) (by assumption)
                                refine s_gF rfl ?_
                                refine s_gF rfl ?_
                                refine s_keepO (is := [4, 7, 104, 109, 110, 111]) rfl ?_
                                refine s_gF rfl ?_
                                refine s_gF rfl ?_
                                refine s_gF rfl ?_
                                refine s_gF rfl ?_
                                refine s_gF rfl ?_
                                refine s_gF rfl ?_
                                refine s_gF rfl ?_
                                refine s_gT rfl ?_
                                refine s_op (o_pickT rfl rfl) ?_
                                refine s_op (o_pickT rfl rfl) ?_
                                refine s_op (o_mv rfl) ?_
                                refine s_nilO ?_
                                refine q_seqN ?_
                                refine s_keep [2] rfl ?_
                                refine s_ret ?_
                                refine ret_leaf (.inr rfl) rfl rfl ?_
                                refine congrArg (fun b => V.w (.bool b)) ?_
                                first | rfl | (simp_all; done) | (have k1 := hcf.wait; have k2 := hcf.split; have k3 := hcf.said; have k4 := hcf.w2; have k5 := hcf.s2; clear hs; first | omega | (simp_all; done) | (simp_all; omega))
                            · intro h19
                              try rw [Decidable.not_not] at h19
                              try have hc : code.length ≤ 1048576 := by simp at h19; omega
                              try have hcf := choiceF (c := x) (s := s) (k := k) (by assumption) (by assumption)
                              refine s_gF rfl ?_
                              refine s_gF rfl ?_
                              refine s_gF rfl ?_
                              refine s_gF rfl ?_
                              refine s_gF rfl ?_
                              refine s_gN rfl ?_
                              refine s_gN rfl ?_
                              refine s_keepO (is := [4, 7, 104, 109, 110, 111]) rfl ?_
                              refine s_gN rfl ?_
                              refine s_gN rfl ?_
                              refine s_gN rfl ?_
                              refine s_gN rfl ?_
                              refine s_gN rfl ?_
                              refine s_gN rfl ?_
                              refine s_gN rfl ?_
                              refine s_gF rfl ?_
                              refine s_op (o_pickF rfl rfl) ?_
                              refine s_op (o_mv rfl) ?_
                              refine s_nilO ?_
                              refine q_seqN ?_
                              refine s_keep [2] rfl ?_
                              refine s_ret ?_
                              refine ret_leaf (.inr rfl) rfl rfl ?_
                              refine congrArg (fun b => V.w (.bool b)) ?_
                              first | rfl | (simp_all; done) | (have k1 := hcf.wait; have k2 := hcf.split; have k3 := hcf.said; have k4 := hcf.w2; have k5 := hcf.s2; clear hs; first | omega | (simp_all; done) | (simp_all; omega))
                          · intro h18
                            try rw [Decidable.not_not] at h18
                            try have hc : code.length ≤ 1048576 := by simp at h18; omega
                            try have hcf := choiceF (c := x) (s := s) (k := k) (by assumption) (by assumption)
                            refine s_gF rfl ?_
                            refine s_gF rfl ?_
                            refine s_gF rfl ?_
                            refine s_gF rfl ?_
                            refine s_gF rfl ?_
                            refine s_gF rfl ?_
                            refine s_keepO (is := [4, 5, 6, 7, 86, 91, 92, 93, 94, 97]) rfl ?_
                            refine s_gF rfl ?_
                            refine s_gF rfl ?_
                            refine s_gF rfl ?_
                            refine s_gF rfl ?_
                            refine s_gT rfl ?_
                            refine s_op (o_pickT rfl rfl) ?_
                            refine s_op (o_pickT rfl rfl) ?_
                            refine s_op (o_mv rfl) ?_
                            refine s_gT rfl ?_
                            refine s_op (o_faC rfl) ?_
                            refine s_gT rfl ?_
                            refine s_op (o_ldC rfl rfl rfl) ?_
                            refine s_gT rfl ?_
                            first | refine s_op (o_lenM rfl) ?_ | refine s_op (o_len rfl) ?_ | refine s_op (o_lenL rfl rfl rfl) ?_ | refine s_op (o_lenN rfl) ?_
                            refine s_gT rfl ?_
                            first | refine s_op (o_eql rfl rfl) ?_ | refine s_op (o_bin rfl rfl rfl rfl) ?_
                            refine s_gT rfl ?_
                            refine s_op (o_mv rfl) ?_
                            first | refine s_gDF rfl ?_ ?_ | refine s_gNDF rfl ?_ ?_ | refine s_gNF rfl ?_ ?_ | refine s_gB rfl ?_ ?_
                            · intro h21
                              try rw [Decidable.not_not] at h21
                              try have hc : code.length ≤ 1048576 := by simp at h21; omega
                              try have hcf := choiceF (c := x) (s := s) (k := k) (by assumption) (by assumption)
                              refine s_op (o_ldnC rfl rfl rfl) ?_
                              refine s_gT rfl ?_
                              refine s_op (o_mv rfl) ?_
                              refine s_keepO (is := [4, 7, 104, 109, 110, 111]) rfl ?_
                              refine s_gT rfl ?_
                              refine s_op (o_faC rfl) ?_
                              refine s_gT rfl ?_
                              refine s_op (o_ldC rfl rfl rfl) ?_
                              refine s_gT rfl ?_
                              first | refine s_op (o_lenM rfl) ?_ | refine s_op (o_len rfl) ?_ | refine s_op (o_lenL rfl rfl rfl) ?_ | refine s_op (o_lenN rfl) ?_
                              refine s_gT rfl ?_
                              first | refine s_op (o_addn rfl rfl (by omega)) ?_ | refine s_op (o_add rfl rfl) ?_
                              refine s_gT rfl ?_
                              first | refine s_call rfl rfl (c_68 s _) ?_ | refine s_callL rfl rfl (by simp) (c_68 s _) rfl ?_
                              refine s_gT rfl ?_
                              refine s_op (o_mv rfl) ?_
                              refine s_gT rfl ?_
                              first | refine s_op (o_eql rfl rfl) ?_ | refine s_op (o_bin rfl rfl rfl rfl) ?_
                              refine s_gT rfl ?_
                              refine s_op (o_pickF rfl rfl) ?_
                              refine s_op (o_pickT rfl rfl) ?_
                              refine s_op (o_mv rfl) ?_
                              refine s_nilO ?_
                              refine q_seqN ?_
                              refine s_keep [2] rfl ?_
                              refine s_ret ?_
                              refine ret_leaf (.inr rfl) rfl rfl ?_
                              refine congrArg (fun b => V.w (.bool b)) ?_
                              first | rfl | (simp_all; done) | (have k1 := hcf.wait; have k2 := hcf.split; have k3 := hcf.said; have k4 := hcf.w2; have k5 := hcf.s2; clear hs; first | omega | (simp_all; done) | (simp_all; omega))
                            · intro h21
                              try rw [Decidable.not_not] at h21
                              try have hc : code.length ≤ 1048576 := by simp at h21; omega
                              try have hcf := choiceF (c := x) (s := s) (k := k) (by assumption) (by assumption)
                              refine s_gF rfl ?_
                              refine s_gF rfl ?_
                              refine s_keepO (is := [4, 7, 104, 109, 110, 111]) rfl ?_
                              refine s_gF rfl ?_
                              refine s_gF rfl ?_
                              refine s_gF rfl ?_
                              refine s_gF rfl ?_
                              refine s_gF rfl ?_
                              refine s_gF rfl ?_
                              refine s_gF rfl ?_
                              refine s_gT rfl ?_
                              refine s_op (o_pickT rfl rfl) ?_
                              refine s_op (o_pickT rfl rfl) ?_
                              refine s_op (o_mv rfl) ?_
                              refine s_nilO ?_
                              refine q_seqN ?_
                              refine s_keep [2] rfl ?_
                              refine s_ret ?_
                              refine ret_leaf (.inr rfl) rfl rfl ?_
                              refine congrArg (fun b => V.w (.bool b)) ?_
                              first | rfl | (simp_all; done) | (have k1 := hcf.wait; have k2 := hcf.split; have k3 := hcf.said; have k4 := hcf.w2; have k5 := hcf.s2; clear hs; first | omega | (simp_all; done) | (simp_all; omega))
                      · intro h11
                        try rw [Decidable.not_not] at h11
                        try have hc : code.length ≤ 1048576 := by simp at h11; omega
                        try have hcf := choiceF (c := x) (s := s) (k := k) (by assumption) (by assumption)
                        refine s_gF rfl ?_
                        refine s_gF rfl ?_
                        refine s_gT rfl ?_
                        refine s_op (o_pickT rfl rfl) ?_
                        refine s_gT rfl ?_
                        refine s_op (o_mv rfl) ?_
                        refine s_gF rfl ?_
                        refine s_gF rfl ?_
                        refine s_keepO (is := [3, 4, 5, 6, 7, 74, 81, 83]) rfl ?_
                        refine s_gT rfl ?_
                        refine s_op (o_pickT rfl rfl) ?_
                        refine s_op (o_pickT rfl rfl) ?_
                        refine s_op (o_mv rfl) ?_
                        refine s_gT rfl ?_
                        refine s_op (o_faC rfl) ?_
                        refine s_gT rfl ?_
                        refine s_op (o_ldC rfl rfl rfl) ?_
                        refine s_gT rfl ?_
                        first | refine s_op (o_lenM rfl) ?_ | refine s_op (o_len rfl) ?_ | refine s_op (o_lenL rfl rfl rfl) ?_ | refine s_op (o_lenN rfl) ?_
                        refine s_gT rfl ?_
                        first | refine s_op (o_eql rfl rfl) ?_ | refine s_op (o_bin rfl rfl rfl rfl) ?_
                        refine s_gT rfl ?_
                        refine s_op (o_mv rfl) ?_
                        first | refine s_gDF rfl ?_ ?_ | refine s_gNDF rfl ?_ ?_ | refine s_gNF rfl ?_ ?_ | refine s_gB rfl ?_ ?_
                        · intro h22
                          try rw [Decidable.not_not] at h22
                          try have hc : code.length ≤ 1048576 := by simp at h22; omega
                          try have hcf := choiceF (c := x) (s := s) (k := k) (by assumption) (by assumption)
                          refine s_op (o_ldnC rfl rfl rfl) ?_
                          refine s_gT rfl ?_
                          refine s_op (o_ldnC rfl rfl rfl) ?_
                          refine s_gT rfl ?_
                          refine s_op (o_mv rfl) ?_
                          refine s_gT rfl ?_
                          refine s_op (o_faC rfl) ?_
                          refine s_gT rfl ?_
                          refine s_op (o_ldC rfl rfl rfl) ?_
                          refine s_gT rfl ?_
                          first | refine s_op (o_lenM rfl) ?_ | refine s_op (o_len rfl) ?_ | refine s_op (o_lenL rfl rfl rfl) ?_ | refine s_op (o_lenN rfl) ?_
                          refine s_keepO (is := [4, 5, 6, 7, 86, 91, 92, 93, 94, 97]) rfl ?_
                          refine s_gT rfl ?_
                          first | refine s_op (o_addn rfl rfl (by omega)) ?_ | refine s_op (o_add rfl rfl) ?_
                          refine s_gT rfl ?_
                          first | refine s_call rfl rfl (c_80 x s _) ?_ | refine s_callL rfl rfl (by simp) (c_80 x s _) rfl ?_
                          refine s_gT rfl ?_
                          refine s_op (o_mv rfl) ?_
                          refine s_gT rfl ?_
                          first | refine s_op (o_eql rfl rfl) ?_ | refine s_op (o_bin rfl rfl rfl rfl) ?_
                          refine s_gT rfl ?_
                          refine s_op (o_pickF rfl rfl) ?_
                          refine s_op (o_pickT rfl rfl) ?_
                          refine s_op (o_mv rfl) ?_
                          first | refine s_gDT rfl ?_ ?_ | refine s_gNDT rfl ?_ ?_ | refine s_gNT rfl ?_ ?_ | refine s_gB rfl ?_ ?_
                          · intro h23
                            try rw [Decidable.not_not] at h23
                            try have hc : code.length ≤ 1048576 := by simp at h23; omega
                            try have hcf := choiceF (c := x) (s := s) (k := k) (by assumption) (by assumption)
                            refine s_op (o_faC rfl) ?_
                            refine s_gT rfl ?_
                            refine s_op (o_ldC rfl rfl rfl) ?_
                            refine s_gT rfl ?_
                            first | refine s_op (o_lenM rfl) ?_ | refine s_op (o_len rfl) ?_ | refine s_op (o_lenL rfl rfl rfl) ?_ | refine s_op (o_lenN rfl) ?_
                            refine s_gT rfl ?_
                            first | refine s_op (o_eql rfl rfl) ?_ | refine s_op (o_bin rfl rfl rfl rfl) ?_
                            refine s_gT rfl ?_
                            refine s_op (o_mv rfl) ?_
                            first | refine s_gDF rfl ?_ ?_ | refine s_gNDF rfl ?_ ?_ | refine s_gNF rfl ?_ ?_ | refine s_gB rfl ?_ ?_
                            · intro h24
                              try rw [Decidable.not_not] at h24
                              try have hc : code.length ≤ 1048576 := by simp at h24; omega
                              try have hcf := choiceF (c := x) (s := s) (k := k) (by assumption) (by assumption)
                              refine s_op (o_ldnC rfl rfl rfl) ?_
                              refine s_gT rfl ?_
                              refine s_op (o_mv rfl) ?_
                              refine s_keepO (is := [4, 7, 104, 109, 110, 111]) rfl ?_
                              refine s_gT rfl ?_
                              refine s_op (o_faC rfl) ?_
                              refine s_gT rfl ?_
                              refine s_op (o_ldC rfl rfl rfl) ?_
                              refine s_gT rfl ?_
                              first | refine s_op (o_lenM rfl) ?_ | refine s_op (o_len rfl) ?_ | refine s_op (o_lenL rfl rfl rfl) ?_ | refine s_op (o_lenN rfl) ?_
                              refine s_gT rfl ?_
                              first | refine s_op (o_addn rfl rfl (by omega)) ?_ | refine s_op (o_add rfl rfl) ?_
                              refine s_gT rfl ?_
                              first | refine s_call rfl rfl (c_68 s _) ?_ | refine s_callL rfl rfl (by simp) (c_68 s _) rfl ?_
                              refine s_gT rfl ?_
                              refine s_op (o_mv rfl) ?_
                              refine s_gT rfl ?_
                              first | refine s_op (o_eql rfl rfl) ?_ | refine s_op (o_bin rfl rfl rfl rfl) ?_
                              refine s_gT rfl ?_
                              refine s_op (o_pickF rfl rfl) ?_
                              refine s_op (o_pickT rfl rfl) ?_
                              refine s_op (o_mv rfl) ?_
                              refine s_nilO ?_
                              refine q_seqN ?_
                              refine s_keep [2] rfl ?_
                              refine s_ret ?_
                              refine ret_leaf (.inr rfl) rfl rfl ?_
                              refine congrArg (fun b => V.w (.bool b)) ?_
                              first | rfl | (simp_all; done) | (have k1 := hcf.wait; have k2 := hcf.split; have k3 := hcf.said; have k4 := hcf.w2; have k5 := hcf.s2; clear hs; first | omega | (simp_all; done) | (simp_all; omega))
                            · intro h24
                              try rw [Decidable.not_not] at h24
                              try have hc : code.length ≤ 1048576 := by simp at h24; omega
                              try have hcf := choiceF (c := x) (s := s) (k := k) (by assumption) (by assumption)
                              refine s_gF rfl ?_
                              refine s_gF rfl ?_
                              refine s_keepO (is := [4, 7, 104, 109, 110, 111]) rfl ?_
                              refine s_gF rfl ?_
                              refine s_gF rfl ?_
                              refine s_gF rfl ?_
                              refine s_gF rfl ?_
                              refine s_gF rfl ?_
                              refine s_gF rfl ?_
                              refine s_gF rfl ?_
                              refine s_gT rfl ?_
                              refine s_op (o_pickT rfl rfl) ?_
                              refine s_op (o_pickT rfl rfl) ?_
                              refine s_op (o_mv rfl) ?_
                              refine s_nilO ?_
                              refine q_seqN ?_
                              refine s_keep [2] rfl ?_
                              refine s_ret ?_
                              refine ret_leaf (.inr rfl) rfl rfl ?_
                              refine congrArg (fun b => V.w (.bool b)) ?_
                              first | rfl | (simp_all; done) | (have k1 := hcf.wait; have k2 := hcf.split; have k3 := hcf.said; have k4 := hcf.w2; have k5 := hcf.s2; clear hs; first | omega | (simp_all; done) | (simp_all; omega))
                          · intro h23
                            try rw [Decidable.not_not] at h23
                            try have hc : code.length ≤ 1048576 := by simp at h23; omega
                            try have hcf := choiceF (c := x) (s := s) (k := k) (by assumption) (by assumption)
                            refine s_gF rfl ?_
                            refine s_gF rfl ?_
                            refine s_gF rfl ?_
                            refine s_gF rfl ?_
                            refine s_gF rfl ?_
                            refine s_gN rfl ?_
                            refine s_gN rfl ?_
                            refine s_keepO (is := [4, 7, 104, 109, 110, 111]) rfl ?_
                            refine s_gN rfl ?_
                            refine s_gN rfl ?_
                            refine s_gN rfl ?_
                            refine s_gN rfl ?_
                            refine s_gN rfl ?_
                            refine s_gN rfl ?_
                            refine s_gN rfl ?_
                            refine s_gF rfl ?_
                            refine s_op (o_pickF rfl rfl) ?_
                            refine s_op (o_mv rfl) ?_
                            refine s_nilO ?_
                            refine q_seqN ?_
                            refine s_keep [2] rfl ?_
                            refine s_ret ?_
                            refine ret_leaf (.inr rfl) rfl rfl ?_
                            refine congrArg (fun b => V.w (.bool b)) ?_
                            first | rfl | (simp_all; done) | (have k1 := hcf.wait; have k2 := hcf.split; have k3 := hcf.said; have k4 := hcf.w2; have k5 := hcf.s2; clear hs; first | omega | (simp_all; done) | (simp_all; omega))
                        · intro h22
                          try rw [Decidable.not_not] at h22
                          try have hc : code.length ≤ 1048576 := by simp at h22; omega
                          try have hcf := choiceF (c := x) (s := s) (k := k) (by assumption) (by assumption)
                          refine s_gF rfl ?_
                          refine s_gF rfl ?_
                          refine s_gF rfl ?_
                          refine s_gF rfl ?_
                          refine s_gF rfl ?_
                          refine s_gF rfl ?_
                          refine s_keepO (is := [4, 5, 6, 7, 86, 91, 92, 93, 94, 97]) rfl ?_
                          refine s_gF rfl ?_
                          refine s_gF rfl ?_
                          refine s_gF rfl ?_
                          refine s_gF rfl ?_
                          refine s_gT rfl ?_
                          refine s_op (o_pickT rfl rfl) ?_
                          refine s_op (o_pickT rfl rfl) ?_
                          refine s_op (o_mv rfl) ?_
                          refine s_gT rfl ?_
                          refine s_op (o_faC rfl) ?_
                          refine s_gT rfl ?_
                          refine s_op (o_ldC rfl rfl rfl) ?_
                          refine s_gT rfl ?_
                          first | refine s_op (o_lenM rfl) ?_ | refine s_op (o_len rfl) ?_ | refine s_op (o_lenL rfl rfl rfl) ?_ | refine s_op (o_lenN rfl) ?_
                          refine s_gT rfl ?_
                          first | refine s_op (o_eql rfl rfl) ?_ | refine s_op (o_bin rfl rfl rfl rfl) ?_
                          refine s_gT rfl ?_
                          refine s_op (o_mv rfl) ?_
                          first | refine s_gDF rfl ?_ ?_ | refine s_gNDF rfl ?_ ?_ | refine s_gNF rfl ?_ ?_ | refine s_gB rfl ?_ ?_
                          · intro h25
                            try rw [Decidable.not_not] at h25
                            try have hc : code.length ≤ 1048576 := by simp at h25; omega
                            try have hcf := choiceF (c := x) (s := s) (k := k) (by assumption) (by assumption)
                            refine s_op (o_ldnC rfl rfl rfl) ?_
                            refine s_gT rfl ?_
                            refine s_op (o_mv rfl) ?_
                            refine s_keepO (is := [4, 7, 104, 109, 110, 111]) rfl ?_
                            refine s_gT rfl ?_
                            refine s_op (o_faC rfl) ?_
                            refine s_gT rfl ?_
                            refine s_op (o_ldC rfl rfl rfl) ?_
                            refine s_gT rfl ?_
                            first | refine s_op (o_lenM rfl) ?_ | refine s_op (o_len rfl) ?_ | refine s_op (o_lenL rfl rfl rfl) ?_ | refine s_op (o_lenN rfl) ?_
                            refine s_gT rfl ?_
                            first | refine s_op (o_addn rfl rfl (by omega)) ?_ | refine s_op (o_add rfl rfl) ?_
                            refine s_gT rfl ?_
                            first | refine s_call rfl rfl (c_68 s _) ?_ | refine s_callL rfl rfl (by simp) (c_68 s _) rfl ?_
                            refine s_gT rfl ?_
                            refine s_op (o_mv rfl) ?_
                            refine s_gT rfl ?_
                            first | refine s_op (o_eql rfl rfl) ?_ | refine s_op (o_bin rfl rfl rfl rfl) ?_
                            refine s_gT rfl ?_
                            refine s_op (o_pickF rfl rfl) ?_
                            refine s_op (o_pickT rfl rfl) ?_
                            refine s_op (o_mv rfl) ?_
                            refine s_nilO ?_
                            refine q_seqN ?_
                            refine s_keep [2] rfl ?_
                            refine s_ret ?_
                            refine ret_leaf (.inr rfl) rfl rfl ?_
                            refine congrArg (fun b => V.w (.bool b)) ?_
                            first | rfl | (simp_all; done) | (have k1 := hcf.wait; have k2 := hcf.split; have k3 := hcf.said; have k4 := hcf.w2; have k5 := hcf.s2; clear hs; first | omega | (simp_all; done) | (simp_all; omega))
                          · intro h25
                            try rw [Decidable.not_not] at h25
                            try have hc : code.length ≤ 1048576 := by simp at h25; omega
                            try have hcf := choiceF (c := x) (s := s) (k := k) (by assumption) (by assumption)
                            refine s_gF rfl ?_
                            refine s_gF rfl ?_
                            refine s_keepO (is := [4, 7, 104, 109, 110, 111]) rfl ?_
                            refine s_gF rfl ?_
                            refine s_gF rfl ?_
                            refine s_gF rfl ?_
                            refine s_gF rfl ?_
                            refine s_gF rfl ?_
                            refine s_gF rfl ?_
                            refine s_gF rfl ?_
                            refine s_gT rfl ?_
                            refine s_op (o_pickT rfl rfl) ?_
                            refine s_op (o_pickT rfl rfl) ?_
                            refine s_op (o_mv rfl) ?_
                            refine s_nilO ?_
                            refine q_seqN ?_
                            refine s_keep [2] rfl ?_
                            refine s_ret ?_
                            refine ret_leaf (.inr rfl) rfl rfl ?_
                            refine congrArg (fun b => V.w (.bool b)) ?_
                            first | rfl | (simp_all; done) | (have k1 := hcf.wait; have k2 := hcf.split; have k3 := hcf.said; have k4 := hcf.w2; have k5 := hcf.s2; clear hs; first | omega | (simp_all; done) | (simp_all; omega))
                    · intro h10
                      try rw [Decidable.not_not] at h10
                      try have hc : code.length ≤ 1048576 := by simp at h10; omega
                      try have hcf := choiceF (c := x) (s := s) (k := k) (by assumption) (by assumption)
                      refine s_gF rfl ?_
                      refine s_gF rfl ?_
                      refine s_gF rfl ?_
                      refine s_gN rfl ?_
                      refine s_gN rfl ?_
                      refine s_gF rfl ?_
                      refine s_gF rfl ?_
                      refine s_gN rfl ?_
                      refine s_gN rfl ?_
                      refine s_keepO (is := [3, 4, 5, 6, 7, 74, 81, 83]) rfl ?_
                      refine s_gF rfl ?_
                      refine s_op (o_pickF rfl rfl) ?_
                      refine s_op (o_mv rfl) ?_
                      refine s_gF rfl ?_
                      refine s_gF rfl ?_
                      refine s_gF rfl ?_
                      refine s_gF rfl ?_
                      refine s_gF rfl ?_
                      refine s_gN rfl ?_
                      refine s_gN rfl ?_
                      refine s_gN rfl ?_
                      refine s_gN rfl ?_
                      refine s_gN rfl ?_
                      refine s_gN rfl ?_
                      refine s_keepO (is := [4, 5, 6, 7, 86, 91, 92, 93, 94, 97]) rfl ?_
                      refine s_gN rfl ?_
                      refine s_gN rfl ?_
                      refine s_gN rfl ?_
                      refine s_gN rfl ?_
                      refine s_gF rfl ?_
                      refine s_op (o_pickF rfl rfl) ?_
                      refine s_op (o_mv rfl) ?_
                      refine s_gF rfl ?_
                      refine s_gF rfl ?_
                      refine s_gF rfl ?_
                      refine s_gF rfl ?_
                      refine s_gF rfl ?_
                      refine s_gN rfl ?_
                      refine s_gN rfl ?_
                      refine s_keepO (is := [4, 7, 104, 109, 110, 111]) rfl ?_
                      refine s_gN rfl ?_
                      refine s_gN rfl ?_
                      refine s_gN rfl ?_
                      refine s_gN rfl ?_
                      refine s_gN rfl ?_
                      refine s_gN rfl ?_
                      refine s_gN rfl ?_
                      refine s_gF rfl ?_
                      refine s_op (o_pickF rfl rfl) ?_
                      refine s_op (o_mv rfl) ?_
                      refine s_nilO ?_
                      refine q_seqN ?_
                      refine s_keep [2] rfl ?_
                      refine s_ret ?_
                      refine ret_leaf (.inr rfl) rfl rfl ?_
                      refine congrArg (fun b => V.w (.bool b)) ?_
                      first | rfl | (simp_all; done) | (have k1 := hcf.wait; have k2 := hcf.split; have k3 := hcf.said; have k4 := hcf.w2; have k5 := hcf.s2; clear hs; first | omega | (simp_all; done) | (simp_all; omega))
                  · intro h9
                    try rw [Decidable.not_not] at h9
                    try have hc : code.length ≤ 1048576 := by simp at h9; omega
                    try have hcf := choiceF (c := x) (s := s) (k := k) (by assumption) (by assumption)
                    refine s_gF rfl ?_
                    refine s_keepO (is := [3, 4, 5, 6, 7, 68, 69]) rfl ?_
                    refine s_gF rfl ?_
                    refine s_gF rfl ?_
                    refine s_gF rfl ?_
                    refine s_op (o_pickF rfl rfl) ?_
                    refine s_op (o_mv rfl) ?_
                    refine s_gF rfl ?_
                    refine s_gF rfl ?_
                    refine s_gF rfl ?_
                    refine s_gN rfl ?_
                    refine s_gN rfl ?_
                    refine s_gF rfl ?_
                    refine s_gF rfl ?_
                    refine s_gN rfl ?_
                    refine s_gN rfl ?_
                    refine s_keepO (is := [3, 4, 5, 6, 7, 74, 81, 83]) rfl ?_
                    refine s_gF rfl ?_
                    refine s_op (o_pickF rfl rfl) ?_
                    refine s_op (o_mv rfl) ?_
                    refine s_gF rfl ?_
                    refine s_gF rfl ?_
                    refine s_gF rfl ?_
                    refine s_gF rfl ?_
                    refine s_gF rfl ?_
                    refine s_gN rfl ?_
                    refine s_gN rfl ?_
                    refine s_gN rfl ?_
                    refine s_gN rfl ?_
                    refine s_gN rfl ?_
                    refine s_gN rfl ?_
                    refine s_keepO (is := [4, 5, 6, 7, 86, 91, 92, 93, 94, 97]) rfl ?_
                    refine s_gN rfl ?_
                    refine s_gN rfl ?_
                    refine s_gN rfl ?_
                    refine s_gN rfl ?_
                    refine s_gF rfl ?_
                    refine s_op (o_pickF rfl rfl) ?_
                    refine s_op (o_mv rfl) ?_
                    refine s_gF rfl ?_
                    refine s_gF rfl ?_
                    refine s_gF rfl ?_
                    refine s_gF rfl ?_
                    refine s_gF rfl ?_
                    refine s_gN rfl ?_
                    refine s_gN rfl ?_
                    refine s_keepO (is := [4, 7, 104, 109, 110, 111]) rfl ?_
                    refine s_gN rfl ?_
                    refine s_gN rfl ?_
                    refine s_gN rfl ?_
                    refine s_gN rfl ?_
                    refine s_gN rfl ?_
                    refine s_gN rfl ?_
                    refine s_gN rfl ?_
                    refine s_gF rfl ?_
                    refine s_op (o_pickF rfl rfl) ?_
                    refine s_op (o_mv rfl) ?_
                    refine s_nilO ?_
                    refine q_seqN ?_
                    refine s_keep [2] rfl ?_
                    refine s_ret ?_
                    refine ret_leaf (.inr rfl) rfl rfl ?_
                    refine congrArg (fun b => V.w (.bool b)) ?_
                    first | rfl | (simp_all; done) | (have k1 := hcf.wait; have k2 := hcf.split; have k3 := hcf.said; have k4 := hcf.w2; have k5 := hcf.s2; clear hs; first | omega | (simp_all; done) | (simp_all; omega))
                · intro h8
                  try rw [Decidable.not_not] at h8
                  try have hc : code.length ≤ 1048576 := by simp at h8; omega
                  try have hcf := choiceF (c := x) (s := s) (k := k) (by assumption) (by assumption)
                  refine s_gF rfl ?_
                  refine s_gF rfl ?_
                  refine s_op (o_pickF rfl rfl) ?_
                  refine s_op (o_mv rfl) ?_
                  refine s_gF rfl ?_
                  refine s_keepO (is := [3, 4, 5, 6, 7, 68, 69]) rfl ?_
                  refine s_gF rfl ?_
                  refine s_gF rfl ?_
                  refine s_gF rfl ?_
                  refine s_op (o_pickF rfl rfl) ?_
                  refine s_op (o_mv rfl) ?_
                  refine s_gF rfl ?_
                  refine s_gF rfl ?_
                  refine s_gF rfl ?_
                  refine s_gN rfl ?_
                  refine s_gN rfl ?_
                  refine s_gF rfl ?_
                  refine s_gF rfl ?_
                  refine s_gN rfl ?_
                  refine s_gN rfl ?_
                  refine s_keepO (is := [3, 4, 5, 6, 7, 74, 81, 83]) rfl ?_
                  refine s_gF rfl ?_
                  refine s_op (o_pickF rfl rfl) ?_
                  refine s_op (o_mv rfl) ?_
                  refine s_gF rfl ?_
                  refine s_gF rfl ?_
                  refine s_gF rfl ?_
                  refine s_gF rfl ?_
                  refine s_gF rfl ?_
                  refine s_gN rfl ?_
                  refine s_gN rfl ?_
                  refine s_gN rfl ?_
                  refine s_gN rfl ?_
                  refine s_gN rfl ?_
                  refine s_gN rfl ?_
                  refine s_keepO (is := [4, 5, 6, 7, 86, 91, 92, 93, 94, 97]) rfl ?_
                  refine s_gN rfl ?_
                  refine s_gN rfl ?_
                  refine s_gN rfl ?_
                  refine s_gN rfl ?_
                  refine s_gF rfl ?_
                  refine s_op (o_pickF rfl rfl) ?_
                  refine s_op (o_mv rfl) ?_
                  refine s_gF rfl ?_
                  refine s_gF rfl ?_
                  refine s_gF rfl ?_
                  refine s_gF rfl ?_
                  refine s_gF rfl ?_
                  refine s_gN rfl ?_
                  refine s_gN rfl ?_
                  refine s_keepO (is := [4, 7, 104, 109, 110, 111]) rfl ?_
                  refine s_gN rfl ?_
                  refine s_gN rfl ?_
                  refine s_gN rfl ?_
                  refine s_gN rfl ?_
                  refine s_gN rfl ?_
                  refine s_gN rfl ?_
                  refine s_gN rfl ?_
                  refine s_gF rfl ?_
                  refine s_op (o_pickF rfl rfl) ?_
                  refine s_op (o_mv rfl) ?_
                  refine s_nilO ?_
                  refine q_seqN ?_
                  refine s_keep [2] rfl ?_
                  refine s_ret ?_
                  refine ret_leaf (.inr rfl) rfl rfl ?_
                  refine congrArg (fun b => V.w (.bool b)) ?_
                  first | rfl | (simp_all; done) | (have k1 := hcf.wait; have k2 := hcf.split; have k3 := hcf.said; have k4 := hcf.w2; have k5 := hcf.s2; clear hs; first | omega | (simp_all; done) | (simp_all; omega))
              · intro h7
                try rw [Decidable.not_not] at h7
                try have hc : code.length ≤ 1048576 := by simp at h7; omega
                try have hcf := choiceF (c := x) (s := s) (k := k) (by assumption) (by assumption)
                refine s_gF rfl ?_
                refine s_gF rfl ?_
                refine s_op (o_pickF rfl rfl) ?_
                refine s_op (o_mv rfl) ?_
                refine s_gF rfl ?_
                refine s_gF rfl ?_
                refine s_op (o_pickF rfl rfl) ?_
                refine s_op (o_mv rfl) ?_
                refine s_gF rfl ?_
                refine s_keepO (is := [3, 4, 5, 6, 7, 68, 69]) rfl ?_
                refine s_gF rfl ?_
                refine s_gF rfl ?_
                refine s_gF rfl ?_
                refine s_op (o_pickF rfl rfl) ?_
                refine s_op (o_mv rfl) ?_
                refine s_gF rfl ?_
                refine s_gF rfl ?_
                refine s_gF rfl ?_
                refine s_gN rfl ?_
                refine s_gN rfl ?_
                refine s_gF rfl ?_
                refine s_gF rfl ?_
                refine s_gN rfl ?_
                refine s_gN rfl ?_
                refine s_keepO (is := [3, 4, 5, 6, 7, 74, 81, 83]) rfl ?_
                refine s_gF rfl ?_
                refine s_op (o_pickF rfl rfl) ?_
                refine s_op (o_mv rfl) ?_
                refine s_gF rfl ?_
                refine s_gF rfl ?_
                refine s_gF rfl ?_
                refine s_gF rfl ?_
                refine s_gF rfl ?_
                refine s_gN rfl ?_
                refine s_gN rfl ?_
                refine s_gN rfl ?_
                refine s_gN rfl ?_
                refine s_gN rfl ?_
                refine s_gN rfl ?_
                refine s_keepO (is := [4, 5, 6, 7, 86, 91, 92, 93, 94, 97]) rfl ?_
                refine s_gN rfl ?_
                refine s_gN rfl ?_
                refine s_gN rfl ?_
                refine s_gN rfl ?_
                refine s_gF rfl ?_
                refine s_op (o_pickF rfl rfl) ?_
                refine s_op (o_mv rfl) ?_
                refine s_gF rfl ?_
                refine s_gF rfl ?_
                refine s_gF rfl ?_
                refine s_gF rfl ?_
                refine s_gF rfl ?_
                refine s_gN rfl ?_
                refine s_gN rfl ?_
                refine s_keepO (is := [4, 7, 104, 109, 110, 111]) rfl ?_
                refine s_gN rfl ?_
                refine s_gN rfl ?_
                refine s_gN rfl ?_
                refine s_gN rfl ?_
                refine s_gN rfl ?_
                refine s_gN rfl ?_
                refine s_gN rfl ?_
                refine s_gF rfl ?_
                refine s_op (o_pickF rfl rfl) ?_
                refine s_op (o_mv rfl) ?_
                refine s_nilO ?_
                refine q_seqN ?_
                refine s_keep [2] rfl ?_
                refine s_ret ?_
                refine ret_leaf (.inr rfl) rfl rfl ?_
                refine congrArg (fun b => V.w (.bool b)) ?_
                first | rfl | (simp_all; done) | (have k1 := hcf.wait; have k2 := hcf.split; have k3 := hcf.said; have k4 := hcf.w2; have k5 := hcf.s2; clear hs; first | omega | (simp_all; done) | (simp_all; omega))
          · intro h5
            try rw [Decidable.not_not] at h5
            try have hc : code.length ≤ 1048576 := by simp at h5; omega
            try have hcf := choiceF (c := x) (s := s) (k := k) (by assumption) (by assumption)
            refine s_gF rfl ?_
            refine s_gF rfl ?_
            refine s_gF rfl ?_
            refine s_op (o_pickT rfl rfl) ?_
            refine s_nilO ?_
            refine q_seqN ?_
            refine s_keep [3, 4, 5, 6, 7, 8, 55] rfl ?_
            refine s_condT rfl ?_
            refine S_seq ?_
            refine s_rg ?_
            refine s_op (o_mv rfl) ?_
            refine s_nilO ?_
            refine q_seqN ?_
            refine s_keep [2] rfl ?_
            refine s_ret ?_
            refine q_seqR ?_
            refine ret_leaf (.inr rfl) rfl rfl ?_
            refine congrArg (fun b => V.w (.bool b)) ?_
            first | rfl | (simp_all; done) | (have k1 := hcf.wait; have k2 := hcf.split; have k3 := hcf.said; have k4 := hcf.w2; have k5 := hcf.s2; clear hs; first | omega | (simp_all; done) | (simp_all; omega))
      · intro h3
        try rw [Decidable.not_not] at h3
        try have hc : code.length ≤ 1048576 := by simp at h3; omega
        try have hcf := choiceF (c := x) (s := s) (k := k) (by assumption) (by assumption)
        refine s_gF rfl ?_
        refine s_gF rfl ?_
        refine s_gF rfl ?_
        refine s_gF rfl ?_
        refine s_gF rfl ?_
        refine s_gF rfl ?_
        refine s_op (o_pickT rfl rfl) ?_
        refine s_nilO ?_
        refine q_seqN ?_
        refine s_keep [3, 4, 5, 6, 7, 8, 48] rfl ?_
        refine s_condT rfl ?_
        refine S_seq ?_
        refine s_rg ?_
        refine s_op (o_mv rfl) ?_
        refine s_nilO ?_
        refine q_seqN ?_
        refine s_keep [2] rfl ?_
        refine s_ret ?_
        refine q_seqR ?_
        refine ret_leaf (.inr rfl) rfl rfl ?_
        refine congrArg (fun b => V.w (.bool b)) ?_
        first | rfl | (simp_all; done) | (have k1 := hcf.wait; have k2 := hcf.split; have k3 := hcf.said; have k4 := hcf.w2; have k5 := hcf.s2; clear hs; first | omega | (simp_all; done) | (simp_all; omega))
    · intro h2
      try rw [Decidable.not_not] at h2
      try have hc : code.length ≤ 1048576 := by simp at h2; omega
      try have hcf := choiceF (c := x) (s := s) (k := k) (by assumption) (by assumption)
      refine s_gF rfl ?_
      refine s_gF rfl ?_
      refine s_gF rfl ?_
      refine s_gF rfl ?_
      refine s_gF rfl ?_
      refine s_op (o_pickT rfl rfl) ?_
      refine s_op (o_mv rfl) ?_
      refine s_keepO (is := [3, 4, 5, 6, 7, 8, 41]) rfl ?_
      refine s_gF rfl ?_
      refine s_gF rfl ?_
      refine s_gF rfl ?_
      refine s_gF rfl ?_
      refine s_gF rfl ?_
      refine s_gF rfl ?_
      refine s_op (o_pickT rfl rfl) ?_
      refine s_nilO ?_
      refine q_seqN ?_
      refine s_keep [3, 4, 5, 6, 7, 8, 48] rfl ?_
      refine s_condT rfl ?_
      refine S_seq ?_
      refine s_rg ?_
      refine s_op (o_mv rfl) ?_
      refine s_nilO ?_
      refine q_seqN ?_
      refine s_keep [2] rfl ?_
      refine s_ret ?_
      refine q_seqR ?_
      refine ret_leaf (.inr rfl) rfl rfl ?_
      refine congrArg (fun b => V.w (.bool b)) ?_
      first | rfl | (simp_all; done) | (have k1 := hcf.wait; have k2 := hcf.split; have k3 := hcf.said; have k4 := hcf.w2; have k5 := hcf.s2; clear hs; first | omega | (simp_all; done) | (simp_all; omega))

end Go.Proofs.Ytdlkgdlefbabcaa.AL
