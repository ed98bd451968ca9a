/- What functions do with plain data, each by the form of its code. Printed by program. -/
import Derived.Test.YtdlkgdlefbabcaaCWanted0
namespace Go.Proofs.Ytdlkgdlefbabcaa.AL
open Go
set_option linter.unusedVariables false
set_option linter.unusedSimpArgs false
set_option maxRecDepth 4096

theorem cgo_241 (code : List Int) (hc : code.length ≤ 1048576) (i h : Int) (hi : 0 ≤ i ∧ i ≤ code.length) : GV prg 241 [cur code i h] [.cp 0 0] (fun u L1 => ∃ (x : Req) (i h : Int), u = .agg [.w (.bool x.write), .w (.int .i64 x.addr), .w (.int .i64 x.size), .w (.int .i64 x.burst), .w (.bool x.lock), .ls 1 x.data.length] ∧ x.data.length ≤ 8 ∧ (0 ≤ i ∧ i ≤ code.length) ∧ L1 = [cur code i h, .arr 1 (x.data.map iR)]) := by
  refine gv_in g241 ?_
  refine s_keep [0] rfl ?_
  refine S_seq ?_
  refine s_rg ?_
  refine s_op (o_new rfl rfl) ?_
  refine s_nilO ?_
  refine q_seqN ?_
  refine s_keep [0, 2] rfl ?_
  refine S_seq ?_
  refine s_rg ?_
  refine s_op (o_mv rfl) ?_
  refine s_callG [0] rfl rfl rfl rfl (by simp) (.inl rfl) (cg_233 _ hc _ _ hi _) ?_
  rintro u L1 ⟨⟨wr, rfl⟩, i, h, hi, rfl⟩
  refine ⟨_, _, rfl, rfl, ?_⟩
  refine s_op (o_mv rfl) ?_
  refine s_op (o_bs rfl rfl rfl rfl) ?_
  refine s_callG [0, 2] rfl rfl rfl rfl (by simp) (.inl rfl) (cg_234 _ hc _ _ hi _ _ rfl (by simp) (by simp)) ?_
  rintro u L1 ⟨⟨z, rfl, hz⟩, i, h, hi, rfl⟩
  refine ⟨_, _, rfl, rfl, ?_⟩
  try simp only [List.mem_cons, List.not_mem_nil, or_false] at hz
  have hbz := req5 hz
  have hlz := limit_pos hz
  refine s_op (o_mv rfl) ?_
  refine s_op (o_bs rfl rfl rfl rfl) ?_
  refine s_callG [0, 3] rfl rfl rfl rfl (by simp) (.inl rfl) (cg_234 _ hc _ _ hi _ _ rfl (by simp) (by simp)) ?_
  rintro u L1 ⟨⟨bu, rfl, hbu⟩, i, h, hi, rfl⟩
  refine ⟨_, _, rfl, rfl, ?_⟩
  try simp only [List.mem_cons, List.not_mem_nil, or_false] at hbu
  refine s_op (o_mv rfl) ?_
  refine s_callG [0] rfl rfl rfl rfl (by simp) (.inl rfl) (cg_233 _ hc _ _ hi _) ?_
  rintro u L1 ⟨⟨lk, rfl⟩, i, h, hi, rfl⟩
  refine ⟨_, _, rfl, rfl, ?_⟩
  refine s_op (o_bd rfl rfl) ?_
  refine s_op (o_new rfl rfl) ?_
  refine s_opN (o_stnC rfl rfl rfl rfl rfl rfl rfl) ?_
  refine s_nilO ?_
  refine q_seqN ?_
  refine s_keep [0, 2, 3] rfl ?_
  refine S_seq ?_
  refine s_rg ?_
  refine s_op (o_faC rfl) ?_
  refine s_op (o_ldC rfl rfl rfl) ?_
  first | refine s_call rfl rfl (c_183 _) ?_ | refine s_callL rfl rfl (by simp) (c_183 _) rfl ?_
  refine s_op (o_mv rfl) ?_
  refine s_nilO ?_
  refine q_seqN ?_
  refine s_keep [0, 2, 3, 4] rfl ?_
  refine S_seq ?_
  refine s_rg ?_
  refine s_op (o_mv rfl) ?_
  refine s_op (o_mv rfl) ?_
  refine s_callG [0] rfl rfl rfl rfl (by simp) (.inl rfl) (cg_228 _ hc _ _ hi _) ?_
  rintro u L1 ⟨⟨a1, rfl, ha1⟩, i, h, hi, rfl⟩
  refine ⟨_, _, rfl, rfl, ?_⟩
  refine s_op (o_mv rfl) ?_
  refine s_callG [0] rfl rfl rfl rfl (by simp) (.inl rfl) (cg_228 _ hc _ _ hi _) ?_
  rintro u L1 ⟨⟨a2, rfl, ha2⟩, i, h, hi, rfl⟩
  refine ⟨_, _, rfl, rfl, ?_⟩
  refine s_op (o_mv rfl) ?_
  refine s_callG [0] rfl rfl rfl rfl (by simp) (.inl rfl) (cg_228 _ hc _ _ hi _) ?_
  rintro u L1 ⟨⟨a3, rfl, ha3⟩, i, h, hi, rfl⟩
  refine ⟨_, _, rfl, rfl, ?_⟩
  first | refine s_op (o_addn rfl rfl (by omega)) ?_ | refine s_op (o_add rfl rfl) ?_
  refine s_op (o_mv rfl) ?_
  refine s_callG [0] rfl rfl rfl rfl (by simp) (.inl rfl) (cg_228 _ hc _ _ hi _) ?_
  rintro u L1 ⟨⟨a4, rfl, ha4⟩, i, h, hi, rfl⟩
  refine ⟨_, _, rfl, rfl, ?_⟩
  first | refine s_op (o_addn rfl rfl (by omega)) ?_ | refine s_op (o_add rfl rfl) ?_
  refine s_op (o_mv rfl) ?_
  refine s_callG [0] rfl rfl rfl rfl (by simp) (.inl rfl) (cg_228 _ hc _ _ hi _) ?_
  rintro u L1 ⟨⟨a5, rfl, ha5⟩, i, h, hi, rfl⟩
  refine ⟨_, _, rfl, rfl, ?_⟩
  refine s_op (o_bs rfl rfl rfl rfl) ?_
  refine s_keepO (is := [0, 2, 3, 4, 20, 33]) rfl ?_
  refine s_callG [0, 5] rfl rfl rfl rfl (by simp) (.inl rfl) (cg_234 _ hc _ _ hi _ _ rfl (by simp) (by simp)) ?_
  rintro u L1 ⟨⟨av, rfl, hav⟩, i, h, hi, rfl⟩
  refine ⟨_, _, rfl, rfl, ?_⟩
  try simp only [List.mem_cons, List.not_mem_nil, or_false] at hav
  refine s_op (o_mv rfl) ?_
  first | refine s_op (o_quo rfl rfl (by decide)) ?_ | refine s_op (o_quo rfl rfl (by omega)) ?_
  refine s_op (o_mv rfl) ?_
  refine s_op (o_mul rfl rfl) ?_
  refine s_op (o_faC rfl) ?_
  refine s_opN (o_stC rfl rfl rfl rfl rfl rfl) ?_
  refine s_nilO ?_
  refine q_seqN ?_
  refine s_keep [0, 2, 3] rfl ?_
  refine S_seq ?_
  refine S_seq ?_
  refine s_rg ?_
  refine s_op (o_faC rfl) ?_
  refine s_op (o_ldC rfl rfl rfl) ?_
  refine s_op (o_faC rfl) ?_
  refine s_op (o_ldC rfl rfl rfl) ?_
  refine s_op (o_faC rfl) ?_
  refine s_op (o_ldC rfl rfl rfl) ?_
  first | refine s_call rfl rfl (c_180 _ _ _) ?_ | refine s_callL rfl rfl (by simp) (c_180 _ _ _) rfl ?_
  refine s_op (o_not rfl) ?_
  refine s_nilO ?_
  refine q_seqN ?_
  refine s_keep [0, 2, 3, 47] rfl ?_
  first | refine s_condD rfl ?_ ?_ | refine s_condN rfl ?_ ?_ | refine s_condNB rfl ?_ ?_ | refine s_condB rfl ?_ ?_
  · intro h1
    try rw [Decidable.not_not] at h1
    refine s_rg ?_
    refine s_op (o_faC rfl) ?_
    refine s_opN (o_stC rfl rfl rfl rfl rfl rfl) ?_
    refine s_nilO ?_
    refine q_seqN ?_
    refine s_keep [0, 2, 3] rfl ?_
    refine S_seq ?_
    refine S_seq ?_
    refine s_rg ?_
    refine s_op (o_mv rfl) ?_
    refine s_nilO ?_
    refine q_seqN ?_
    refine s_keep [0, 2, 3, 5] rfl ?_
    refine S_block ?_
    refine s_nilC 4 5 1 rfl rfl rfl rfl rfl ?_
    refine S_loop (ι := (Int × List Int × Int × Int × Int)) (fun p => 0 ≤ p.1 ∧ (p.2.1.length : Int) = p.1 ∧ p.1 ≤ 8 ∧ 0 ≤ p.2.2.2.1 ∧ p.2.2.2.1 ≤ code.length) (fun p => [(5, .w (.int .i64 p.1))]) (fun p => [cur code p.2.2.2.1 p.2.2.2.2, .cell [.w (.bool false), .w (.int .i64 0), .w (.int .i64 0), .w (.int .i64 0), .w (.bool false), .w (.slice none 0 0)], .arr 1 [[.w (.int .i64 2)], [.w (.int .i64 2)], [.w (.int .i64 2)], [.w (.int .i64 0)], [.w (.int .i64 1)]], .arr 1 [[.w (.int .i64 0)], [.w (.int .i64 0)], [.w (.int .i64 1)], [.w (.int .i64 2)], [.w (.int .i64 3)]], .cell [.w (.bool wr), .w (.int .i64 (IntKind.wrap .i64 (IntKind.wrap .i64 (av.tdiv (bytes z)) * bytes z))), .w (.int .i64 z), .w (.int .i64 p.2.2.1), .w (.bool lk), .ls 6 (p.2.1.map iR).length], .arr 1 [[.w (.int .i64 a1)], [.w (.int .i64 a2)], [.w (.int .i64 (128 + a3))], [.w (.int .i64 (192 + a4))], [.w (.int .i64 a5)]], .arr 1 (p.2.1.map iR)]) (fun p => (8 - p.1).toNat) 7 (0, [], _, i, h) ⟨by simp only; omega, rfl, by simp only; omega, hi⟩ rfl (hasOf ⟨rfl, trivial⟩ rfl) rfl (fun _ _ => rfl) (fun _ _ => ⟨rfl, rfl⟩) ?_
    rintro ⟨n, xs, bu, i, h⟩ hp
    obtain ⟨hn0, hn1, hn2, hi⟩ := hp
    simp only at hn0 hn1 hn2 hi
    have hbb := beats_bd bu
    have hml : (xs.map iR).length = xs.length := List.length_map ..
    refine s_keep [0, 2, 3, 5] rfl ?_
    dsimp only
    refine S_seq ?_
    refine S_seq ?_
    refine s_rg ?_
    refine s_op (o_mv rfl) ?_
    refine s_op (o_faC rfl) ?_
    refine s_op (o_ldC rfl rfl rfl) ?_
    first | refine s_call rfl rfl (c_173 _) ?_ | refine s_callL rfl rfl (by simp) (c_173 _) rfl ?_
    first | refine s_op (o_lss rfl rfl) ?_ | refine s_op (o_bin rfl rfl rfl rfl) ?_
    refine s_op (o_mv rfl) ?_
    first | refine s_gDT rfl ?_ ?_ | refine s_gNDT rfl ?_ ?_ | refine s_gNT rfl ?_ ?_ | refine s_gB rfl ?_ ?_
    · intro h2
      try rw [Decidable.not_not] at h2
      refine s_op (o_faC rfl) ?_
      refine s_gT rfl ?_
      refine s_op (o_ldC rfl rfl rfl) ?_
      refine s_op (o_pickT rfl rfl) ?_
      refine s_nilO ?_
      refine q_seqN ?_
      refine s_keep [0, 2, 3, 5, 55, 56, 57] rfl ?_
      first | refine s_condD rfl ?_ ?_ | refine s_condN rfl ?_ ?_ | refine s_condNB rfl ?_ ?_ | refine s_condB rfl ?_ ?_
      · intro h3
        try rw [Decidable.not_not] at h3
        refine s_skip ?_
        refine q_seqN ?_
        refine s_keep [0, 2, 3, 5, 55, 56] rfl ?_
        refine S_seq ?_
        refine S_block ?_
        refine s_rgH [0] rfl ?_
        refine h_op (o_faC rfl) rfl ?_
        refine h_op (o_ldC rfl rfl rfl) rfl ?_
        refine h_op (o_mv rfl) rfl ?_
        refine h_op (o_mv rfl) rfl ?_
        refine h_op (o_faC rfl) rfl ?_
        refine h_op (o_ldC rfl rfl rfl) rfl ?_
        first | refine h_call rfl rfl (c_201 _) rfl ?_ | refine h_callL rfl rfl (by simp) (c_201 _) rfl rfl ?_
        refine h_op (o_mn rfl) rfl ?_
        refine h_op (o_faC rfl) rfl ?_
        refine h_op (o_ldC rfl rfl rfl) rfl ?_
        first | refine h_call rfl rfl (c_201 _) rfl ?_ | refine h_callL rfl rfl (by simp) (c_201 _) rfl rfl ?_
        refine h_op (o_bs rfl rfl rfl rfl) rfl ?_
        refine h_callG [0] [7] rfl rfl rfl rfl rfl rfl (by simp) rfl (cg_234 _ hc _ _ hi _ _ rfl (by simp) (by simp)) (words_iR _ _ rfl) ?_
        rintro u L1 ⟨⟨w0, rfl, hw0⟩, i, h, hi, rfl⟩
        refine ⟨rfl, _, _, _, _, rfl, rfl, rfl, rfl, ?_⟩
        try simp only [List.mem_cons, List.not_mem_nil, or_false] at hw0
        refine h_callG [0] [] rfl rfl rfl rfl rfl rfl (by simp) rfl (cg_228 _ hc _ _ hi _) (by simp) ?_
        rintro u L1 ⟨⟨v, rfl, hv⟩, i, h, hi, rfl⟩
        refine ⟨rfl, _, _, _, _, rfl, rfl, rfl, rfl, ?_⟩
        refine h_op (o_bs rfl rfl rfl rfl) rfl ?_
        refine h_bar rfl ?_
        refine s_keepO (is := [0, 2, 3, 5, 55, 56, 61, 74]) rfl ?_
        first | refine s_op (o_appL rfl rfl rfl rfl rfl rfl rfl (by simp [roomy]; omega)) ?_ | refine s_op (o_app rfl rfl rfl rfl rfl (by simp [roomy]; omega)) ?_
        refine s_op (o_faC rfl) ?_
        refine s_opN (o_stC rfl rfl rfl rfl rfl rfl) ?_
        refine s_nilO ?_
        refine q_blkN ?_
        refine q_seqN ?_
        refine s_keep [0, 2, 3, 5, 55, 56] rfl ?_
        refine s_rg ?_
        refine s_op (o_mv rfl) ?_
        first | refine s_op (o_addn rfl rfl (by omega)) ?_ | refine s_op (o_add rfl rfl) ?_
        refine s_op (o_mv rfl) ?_
        refine s_nilO ?_
        refine q_loopN ?_
        refine ⟨(n + 1, xs ++ [v], bu, i, h), ⟨by simp only; omega, by simp only [List.length_append, List.length_cons, List.length_nil]; omega, by simp only; omega, hi⟩, by simp only; omega, hasOf ⟨rfl, trivial⟩ ?_⟩
        simp only [List.map_append]; rfl
      · intro h3
        try rw [Decidable.not_not] at h3
        refine s_exit ?_
        refine q_seqX ?_
        refine q_loopX ?_
        refine q_blkH ?_
        refine q_seqN ?_
        refine s_keep [2, 3] rfl ?_
        refine S_seq ?_
        refine s_rg ?_
        refine s_op (o_ldnC rfl rfl rfl) ?_
        refine s_opN (o_stnC rfl rfl rfl rfl rfl rfl rfl) ?_
        refine s_nilO ?_
        refine q_seqN ?_
        refine s_keep [2] rfl ?_
        refine s_ret ?_
        refine retG_leaf [6] (.inr rfl) rfl rfl rfl rfl (show (List.range 1 ++ [6]).Nodup by decide) ?_
        exact ⟨⟨wr, IntKind.wrap .i64 (IntKind.wrap .i64 (av.tdiv (bytes z)) * bytes z), z, bu, lk, xs⟩, _, _, (by simp), (by simp only; omega), (by omega), rfl⟩
    · intro h2
      try rw [Decidable.not_not] at h2
      refine s_gF rfl ?_
      refine s_gF rfl ?_
      refine s_op (o_pickF rfl rfl) ?_
      refine s_nilO ?_
      refine q_seqN ?_
      refine s_keep [0, 2, 3, 5, 55, 56, 57] rfl ?_
      refine s_condF rfl ?_
      refine s_exit ?_
      refine q_seqX ?_
      refine q_loopX ?_
      refine q_blkH ?_
      refine q_seqN ?_
      refine s_keep [2, 3] rfl ?_
      refine S_seq ?_
      refine s_rg ?_
      refine s_op (o_ldnC rfl rfl rfl) ?_
      refine s_opN (o_stnC rfl rfl rfl rfl rfl rfl rfl) ?_
      refine s_nilO ?_
      refine q_seqN ?_
      refine s_keep [2] rfl ?_
      refine s_ret ?_
      refine retG_leaf [6] (.inr rfl) rfl rfl rfl rfl (show (List.range 1 ++ [6]).Nodup by decide) ?_
      exact ⟨⟨wr, IntKind.wrap .i64 (IntKind.wrap .i64 (av.tdiv (bytes z)) * bytes z), z, bu, lk, xs⟩, _, _, (by simp), (by simp only; omega), (by omega), rfl⟩
  · intro h1
    try rw [Decidable.not_not] at h1
    refine s_skip ?_
    refine q_seqN ?_
    refine s_keep [0, 2, 3] rfl ?_
    refine S_seq ?_
    refine S_seq ?_
    refine s_rg ?_
    refine s_op (o_mv rfl) ?_
    refine s_nilO ?_
    refine q_seqN ?_
    refine s_keep [0, 2, 3, 5] rfl ?_
    refine S_block ?_
    refine s_nilC 4 5 1 rfl rfl rfl rfl rfl ?_
    refine S_loop (ι := (Int × List Int × Int × Int × Int)) (fun p => 0 ≤ p.1 ∧ (p.2.1.length : Int) = p.1 ∧ p.1 ≤ 8 ∧ 0 ≤ p.2.2.2.1 ∧ p.2.2.2.1 ≤ code.length) (fun p => [(5, .w (.int .i64 p.1))]) (fun p => [cur code p.2.2.2.1 p.2.2.2.2, .cell [.w (.bool false), .w (.int .i64 0), .w (.int .i64 0), .w (.int .i64 0), .w (.bool false), .w (.slice none 0 0)], .arr 1 [[.w (.int .i64 2)], [.w (.int .i64 2)], [.w (.int .i64 2)], [.w (.int .i64 0)], [.w (.int .i64 1)]], .arr 1 [[.w (.int .i64 0)], [.w (.int .i64 0)], [.w (.int .i64 1)], [.w (.int .i64 2)], [.w (.int .i64 3)]], .cell [.w (.bool wr), .w (.int .i64 (IntKind.wrap .i64 (IntKind.wrap .i64 (av.tdiv (bytes z)) * bytes z))), .w (.int .i64 z), .w (.int .i64 p.2.2.1), .w (.bool lk), .ls 6 (p.2.1.map iR).length], .arr 1 [[.w (.int .i64 a1)], [.w (.int .i64 a2)], [.w (.int .i64 (128 + a3))], [.w (.int .i64 (192 + a4))], [.w (.int .i64 a5)]], .arr 1 (p.2.1.map iR)]) (fun p => (8 - p.1).toNat) 7 (0, [], _, i, h) ⟨by simp only; omega, rfl, by simp only; omega, hi⟩ rfl (hasOf ⟨rfl, trivial⟩ rfl) rfl (fun _ _ => rfl) (fun _ _ => ⟨rfl, rfl⟩) ?_
    rintro ⟨n, xs, bu, i, h⟩ hp
    obtain ⟨hn0, hn1, hn2, hi⟩ := hp
    simp only at hn0 hn1 hn2 hi
    have hbb := beats_bd bu
    have hml : (xs.map iR).length = xs.length := List.length_map ..
    refine s_keep [0, 2, 3, 5] rfl ?_
    dsimp only
    refine S_seq ?_
    refine S_seq ?_
    refine s_rg ?_
    refine s_op (o_mv rfl) ?_
    refine s_op (o_faC rfl) ?_
    refine s_op (o_ldC rfl rfl rfl) ?_
    first | refine s_call rfl rfl (c_173 _) ?_ | refine s_callL rfl rfl (by simp) (c_173 _) rfl ?_
    first | refine s_op (o_lss rfl rfl) ?_ | refine s_op (o_bin rfl rfl rfl rfl) ?_
    refine s_op (o_mv rfl) ?_
    first | refine s_gDT rfl ?_ ?_ | refine s_gNDT rfl ?_ ?_ | refine s_gNT rfl ?_ ?_ | refine s_gB rfl ?_ ?_
    · intro h4
      try rw [Decidable.not_not] at h4
      refine s_op (o_faC rfl) ?_
      refine s_gT rfl ?_
      refine s_op (o_ldC rfl rfl rfl) ?_
      refine s_op (o_pickT rfl rfl) ?_
      refine s_nilO ?_
      refine q_seqN ?_
      refine s_keep [0, 2, 3, 5, 55, 56, 57] rfl ?_
      first | refine s_condD rfl ?_ ?_ | refine s_condN rfl ?_ ?_ | refine s_condNB rfl ?_ ?_ | refine s_condB rfl ?_ ?_
      · intro h5
        try rw [Decidable.not_not] at h5
        refine s_skip ?_
        refine q_seqN ?_
        refine s_keep [0, 2, 3, 5, 55, 56] rfl ?_
        refine S_seq ?_
        refine S_block ?_
        refine s_rgH [0] rfl ?_
        refine h_op (o_faC rfl) rfl ?_
        refine h_op (o_ldC rfl rfl rfl) rfl ?_
        refine h_op (o_mv rfl) rfl ?_
        refine h_op (o_mv rfl) rfl ?_
        refine h_op (o_faC rfl) rfl ?_
        refine h_op (o_ldC rfl rfl rfl) rfl ?_
        first | refine h_call rfl rfl (c_201 _) rfl ?_ | refine h_callL rfl rfl (by simp) (c_201 _) rfl rfl ?_
        refine h_op (o_mn rfl) rfl ?_
        refine h_op (o_faC rfl) rfl ?_
        refine h_op (o_ldC rfl rfl rfl) rfl ?_
        first | refine h_call rfl rfl (c_201 _) rfl ?_ | refine h_callL rfl rfl (by simp) (c_201 _) rfl rfl ?_
        refine h_op (o_bs rfl rfl rfl rfl) rfl ?_
        refine h_callG [0] [7] rfl rfl rfl rfl rfl rfl (by simp) rfl (cg_234 _ hc _ _ hi _ _ rfl (by simp) (by simp)) (words_iR _ _ rfl) ?_
        rintro u L1 ⟨⟨w0, rfl, hw0⟩, i, h, hi, rfl⟩
        refine ⟨rfl, _, _, _, _, rfl, rfl, rfl, rfl, ?_⟩
        try simp only [List.mem_cons, List.not_mem_nil, or_false] at hw0
        refine h_callG [0] [] rfl rfl rfl rfl rfl rfl (by simp) rfl (cg_228 _ hc _ _ hi _) (by simp) ?_
        rintro u L1 ⟨⟨v, rfl, hv⟩, i, h, hi, rfl⟩
        refine ⟨rfl, _, _, _, _, rfl, rfl, rfl, rfl, ?_⟩
        refine h_op (o_bs rfl rfl rfl rfl) rfl ?_
        refine h_bar rfl ?_
        refine s_keepO (is := [0, 2, 3, 5, 55, 56, 61, 74]) rfl ?_
        first | refine s_op (o_appL rfl rfl rfl rfl rfl rfl rfl (by simp [roomy]; omega)) ?_ | refine s_op (o_app rfl rfl rfl rfl rfl (by simp [roomy]; omega)) ?_
        refine s_op (o_faC rfl) ?_
        refine s_opN (o_stC rfl rfl rfl rfl rfl rfl) ?_
        refine s_nilO ?_
        refine q_blkN ?_
        refine q_seqN ?_
        refine s_keep [0, 2, 3, 5, 55, 56] rfl ?_
        refine s_rg ?_
        refine s_op (o_mv rfl) ?_
        first | refine s_op (o_addn rfl rfl (by omega)) ?_ | refine s_op (o_add rfl rfl) ?_
        refine s_op (o_mv rfl) ?_
        refine s_nilO ?_
        refine q_loopN ?_
        refine ⟨(n + 1, xs ++ [v], bu, i, h), ⟨by simp only; omega, by simp only [List.length_append, List.length_cons, List.length_nil]; omega, by simp only; omega, hi⟩, by simp only; omega, hasOf ⟨rfl, trivial⟩ ?_⟩
        simp only [List.map_append]; rfl
      · intro h5
        try rw [Decidable.not_not] at h5
        refine s_exit ?_
        refine q_seqX ?_
        refine q_loopX ?_
        refine q_blkH ?_
        refine q_seqN ?_
        refine s_keep [2, 3] rfl ?_
        refine S_seq ?_
        refine s_rg ?_
        refine s_op (o_ldnC rfl rfl rfl) ?_
        refine s_opN (o_stnC rfl rfl rfl rfl rfl rfl rfl) ?_
        refine s_nilO ?_
        refine q_seqN ?_
        refine s_keep [2] rfl ?_
        refine s_ret ?_
        refine retG_leaf [6] (.inr rfl) rfl rfl rfl rfl (show (List.range 1 ++ [6]).Nodup by decide) ?_
        exact ⟨⟨wr, IntKind.wrap .i64 (IntKind.wrap .i64 (av.tdiv (bytes z)) * bytes z), z, bu, lk, xs⟩, _, _, (by simp), (by simp only; omega), (by omega), rfl⟩
    · intro h4
      try rw [Decidable.not_not] at h4
      refine s_gF rfl ?_
      refine s_gF rfl ?_
      refine s_op (o_pickF rfl rfl) ?_
      refine s_nilO ?_
      refine q_seqN ?_
      refine s_keep [0, 2, 3, 5, 55, 56, 57] rfl ?_
      refine s_condF rfl ?_
      refine s_exit ?_
      refine q_seqX ?_
      refine q_loopX ?_
      refine q_blkH ?_
      refine q_seqN ?_
      refine s_keep [2, 3] rfl ?_
      refine S_seq ?_
      refine s_rg ?_
      refine s_op (o_ldnC rfl rfl rfl) ?_
      refine s_opN (o_stnC rfl rfl rfl rfl rfl rfl rfl) ?_
      refine s_nilO ?_
      refine q_seqN ?_
      refine s_keep [2] rfl ?_
      refine s_ret ?_
      refine retG_leaf [6] (.inr rfl) rfl rfl rfl rfl (show (List.range 1 ++ [6]).Nodup by decide) ?_
      exact ⟨⟨wr, IntKind.wrap .i64 (IntKind.wrap .i64 (av.tdiv (bytes z)) * bytes z), z, bu, lk, xs⟩, _, _, (by simp), (by simp only; omega), (by omega), rfl⟩

theorem cg_239 (code : List Int) (hc : code.length ≤ 1048576) (i h : Int) (hi : 0 ≤ i ∧ i ≤ code.length) : GV prg 239 [cur code i h] [.cp 0 0] (fun u L1 => (∃ x : Req, u = .agg x.r ∧ x.data.length ≤ 16) ∧ ∃ (i h : Int), (0 ≤ i ∧ i ≤ code.length) ∧ L1 = [cur code i h]) := by
  refine gv_inF g239 ?_
  refine s_keep [0] rfl ?_
  refine S_seq ?_
  refine s_rg ?_
  refine s_op (o_new rfl rfl) ?_
  refine s_nilO ?_
  refine q_seqN ?_
  refine s_keep [0, 2] rfl ?_
  refine S_seq ?_
  refine s_rg ?_
  refine s_op (o_mv rfl) ?_
  refine s_callG [0] rfl rfl rfl rfl (by simp) (.inl rfl) (cgo_241 _ hc _ _ hi) ?_
  rintro u L1 ⟨z, i, h, rfl, hz, hi, rfl⟩
  refine ⟨_, _, rfl, rfl, ?_⟩
  refine s_op (o_new rfl rfl) ?_
  refine s_opN (o_stnC rfl rfl rfl rfl rfl rfl rfl) ?_
  refine s_nilO ?_
  refine q_seqN ?_
  refine s_keep [0, 2, 3] rfl ?_
  refine S_seq ?_
  refine S_seq ?_
  refine s_rg ?_
  refine s_op (o_mv rfl) ?_
  refine s_callG [0] rfl rfl rfl rfl (by simp) (.inl rfl) (cg_228 _ hc _ _ hi _) ?_
  rintro u L1 ⟨⟨x, rfl, hx⟩, i, h, hi, rfl⟩
  refine ⟨_, _, rfl, rfl, ?_⟩
  refine s_nilO ?_
  refine q_seqN ?_
  refine s_keep [0, 2, 3, 7] rfl ?_
  refine S_block ?_
  refine S_seq ?_
  refine s_rg ?_
  first | refine s_op (o_eql rfl rfl) ?_ | refine s_op (o_bin rfl rfl rfl rfl) ?_
  refine s_op (o_mv rfl) ?_
  refine s_nilO ?_
  refine q_seqN ?_
  refine s_keep [0, 2, 3, 7, 8] rfl ?_
  first | refine s_condD rfl ?_ ?_ | refine s_condN rfl ?_ ?_ | refine s_condNB rfl ?_ ?_ | refine s_condB rfl ?_ ?_
  · intro h1
    try rw [Decidable.not_not] at h1
    refine s_rg ?_
    refine s_op (o_mv rfl) ?_
    refine s_op (o_bs rfl rfl rfl rfl) ?_
    refine s_callG [0, 4] rfl rfl rfl rfl (by simp) (.inl rfl) (cg_234 _ hc _ _ hi _ _ rfl (by simp) (by simp)) ?_
    rintro u L1 ⟨⟨x, rfl, hx⟩, i, h, hi, rfl⟩
    refine ⟨_, _, rfl, rfl, ?_⟩
    try simp only [List.mem_cons, List.not_mem_nil, or_false] at hx
    refine s_op (o_faC rfl) ?_
    refine s_opN (o_stC rfl rfl rfl rfl rfl rfl) ?_
    refine s_nilO ?_
    refine q_blkN ?_
    refine q_seqN ?_
    refine s_keep [2, 3] rfl ?_
    refine S_seq ?_
    refine s_rg ?_
    refine s_op (o_ldnC rfl rfl rfl) ?_
    refine s_opN (o_stnC rfl rfl rfl rfl rfl rfl rfl) ?_
    refine s_nilO ?_
    refine q_seqN ?_
    refine s_keep [2] rfl ?_
    refine s_ret ?_
    refine retF_leaf (.inr rfl) rfl rfl (by simp) rfl ?_
    first | exact ⟨⟨⟨z.write, z.addr, z.size, z.burst, z.lock, z.data⟩, rfl, by simp only; omega⟩, _, _, (by omega), rfl⟩ | exact ⟨⟨⟨z.write, x, z.size, z.burst, z.lock, z.data⟩, rfl, by simp only; omega⟩, _, _, (by omega), rfl⟩ | exact ⟨⟨⟨(!z.write), z.addr, z.size, z.burst, z.lock, z.data⟩, rfl, by simp only; omega⟩, _, _, (by omega), rfl⟩ | exact ⟨⟨⟨z.write, z.addr, x, z.burst, z.lock, z.data⟩, rfl, by simp only; omega⟩, _, _, (by omega), rfl⟩ | exact ⟨⟨⟨z.write, z.addr, z.size, x, z.lock, z.data⟩, rfl, by simp only; omega⟩, _, _, (by omega), rfl⟩ | exact ⟨⟨⟨z.write, z.addr, z.size, z.burst, z.lock, z.data ++ [1]⟩, (by simp only [Req.r, List.map_append]; rfl), by simp only [List.length_append, List.length_cons, List.length_nil]; omega⟩, _, _, (by omega), rfl⟩
  · intro h1
    try rw [Decidable.not_not] at h1
    refine S_seq ?_
    refine s_rg ?_
    first | refine s_op (o_eql rfl rfl) ?_ | refine s_op (o_bin rfl rfl rfl rfl) ?_
    refine s_op (o_mv rfl) ?_
    refine s_nilO ?_
    refine q_seqN ?_
    refine s_keep [0, 2, 3, 7, 14] rfl ?_
    first | refine s_condD rfl ?_ ?_ | refine s_condN rfl ?_ ?_ | refine s_condNB rfl ?_ ?_ | refine s_condB rfl ?_ ?_
    · intro h2
      try rw [Decidable.not_not] at h2
      refine s_rg ?_
      refine s_op (o_faC rfl) ?_
      refine s_op (o_ldC rfl rfl rfl) ?_
      refine s_op (o_not rfl) ?_
      refine s_op (o_faC rfl) ?_
      refine s_opN (o_stC rfl rfl rfl rfl rfl rfl) ?_
      refine s_nilO ?_
      refine q_blkN ?_
      refine q_seqN ?_
      refine s_keep [2, 3] rfl ?_
      refine S_seq ?_
      refine s_rg ?_
      refine s_op (o_ldnC rfl rfl rfl) ?_
      refine s_opN (o_stnC rfl rfl rfl rfl rfl rfl rfl) ?_
      refine s_nilO ?_
      refine q_seqN ?_
      refine s_keep [2] rfl ?_
      refine s_ret ?_
      refine retF_leaf (.inr rfl) rfl rfl (by simp) rfl ?_
      first | exact ⟨⟨⟨z.write, z.addr, z.size, z.burst, z.lock, z.data⟩, rfl, by simp only; omega⟩, _, _, (by omega), rfl⟩ | exact ⟨⟨⟨z.write, x, z.size, z.burst, z.lock, z.data⟩, rfl, by simp only; omega⟩, _, _, (by omega), rfl⟩ | exact ⟨⟨⟨(!z.write), z.addr, z.size, z.burst, z.lock, z.data⟩, rfl, by simp only; omega⟩, _, _, (by omega), rfl⟩ | exact ⟨⟨⟨z.write, z.addr, x, z.burst, z.lock, z.data⟩, rfl, by simp only; omega⟩, _, _, (by omega), rfl⟩ | exact ⟨⟨⟨z.write, z.addr, z.size, x, z.lock, z.data⟩, rfl, by simp only; omega⟩, _, _, (by omega), rfl⟩ | exact ⟨⟨⟨z.write, z.addr, z.size, z.burst, z.lock, z.data ++ [1]⟩, (by simp only [Req.r, List.map_append]; rfl), by simp only [List.length_append, List.length_cons, List.length_nil]; omega⟩, _, _, (by omega), rfl⟩
    · intro h2
      try rw [Decidable.not_not] at h2
      refine S_seq ?_
      refine s_rg ?_
      first | refine s_op (o_eql rfl rfl) ?_ | refine s_op (o_bin rfl rfl rfl rfl) ?_
      refine s_op (o_mv rfl) ?_
      refine s_nilO ?_
      refine q_seqN ?_
      refine s_keep [0, 2, 3, 7, 20] rfl ?_
      first | refine s_condD rfl ?_ ?_ | refine s_condN rfl ?_ ?_ | refine s_condNB rfl ?_ ?_ | refine s_condB rfl ?_ ?_
      · intro h3
        try rw [Decidable.not_not] at h3
        refine s_rg ?_
        refine s_op (o_mv rfl) ?_
        refine s_callG [0] rfl rfl rfl rfl (by simp) (.inl rfl) (cg_237 _ hc _ _ hi) ?_
        rintro u L1 ⟨⟨x, rfl, hx⟩, i, h, hi, rfl⟩
        refine ⟨_, _, rfl, rfl, ?_⟩
        refine s_op (o_faC rfl) ?_
        refine s_opN (o_stC rfl rfl rfl rfl rfl rfl) ?_
        refine s_nilO ?_
        refine q_blkN ?_
        refine q_seqN ?_
        refine s_keep [2, 3] rfl ?_
        refine S_seq ?_
        refine s_rg ?_
        refine s_op (o_ldnC rfl rfl rfl) ?_
        refine s_opN (o_stnC rfl rfl rfl rfl rfl rfl rfl) ?_
        refine s_nilO ?_
        refine q_seqN ?_
        refine s_keep [2] rfl ?_
        refine s_ret ?_
        refine retF_leaf (.inr rfl) rfl rfl (by simp) rfl ?_
        first | exact ⟨⟨⟨z.write, z.addr, z.size, z.burst, z.lock, z.data⟩, rfl, by simp only; omega⟩, _, _, (by omega), rfl⟩ | exact ⟨⟨⟨z.write, x, z.size, z.burst, z.lock, z.data⟩, rfl, by simp only; omega⟩, _, _, (by omega), rfl⟩ | exact ⟨⟨⟨(!z.write), z.addr, z.size, z.burst, z.lock, z.data⟩, rfl, by simp only; omega⟩, _, _, (by omega), rfl⟩ | exact ⟨⟨⟨z.write, z.addr, x, z.burst, z.lock, z.data⟩, rfl, by simp only; omega⟩, _, _, (by omega), rfl⟩ | exact ⟨⟨⟨z.write, z.addr, z.size, x, z.lock, z.data⟩, rfl, by simp only; omega⟩, _, _, (by omega), rfl⟩ | exact ⟨⟨⟨z.write, z.addr, z.size, z.burst, z.lock, z.data ++ [1]⟩, (by simp only [Req.r, List.map_append]; rfl), by simp only [List.length_append, List.length_cons, List.length_nil]; omega⟩, _, _, (by omega), rfl⟩
      · intro h3
        try rw [Decidable.not_not] at h3
        refine S_seq ?_
        refine s_rg ?_
        first | refine s_op (o_eql rfl rfl) ?_ | refine s_op (o_bin rfl rfl rfl rfl) ?_
        refine s_op (o_mv rfl) ?_
        refine s_nilO ?_
        refine q_seqN ?_
        refine s_keep [0, 2, 3, 7, 25] rfl ?_
        first | refine s_condD rfl ?_ ?_ | refine s_condN rfl ?_ ?_ | refine s_condNB rfl ?_ ?_ | refine s_condB rfl ?_ ?_
        · intro h4
          try rw [Decidable.not_not] at h4
          refine s_rg ?_
          refine s_op (o_mv rfl) ?_
          refine s_callG [0] rfl rfl rfl rfl (by simp) (.inl rfl) (cg_237 _ hc _ _ hi) ?_
          rintro u L1 ⟨⟨x, rfl, hx⟩, i, h, hi, rfl⟩
          refine ⟨_, _, rfl, rfl, ?_⟩
          refine s_op (o_faC rfl) ?_
          refine s_opN (o_stC rfl rfl rfl rfl rfl rfl) ?_
          refine s_nilO ?_
          refine q_blkN ?_
          refine q_seqN ?_
          refine s_keep [2, 3] rfl ?_
          refine S_seq ?_
          refine s_rg ?_
          refine s_op (o_ldnC rfl rfl rfl) ?_
          refine s_opN (o_stnC rfl rfl rfl rfl rfl rfl rfl) ?_
          refine s_nilO ?_
          refine q_seqN ?_
          refine s_keep [2] rfl ?_
          refine s_ret ?_
          refine retF_leaf (.inr rfl) rfl rfl (by simp) rfl ?_
          first | exact ⟨⟨⟨z.write, z.addr, z.size, z.burst, z.lock, z.data⟩, rfl, by simp only; omega⟩, _, _, (by omega), rfl⟩ | exact ⟨⟨⟨z.write, x, z.size, z.burst, z.lock, z.data⟩, rfl, by simp only; omega⟩, _, _, (by omega), rfl⟩ | exact ⟨⟨⟨(!z.write), z.addr, z.size, z.burst, z.lock, z.data⟩, rfl, by simp only; omega⟩, _, _, (by omega), rfl⟩ | exact ⟨⟨⟨z.write, z.addr, x, z.burst, z.lock, z.data⟩, rfl, by simp only; omega⟩, _, _, (by omega), rfl⟩ | exact ⟨⟨⟨z.write, z.addr, z.size, x, z.lock, z.data⟩, rfl, by simp only; omega⟩, _, _, (by omega), rfl⟩ | exact ⟨⟨⟨z.write, z.addr, z.size, z.burst, z.lock, z.data ++ [1]⟩, (by simp only [Req.r, List.map_append]; rfl), by simp only [List.length_append, List.length_cons, List.length_nil]; omega⟩, _, _, (by omega), rfl⟩
        · intro h4
          try rw [Decidable.not_not] at h4
          refine S_seq ?_
          refine s_rg ?_
          first | refine s_op (o_eql rfl rfl) ?_ | refine s_op (o_bin rfl rfl rfl rfl) ?_
          refine s_op (o_mv rfl) ?_
          refine s_nilO ?_
          refine q_seqN ?_
          refine s_keep [2, 3, 30] rfl ?_
          first | refine s_condD rfl ?_ ?_ | refine s_condN rfl ?_ ?_ | refine s_condNB rfl ?_ ?_ | refine s_condB rfl ?_ ?_
          · intro h5
            try rw [Decidable.not_not] at h5
            refine s_rg ?_
            refine s_op (o_faC rfl) ?_
            refine s_op (o_ldC rfl rfl rfl) ?_
            refine s_op (o_bs rfl rfl rfl rfl) ?_
            first | refine s_op (o_appL rfl rfl (by simp) rfl rfl rfl rfl (by simp [roomy]; omega)) ?_ | refine s_op (o_app rfl rfl (by simp) rfl rfl (by simp [roomy]; omega)) ?_
            refine s_op (o_faC rfl) ?_
            refine s_opN (o_stC rfl rfl rfl rfl rfl rfl) ?_
            refine s_nilO ?_
            refine q_blkN ?_
            refine q_seqN ?_
            refine s_keep [2, 3] rfl ?_
            refine S_seq ?_
            refine s_rg ?_
            refine s_op (o_ldnC rfl rfl rfl) ?_
            refine s_opN (o_stnC rfl rfl rfl rfl rfl rfl rfl) ?_
            refine s_nilO ?_
            refine q_seqN ?_
            refine s_keep [2] rfl ?_
            refine s_ret ?_
            refine retF_leaf (.inr rfl) rfl rfl (by simp) rfl ?_
            first | exact ⟨⟨⟨z.write, z.addr, z.size, z.burst, z.lock, z.data⟩, rfl, by simp only; omega⟩, _, _, (by omega), rfl⟩ | exact ⟨⟨⟨z.write, x, z.size, z.burst, z.lock, z.data⟩, rfl, by simp only; omega⟩, _, _, (by omega), rfl⟩ | exact ⟨⟨⟨(!z.write), z.addr, z.size, z.burst, z.lock, z.data⟩, rfl, by simp only; omega⟩, _, _, (by omega), rfl⟩ | exact ⟨⟨⟨z.write, z.addr, x, z.burst, z.lock, z.data⟩, rfl, by simp only; omega⟩, _, _, (by omega), rfl⟩ | exact ⟨⟨⟨z.write, z.addr, z.size, x, z.lock, z.data⟩, rfl, by simp only; omega⟩, _, _, (by omega), rfl⟩ | exact ⟨⟨⟨z.write, z.addr, z.size, z.burst, z.lock, z.data ++ [1]⟩, (by simp only [Req.r, List.map_append]; rfl), by simp only [List.length_append, List.length_cons, List.length_nil]; omega⟩, _, _, (by omega), rfl⟩
          · intro h5
            try rw [Decidable.not_not] at h5
            refine s_skip ?_
            refine q_blkN ?_
            refine q_seqN ?_
            refine s_keep [2, 3] rfl ?_
            refine S_seq ?_
            refine s_rg ?_
            refine s_op (o_ldnC rfl rfl rfl) ?_
            refine s_opN (o_stnC rfl rfl rfl rfl rfl rfl rfl) ?_
            refine s_nilO ?_
            refine q_seqN ?_
            refine s_keep [2] rfl ?_
            refine s_ret ?_
            refine retF_leaf (.inr rfl) rfl rfl (by simp) rfl ?_
            first | exact ⟨⟨⟨z.write, z.addr, z.size, z.burst, z.lock, z.data⟩, rfl, by simp only; omega⟩, _, _, (by omega), rfl⟩ | exact ⟨⟨⟨z.write, x, z.size, z.burst, z.lock, z.data⟩, rfl, by simp only; omega⟩, _, _, (by omega), rfl⟩ | exact ⟨⟨⟨(!z.write), z.addr, z.size, z.burst, z.lock, z.data⟩, rfl, by simp only; omega⟩, _, _, (by omega), rfl⟩ | exact ⟨⟨⟨z.write, z.addr, x, z.burst, z.lock, z.data⟩, rfl, by simp only; omega⟩, _, _, (by omega), rfl⟩ | exact ⟨⟨⟨z.write, z.addr, z.size, x, z.lock, z.data⟩, rfl, by simp only; omega⟩, _, _, (by omega), rfl⟩ | exact ⟨⟨⟨z.write, z.addr, z.size, z.burst, z.lock, z.data ++ [1]⟩, (by simp only [Req.r, List.map_append]; rfl), by simp only [List.length_append, List.length_cons, List.length_nil]; omega⟩, _, _, (by omega), rfl⟩

def Script.fit (s : Script) : Prop := s.posts.length ≤ 6 ∧ (∀ p, p ∈ s.posts → p.req.data.length ≤ 16) ∧ (s.waits.length ≤ 6 ∧ ∀ y, y ∈ s.waits → 0 ≤ y ∧ y ≤ 16) ∧ s.says.length ≤ 6 ∧ ∀ y, y ∈ s.says → 0 ≤ y ∧ y ≤ 16
theorem fit_set {s : Script} (h : s.fit) {k : Nat} {p : Post} (hp : p.req.data.length ≤ 16) : Script.fit ⟨s.posts.set k p, s.waits, s.says⟩ := by
  obtain ⟨h1, h2, h3, h4⟩ := h
  refine ⟨by simp only [List.length_set]; exact h1, fun q hq => ?_, h3, h4⟩
  rcases List.mem_or_eq_of_mem_set hq with hq | rfl
  · exact h2 q hq
  · exact hp

def saidOf (n : Int) : Int := if n = 2 ∨ n = 3 then n else 0
def Conf.waitAt (c : Conf) (s : Script) (k : Int) : Int := max 0 (min (elem s.waits k) c.maxWait)
theorem elem_rot {l : List Int} {k : Int} (hk : 0 ≤ k) (hl : ¬ (l.length : Int) = 0) : elem l (k + l.length) = elem l k := by
  unfold elem
  rw [if_neg (by omega), if_neg (by omega), Int.tmod_eq_emod_of_nonneg (by omega), Int.tmod_eq_emod_of_nonneg hk, Int.add_emod_right]
theorem cost_wait {c : Conf} (h : c.ok = true) : 0 ≤ c.maxWait ∧ c.maxWait ≤ 3 := by
  have h1 := (ok_parts h).2.2.2.2.2.2.1
  unfold Conf.cost at h1
  split at h1
  · rename_i h2
    simp only [Bool.and_eq_true] at h2
    exact inB_t h2.2
  · omega
structure ChoiceF (c : Conf) (s : Script) (k : Int) : Prop where
  wait : 0 ≤ c.waitAt s k ∧ c.waitAt s k ≤ c.maxWait
  split : 1 ≤ c.splitAt s k ∧ c.splitAt s k ≤ c.maxSplit
  said : saidOf (elem s.says k) = 0 ∨ saidOf (elem s.says k) = 2 ∨ saidOf (elem s.says k) = 3
  w2 : ¬ (s.waits.length : Int) = 0 → c.waitAt s (k + s.waits.length) = c.waitAt s k
  s2 : ¬ (s.says.length : Int) = 0 → saidOf (elem s.says (k + s.says.length)) = saidOf (elem s.says k)
theorem choiceF {c : Conf} {s : Script} {k : Int} (h : c.ok = true) (hk : ¬ k < 0) : ChoiceF c s k := by
  have h1 := cost_wait h
  obtain ⟨_, _, _, _, h5, h6, _⟩ := ok_parts h
  refine ⟨by unfold Conf.waitAt; omega, by unfold Conf.splitAt; omega, by unfold saidOf; split <;> simp_all, fun hl => ?_, fun hl => ?_⟩
  · unfold Conf.waitAt; rw [elem_rot (by omega) hl]
  · rw [elem_rot (by omega) hl]

def flt {α : Type} (p : α → Bool) (xs : List α) (j : Nat) : List α := (xs.take j).filter (fun y => !p y)
def dlT {α : Type} (p : α → Bool) (xs : List α) (j : Nat) : List α := flt p xs j ++ xs.drop (flt p xs j).length
theorem flt_le {α : Type} (p : α → Bool) (xs : List α) (j : Nat) : (flt p xs j).length ≤ j ∧ (flt p xs j).length ≤ xs.length := by
  have h := List.length_filter_le (fun y => !p y) (xs.take j)
  rw [List.length_take] at h
  unfold flt
  omega
theorem dl_len {α : Type} (p : α → Bool) (xs : List α) (j : Nat) : (dlT p xs j).length = xs.length := by
  have := (flt_le p xs j).2
  simp [dlT]; omega
theorem dl_at {α : Type} (p : α → Bool) {xs : List α} {j : Nat} {y : α} (r : α → List V) (h : xs[j]? = some y) : ((dlT p xs j).map r)[j]? = some (r y) := by
  have := (flt_le p xs j).1
  rw [List.getElem?_map, dlT, List.getElem?_append_right this, List.getElem?_drop, show (flt p xs j).length + (j - (flt p xs j).length) = j by omega, h]
  rfl
theorem dl_at2 {α : Type} (p : α → Bool) {xs : List α} {j : Nat} {y : α} (r : α → List V) (h : xs[(flt p xs j).length]? = some y) : ((dlT p xs j).map r)[(flt p xs j).length]? = some (r y) := by
  rw [List.getElem?_map, dlT, List.getElem?_append_right (Nat.le_refl _), List.getElem?_drop, Nat.sub_self, Nat.add_zero, h]
  rfl
theorem flt_keep {α : Type} {p : α → Bool} {xs : List α} {j : Nat} {y : α} (h : xs[j]? = some y) (hp : p y = false) : flt p xs (j + 1) = flt p xs j ++ [y] := by
  unfold flt; rw [take_get h, List.filter_append]; simp [hp]
theorem flt_skip {α : Type} {p : α → Bool} {xs : List α} {j : Nat} {y : α} (h : xs[j]? = some y) (hp : p y = true) : flt p xs (j + 1) = flt p xs j := by
  unfold flt; rw [take_get h, List.filter_append]; simp [hp]
theorem dl_keep {α : Type} {p : α → Bool} {xs : List α} {j : Nat} {y : α} (r : α → List V) (h : xs[j]? = some y) (hp : p y = false) : ((dlT p xs j).map r).set (flt p xs j).length (r y) = (dlT p xs (j + 1)).map r := by
  have h1 := (flt_le p xs j).1
  have h2 := (List.getElem?_eq_some_iff.1 h).1
  rw [← List.map_set]
  congr 1
  unfold dlT
  rw [flt_keep h hp, List.set_append_right _ _ (Nat.le_refl _), Nat.sub_self, List.append_assoc, List.length_append, List.length_singleton]
  congr 1
  rw [List.drop_eq_getElem_cons (show (flt p xs j).length < xs.length by omega), List.set_cons_zero]
  rfl
theorem dl_skip {α : Type} {p : α → Bool} {xs : List α} {j : Nat} {y : α} (h : xs[j]? = some y) (hp : p y = true) : dlT p xs j = dlT p xs (j + 1) := by
  unfold dlT; rw [flt_skip h hp]
theorem flt_end {α : Type} (p : α → Bool) {xs : List α} {j : Nat} (h : xs.length ≤ j) : flt p xs j = xs.filter (fun y => !p y) := by
  unfold flt; rw [List.take_of_length_le h]
theorem idx_cases {α : Type} (p : α → Bool) (xs : List α) : (idxOf p xs = -1 ∧ xs.any p = false) ∨ ∃ i : Nat, idxOf p xs = i ∧ i < xs.length ∧ flt p xs (i + 1) = xs.take i := by
  cases e : xs.findIdx? p with
  | none =>
    left
    refine ⟨by simp [idxOf, e], ?_⟩
    rw [List.findIdx?_eq_none_iff] at e
    rw [List.any_eq_false]
    intro x hx; simp [e x hx]
  | some i =>
    right
    refine ⟨i, by simp [idxOf, e], ?_⟩
    rw [List.findIdx?_eq_some_iff_getElem] at e
    obtain ⟨h, h1, h2⟩ := e
    have h3 : xs[i]? = some xs[i] := List.getElem?_eq_getElem h
    refine ⟨h, ?_⟩
    rw [flt_skip h3 h1, flt, List.filter_eq_self]
    intro x hx
    rw [List.mem_take_iff_getElem] at hx
    obtain ⟨j, hj, rfl⟩ := hx
    have := h2 j (by omega)
    simpa using this
theorem dl_start {α : Type} {p : α → Bool} {xs : List α} {i : Nat} (hi : i < xs.length) (h : flt p xs (i + 1) = xs.take i) : dlT p xs (i + 1) = xs := by
  unfold dlT
  rw [h, List.length_take, Nat.min_eq_left (by omega), List.take_append_drop]
theorem dl_fin {α : Type} (p : α → Bool) {xs : List α} {j : Nat} (r : α → List V) (zs : List (List V)) : (((dlT p xs j).map r).take (flt p xs j).length ++ zs).take (flt p xs j).length = (flt p xs j).map r := by
  have h : ((dlT p xs j).map r).take (flt p xs j).length = (flt p xs j).map r := by
    rw [← List.map_take]; congr 1; unfold dlT; simp
  rw [h]
  have h2 : ((flt p xs j).map r).length = (flt p xs j).length := by simp
  rw [List.take_append_of_le_length (by omega), List.take_of_length_le (by omega)]


def doneL (c : Int) (xs : List Done) : List Done := xs.filter (fun y => decide (y.who = c))
theorem doneL_le (c : Int) (xs : List Done) : (doneL c xs).length ≤ xs.length := List.length_filter_le ..
theorem doneL_del (c : Int) (xs : List Done) : xs.filter (fun y => !decide (¬ y.who = c)) = doneL c xs := by
  unfold doneL; congr 1; funext y; by_cases h : y.who = c <;> simp [h]
theorem doneL_none {c : Int} {xs : List Done} (h : xs.any (fun y => decide (¬ y.who = c)) = false) : doneL c xs = xs := by
  unfold doneL
  rw [List.filter_eq_self]
  intro x hx
  rw [List.any_eq_false] at h
  simpa using h x hx
theorem doneL_yes {c : Int} {xs : List Done} {i : Nat} {y : Done} (h : xs[i]? = some y) (e : y.who = c) : (doneL c (xs.take (i + 1))).map Done.r = (doneL c (xs.take i)).map Done.r ++ [Done.r y] := by
  unfold doneL; rw [take_get h, List.filter_append]; simp [e]
theorem doneL_no {c : Int} {xs : List Done} {i : Nat} {y : Done} (h : xs[i]? = some y) (e : ¬ y.who = c) : (doneL c (xs.take (i + 1))).map Done.r = (doneL c (xs.take i)).map Done.r := by
  unfold doneL; rw [take_get h, List.filter_append]; simp [e]
theorem doneL_end {c : Int} {xs : List Done} {i : Nat} (h : xs.length ≤ i) : doneL c (xs.take i) = doneL c xs := by
  rw [List.take_of_length_le h]

theorem c_324 (x : Req) (hs : x.small) : CV prg 324 [.agg x.r] (fun res => res = .sl 7 ((beatsR x).map Done.r)) := by
  have hbl := burstL_le x.addr x.size x.burst
  refine cv_in g324 ?_
  refine s_keep [0] rfl ?_
  refine S_seq ?_
  refine s_rg ?_
  refine s_op (o_box rfl rfl rfl) ?_
  refine s_op (o_mv rfl) ?_
  refine s_nilO ?_
  refine q_seqN ?_
  refine s_keep [1] rfl ?_
  refine S_seq ?_
  refine S_seq ?_
  refine s_rg ?_
  refine s_op (o_ldnC rfl rfl rfl) ?_
  first | refine s_call rfl rfl (c_66 _ (by assumption)) ?_ | refine s_callL rfl rfl (by simp) (c_66 _ (by assumption)) rfl ?_
  refine s_op (o_not rfl) ?_
  refine s_nilO ?_
  refine q_seqN ?_
  refine s_keep [1, 9] rfl ?_
  first | refine s_condD rfl ?_ ?_ | refine s_condN rfl ?_ ?_ | refine s_condNB rfl ?_ ?_ | refine s_condB rfl ?_ ?_
  · intro h1
    try rw [Decidable.not_not] at h1
    refine S_seq ?_
    refine s_rg ?_
    refine s_op (o_mv rfl) ?_
    refine s_nilO ?_
    refine q_seqN ?_
    refine s_keep [2] rfl ?_
    first | refine s_nil 2 7 rfl ⟨rfl, rfl⟩ rfl ?_ | skip
    refine s_ret ?_
    refine q_seqR ?_
    refine ret_leafA (.inr rfl) rfl rfl rfl ?_
    first | (unfold beatsR; rw [if_neg (by simp_all)]; rfl) | (unfold beatsR; rw [if_pos (by assumption), show i = (burstL x.addr x.size x.burst).length by omega])
  · intro h1
    try rw [Decidable.not_not] at h1
    refine s_skip ?_
    refine q_seqN ?_
    refine s_keep [1] rfl ?_
    refine S_seq ?_
    refine s_rg ?_
    refine s_op (o_bs rfl rfl rfl rfl) ?_
    refine s_op (o_mv rfl) ?_
    refine s_nilO ?_
    refine q_seqN ?_
    refine s_keep [1, 3] rfl ?_
    refine S_seq ?_
    refine S_seq ?_
    refine s_rg ?_
    refine s_op (o_faC rfl) ?_
    refine s_op (o_ldC rfl rfl rfl) ?_
    refine s_op (o_faC rfl) ?_
    refine s_op (o_ldC rfl rfl rfl) ?_
    refine s_op (o_faC rfl) ?_
    refine s_op (o_ldC rfl rfl rfl) ?_
    first | refine s_call rfl rfl (c_29 ..) ?_ | refine s_callL rfl rfl (by simp) (c_29 ..) rfl ?_
    first | refine s_op (o_lenM rfl) ?_ | refine s_op (o_len rfl) ?_ | refine s_op (o_lenL rfl rfl rfl) ?_ | refine s_op (o_lenN rfl) ?_
    refine s_op (o_mv rfl) ?_
    refine s_nilO ?_
    refine q_seqN ?_
    refine s_keep [1, 3, 17, 18, 19] rfl ?_
    refine S_block ?_
    refine S_loop (ι := Nat) (fun i => i ≤ (burstL x.addr x.size x.burst).length) (fun i => [(19, .w (.int .i64 (i : Int))), (3, .ls 1 (((List.range i).map (bdAt x)).map Done.r).length)]) (fun i => [.cell x.r, .arr 7 (((List.range i).map (bdAt x)).map Done.r)]) (fun i => (burstL x.addr x.size x.burst).length - i) 2 0 (by simp) rfl (hasOf ⟨rfl, rfl, trivial⟩ rfl) rfl (fun _ _ => rfl) (fun _ _ => ⟨rfl, rfl⟩) ?_
    intro i hi
    have hml : (((List.range i).map (bdAt x)).map Done.r).length = i := by simp
    refine s_keep [1, 3, 17, 18, 19] rfl ?_
    refine S_seq ?_
    refine s_rg ?_
    first | refine s_op (o_lss rfl rfl) ?_ | refine s_op (o_bin rfl rfl rfl rfl) ?_
    refine s_nilO ?_
    refine q_seqN ?_
    refine s_keep [1, 3, 17, 18, 19, 20] rfl ?_
    refine S_seq ?_
    first | refine s_condD rfl ?_ ?_ | refine s_condN rfl ?_ ?_ | refine s_condNB rfl ?_ ?_ | refine s_condB rfl ?_ ?_
    · intro h2
      try rw [Decidable.not_not] at h2
      refine s_skip ?_
      refine q_seqN ?_
      refine s_keep [1, 3, 17, 18, 19] rfl ?_
      refine S_seq ?_
      refine S_block ?_
      refine S_seq ?_
      refine s_rg ?_
      refine s_op (o_mv rfl) ?_
      refine s_iaM rfl rfl (by first | omega | (rw [ok_data (by assumption) (by assumption)]; omega)) ?_
      intro y3 e3
      try simp only [Int.toNat_natCast, Int.toNat_zero] at e3
      refine s_op (o_ld rfl rfl) ?_
      refine s_op (o_mv rfl) ?_
      refine s_op (o_mv rfl) ?_
      refine s_nilO ?_
      refine q_seqN ?_
      refine s_keep [1, 3, 4, 5, 17, 18, 19] rfl ?_
      refine S_seq ?_
      refine s_rg ?_
      refine s_op (o_faC rfl) ?_
      refine s_op (o_ldC rfl rfl rfl) ?_
      refine s_op (o_mv rfl) ?_
      refine s_op (o_faC rfl) ?_
      refine s_op (o_ldC rfl rfl rfl) ?_
      refine s_op (o_bd rfl rfl) ?_
      refine s_op (o_new rfl rfl) ?_
      refine s_opN (o_stnC rfl rfl rfl rfl rfl rfl rfl) ?_
      refine s_nilO ?_
      refine q_seqN ?_
      refine s_keep [1, 3, 4, 6, 17, 18, 19] rfl ?_
      refine S_seq ?_
      refine S_seq ?_
      refine s_rg ?_
      refine s_op (o_faC rfl) ?_
      refine s_op (o_ldC rfl rfl rfl) ?_
      refine s_nilO ?_
      refine q_seqN ?_
      refine s_keep [1, 3, 4, 6, 17, 18, 19, 31] rfl ?_
      first | refine s_condD rfl ?_ ?_ | refine s_condN rfl ?_ ?_ | refine s_condNB rfl ?_ ?_ | refine s_condB rfl ?_ ?_
      · intro h4
        try rw [Decidable.not_not] at h4
        refine s_rg ?_
        refine s_op (o_faC rfl) ?_
        refine s_op (o_ldC rfl rfl rfl) ?_
        refine s_op (o_mv rfl) ?_
        refine s_iaM rfl rfl (by first | omega | (rw [ok_data (by assumption) (by assumption)]; omega)) ?_
        intro y5 e5
        try simp only [Int.toNat_natCast, Int.toNat_zero] at e5
        refine s_op (o_ld rfl rfl) ?_
        refine s_op (o_faC rfl) ?_
        refine s_opN (o_stC rfl rfl rfl rfl rfl rfl) ?_
        refine s_nilO ?_
        refine q_seqN ?_
        refine s_keep [1, 3, 6, 17, 18, 19] rfl ?_
        refine s_rg ?_
        refine s_op (o_mv rfl) ?_
        refine s_op (o_ldnC rfl rfl rfl) ?_
        refine s_op (o_bs rfl rfl rfl rfl) ?_
        first | refine s_op (o_appL rfl rfl rfl rfl rfl rfl rfl (by simp [roomy]; omega)) ?_ | refine s_op (o_app rfl rfl rfl rfl rfl (by simp [roomy]; omega)) ?_
        refine s_op (o_mv rfl) ?_
        refine s_nilO ?_
        refine q_blkN ?_
        refine q_seqN ?_
        refine s_keep [1, 3, 17, 18, 19] rfl ?_
        refine s_rg ?_
        first | refine s_op (o_addn rfl rfl (by omega)) ?_ | refine s_op (o_add rfl rfl) ?_
        refine s_op (o_mv rfl) ?_
        refine s_nilO ?_
        refine q_loopN ?_
        first | (refine ⟨i + 1, by omega, by omega, hasOf ⟨rfl, ?_, trivial⟩ ?_⟩ <;> rw [bd_step, bd_w (by assumption) (by assumption) (by assumption)] <;> rfl) | (refine ⟨i + 1, by omega, by omega, hasOf ⟨rfl, ?_, trivial⟩ ?_⟩ <;> rw [bd_step, bd_r (by assumption) (by assumption)] <;> rfl)
      · intro h4
        try rw [Decidable.not_not] at h4
        refine s_skip ?_
        refine q_seqN ?_
        refine s_keep [1, 3, 6, 17, 18, 19] rfl ?_
        refine s_rg ?_
        refine s_op (o_mv rfl) ?_
        refine s_op (o_ldnC rfl rfl rfl) ?_
        refine s_op (o_bs rfl rfl rfl rfl) ?_
        first | refine s_op (o_appL rfl rfl rfl rfl rfl rfl rfl (by simp [roomy]; omega)) ?_ | refine s_op (o_app rfl rfl rfl rfl rfl (by simp [roomy]; omega)) ?_
        refine s_op (o_mv rfl) ?_
        refine s_nilO ?_
        refine q_blkN ?_
        refine q_seqN ?_
        refine s_keep [1, 3, 17, 18, 19] rfl ?_
        refine s_rg ?_
        first | refine s_op (o_addn rfl rfl (by omega)) ?_ | refine s_op (o_add rfl rfl) ?_
        refine s_op (o_mv rfl) ?_
        refine s_nilO ?_
        refine q_loopN ?_
        first | (refine ⟨i + 1, by omega, by omega, hasOf ⟨rfl, ?_, trivial⟩ ?_⟩ <;> rw [bd_step, bd_w (by assumption) (by assumption) (by assumption)] <;> rfl) | (refine ⟨i + 1, by omega, by omega, hasOf ⟨rfl, ?_, trivial⟩ ?_⟩ <;> rw [bd_step, bd_r (by assumption) (by assumption)] <;> rfl)
    · intro h2
      try rw [Decidable.not_not] at h2
      refine s_exit ?_
      refine q_seqX ?_
      refine q_loopX ?_
      refine q_blkH ?_
      refine q_seqN ?_
      refine s_keep [3] rfl ?_
      refine S_seq ?_
      refine s_rg ?_
      refine s_op (o_mv rfl) ?_
      refine s_op (o_mv rfl) ?_
      refine s_nilO ?_
      refine q_seqN ?_
      refine s_keep [2] rfl ?_
      first | refine s_nil 2 7 rfl ⟨rfl, rfl⟩ rfl ?_ | skip
      refine s_ret ?_
      refine ret_leafA (.inr rfl) rfl rfl rfl ?_
      first | (unfold beatsR; rw [if_neg (by simp_all)]; rfl) | (unfold beatsR; rw [if_pos (by assumption), show i = (burstL x.addr x.size x.burst).length by omega])

theorem c_323 (code : List Int) (hc : code.length ≤ 1048576) : CV prg 323 [.sl 1 (code.map uR)] (fun u => ∃ x : Req, u = .agg x.r ∧ x.data.length ≤ 16) := by
  refine cv_in g323 ?_
  refine s_keep [0] rfl ?_
  refine S_seq ?_
  refine s_rg ?_
  refine s_op (o_new rfl rfl) ?_
  refine s_nilO ?_
  refine q_seqN ?_
  refine s_keep [0, 2] rfl ?_
  refine S_seq ?_
  refine s_rg ?_
  refine s_op (o_mv rfl) ?_
  refine s_callG [] rfl rfl rfl rfl (by simp) (.inl rfl) (cg_231 _ hc) ?_
  rintro u L1 ⟨rfl, h, rfl⟩
  refine ⟨_, _, rfl, rfl, ?_⟩
  have hi : (0 : Int) ≤ 0 ∧ (0 : Int) ≤ (code.length : Int) := by omega
  refine s_callG [1] rfl rfl rfl rfl (by simp) (.inl rfl) (cg_239 _ hc _ _ hi) ?_
  rintro u L1 ⟨⟨x, rfl, hx⟩, i, h, hi, rfl⟩
  refine ⟨_, _, rfl, rfl, ?_⟩
  refine s_opN (o_stnC rfl rfl rfl rfl rfl rfl rfl) ?_
  refine s_nilO ?_
  refine q_seqN ?_
  refine s_keep [2] rfl ?_
  refine s_ret ?_
  refine ret_leaf (.inr rfl) rfl rfl ?_
  exact ⟨x, rfl, by omega⟩

theorem c_325 (code : List Int) (hc : code.length ≤ 1048576) : CV prg 325 [.sl 1 (code.map uR)] (fun u => ∃ a b : List Done, u = .tup [.sl 7 (a.map Done.r), .sl 7 (b.map Done.r)] ∧ a.length ≤ 16 ∧ b.length ≤ 16) := by
  refine cv_in g325 ?_
  refine s_keep [0] rfl ?_
  refine S_seq ?_
  refine s_rg ?_
  refine s_op (o_mv rfl) ?_
  refine s_op (o_mv rfl) ?_
  refine s_nilO ?_
  refine q_seqN ?_
  refine s_keep [0] rfl ?_
  refine S_seq ?_
  refine s_rg ?_
  refine s_op (o_mv rfl) ?_
  refine s_callG [] rfl rfl rfl rfl (by simp) (.inl rfl) (cg_231 _ hc) ?_
  rintro u L1 ⟨rfl, h, rfl⟩
  refine ⟨_, _, rfl, rfl, ?_⟩
  have hi : (0 : Int) ≤ 0 ∧ (0 : Int) ≤ (code.length : Int) := by omega
  refine s_op (o_mv rfl) ?_
  refine s_nilO ?_
  refine q_seqN ?_
  refine s_keep [4] rfl ?_
  refine S_seq ?_
  refine s_rg ?_
  refine s_op (o_mv rfl) ?_
  refine s_callG [0] rfl rfl rfl rfl (by simp) (.inl rfl) (cg_241 _ hc _ _ hi) ?_
  rintro u L1 ⟨⟨x, rfl, hx⟩, i, h, hi, rfl⟩
  refine ⟨_, _, rfl, rfl, ?_⟩
  refine s_op (o_new rfl rfl) ?_
  refine s_opN (o_stnC rfl rfl rfl rfl rfl rfl rfl) ?_
  refine s_nilO ?_
  refine q_seqN ?_
  refine s_keep [4, 5] rfl ?_
  refine S_seq ?_
  refine s_rg ?_
  refine s_op (o_ldnC rfl rfl rfl) ?_
  first | refine s_call rfl rfl (c_328 x (Nat.le_trans hx (by omega))) ?_ | refine s_callL rfl rfl (by simp) (c_328 x (Nat.le_trans hx (by omega))) rfl ?_
  have hb8 := beatsR_len x
  refine s_op (o_mv rfl) ?_
  refine s_nilO ?_
  refine q_seqN ?_
  refine s_keep [4, 6] rfl ?_
  refine S_seq ?_
  refine s_rg ?_
  refine s_op (o_bs rfl rfl rfl rfl) ?_
  refine s_op (o_mv rfl) ?_
  first | refine s_op (o_appL rfl rfl (by simp) rfl rfl rfl rfl (by simp [roomy]; omega)) ?_ | refine s_op (o_app rfl rfl (by simp) rfl rfl (by simp [roomy]; omega)) ?_
  simp only [List.replicate_zero, List.nil_append]
  refine s_op (o_mv rfl) ?_
  refine s_nilO ?_
  refine q_seqN ?_
  refine s_keep [4, 6, 7] rfl ?_
  refine S_seq ?_
  refine s_rg ?_
  refine s_op (o_mv rfl) ?_
  refine s_op (o_mv rfl) ?_
  refine s_op (o_mv rfl) ?_
  refine s_op (o_lenL rfl rfl (by simp)) ?_
  first | refine s_op (o_addn rfl rfl (by first | omega | (simp only [List.length_map]; omega))) ?_ | refine s_op (o_add rfl rfl) ?_
  refine s_callG [0] rfl rfl rfl rfl (by simp) (.inl rfl) (cg_228 _ hc _ _ hi _) ?_
  rintro u L1 ⟨⟨kv, rfl, hkv⟩, i, h, hi, rfl⟩
  refine ⟨_, _, rfl, rfl, ?_⟩
  try rw [List.length_map] at hkv
  have hkv1 := hkv.1 (by omega)
  refine s_cut rfl rfl (by simp) rfl rfl (by simp; omega) rfl rfl ?_
  simp only [Int.toNat_natCast, Int.toNat_zero, List.drop_zero, ← List.map_take]
  obtain ⟨ys, hys⟩ : ∃ ys, ys = (beatsR x).take kv.toNat := ⟨_, rfl⟩
  have hyl : ys.length ≤ 8 := by rw [hys, List.length_take]; omega
  have hyr : (ys.map Done.r).length = ys.length := List.length_map ..
  rw [← hys]
  refine s_op (o_mv rfl) ?_
  refine s_nilO ?_
  refine q_seqN ?_
  refine s_keep [4, 6, 7] rfl ?_
  refine S_seq ?_
  refine S_seq ?_
  refine s_rg ?_
  refine s_op (o_mv rfl) ?_
  refine s_op (o_lenL rfl rfl (by simp)) ?_
  first | refine s_op (o_gtr rfl rfl) ?_ | refine s_op (o_bin rfl rfl rfl rfl) ?_
  refine s_op (o_mv rfl) ?_
  first | refine s_gDT rfl ?_ ?_ | refine s_gNDT rfl ?_ ?_ | refine s_gNT rfl ?_ ?_ | refine s_gB rfl ?_ ?_
  · intro h1
    try rw [Decidable.not_not] at h1
    refine s_op (o_mv rfl) ?_
    refine s_gT rfl ?_
    refine s_callG [0] rfl rfl rfl rfl (by simp) (.inl rfl) (cg_233 _ hc _ _ hi _) ?_
    rintro u L1 ⟨⟨ob, rfl⟩, i, h, hi, rfl⟩
    refine ⟨_, _, rfl, rfl, ?_⟩
    refine s_op (o_pickT rfl rfl) ?_
    refine s_nilO ?_
    refine q_seqN ?_
    refine s_keep [4, 6, 7, 30] rfl ?_
    first | refine s_condD rfl ?_ ?_ | refine s_condN rfl ?_ ?_ | refine s_condNB rfl ?_ ?_ | refine s_condB rfl ?_ ?_
    · intro h2
      try rw [Decidable.not_not] at h2
      refine s_rg ?_
      refine s_op (o_mv rfl) ?_
      refine s_op (o_mv rfl) ?_
      refine s_op (o_mv rfl) ?_
      refine s_op (o_lenL rfl rfl (by simp)) ?_
      refine s_callG [0] rfl rfl rfl rfl (by simp) (.inl rfl) (cg_228 _ hc _ _ hi _) ?_
      rintro u L1 ⟨⟨jv, rfl, hjv⟩, i, h, hi, rfl⟩
      refine ⟨_, _, rfl, rfl, ?_⟩
      try rw [List.length_map] at hjv
      have hjv1 := hjv.1 (by omega)
      obtain ⟨m, hm⟩ := get_ex (xs := ys) hjv1.1 hjv1.2
      refine s_op (o_iaL rfl rfl (by simp) rfl (by simp; omega)) ?_
      refine s_op (o_faA rfl rfl (by simp)) ?_
      refine s_opN (o_stA rfl rfl rfl rfl (by simp) (by exact get_map hm) rfl rfl) ?_
      refine s_nilO ?_
      refine q_seqN ?_
      refine s_keep [4, 6, 7] rfl ?_
      refine S_seq ?_
      refine S_seq ?_
      refine s_rg ?_
      refine s_op (o_mv rfl) ?_
      refine s_callG [0] rfl rfl rfl rfl (by simp) (.inl rfl) (cg_233 _ hc _ _ hi _) ?_
      rintro u L1 ⟨⟨ob, rfl⟩, i, h, hi, rfl⟩
      refine ⟨_, _, rfl, rfl, ?_⟩
      refine s_nilO ?_
      refine q_seqN ?_
      refine s_keep [6, 7, 39] rfl ?_
      first | refine s_condD rfl ?_ ?_ | refine s_condN rfl ?_ ?_ | refine s_condNB rfl ?_ ?_ | refine s_condB rfl ?_ ?_
      · intro h4
        try rw [Decidable.not_not] at h4
        refine s_rg ?_
        refine s_op (o_mv rfl) ?_
        refine s_op (o_bd rfl rfl) ?_
        refine s_op (o_bs rfl rfl rfl rfl) ?_
        first | refine s_op (o_appL rfl rfl (by simp) rfl rfl rfl rfl (by simp [roomy]; omega)) ?_ | refine s_op (o_app rfl rfl (by simp) rfl rfl (by simp [roomy]; omega)) ?_
        refine s_op (o_mv rfl) ?_
        refine s_nilO ?_
        refine q_seqN ?_
        refine s_keep [6, 7] rfl ?_
        refine S_seq ?_
        refine s_rg ?_
        refine s_op (o_mv rfl) ?_
        refine s_op (o_mv rfl) ?_
        refine s_op (o_mv rfl) ?_
        refine s_op (o_mv rfl) ?_
        refine s_nilO ?_
        refine q_seqN ?_
        refine s_keep [2, 3] rfl ?_
        refine s_ret ?_
        refine ret_leafA (.inr rfl) rfl rfl (by simp) ?_
        first | exact ⟨ys, beatsR x, rfl, by omega, by omega⟩ | exact ⟨ys ++ [⟨0, 0, false, 0, 0, 0, 0⟩], beatsR x, (by simp only [List.map_append]; rfl), by simp; omega, by omega⟩ | exact ⟨ys.set jv.toNat ⟨m.cycle, m.who, m.write, 0, m.size, m.value, m.resp⟩, beatsR x, (by simp only [List.map_set]; rfl), by simp; omega, by omega⟩ | exact ⟨ys.set jv.toNat ⟨m.cycle, m.who, m.write, 0, m.size, m.value, m.resp⟩ ++ [⟨0, 0, false, 0, 0, 0, 0⟩], beatsR x, (by simp only [List.map_append, List.map_set]; rfl), by simp; omega, by omega⟩
      · intro h4
        try rw [Decidable.not_not] at h4
        refine s_skip ?_
        refine q_seqN ?_
        refine s_keep [6, 7] rfl ?_
        refine S_seq ?_
        refine s_rg ?_
        refine s_op (o_mv rfl) ?_
        refine s_op (o_mv rfl) ?_
        refine s_op (o_mv rfl) ?_
        refine s_op (o_mv rfl) ?_
        refine s_nilO ?_
        refine q_seqN ?_
        refine s_keep [2, 3] rfl ?_
        refine s_ret ?_
        refine ret_leafA (.inr rfl) rfl rfl (by simp) ?_
        first | exact ⟨ys, beatsR x, rfl, by omega, by omega⟩ | exact ⟨ys ++ [⟨0, 0, false, 0, 0, 0, 0⟩], beatsR x, (by simp only [List.map_append]; rfl), by simp; omega, by omega⟩ | exact ⟨ys.set jv.toNat ⟨m.cycle, m.who, m.write, 0, m.size, m.value, m.resp⟩, beatsR x, (by simp only [List.map_set]; rfl), by simp; omega, by omega⟩ | exact ⟨ys.set jv.toNat ⟨m.cycle, m.who, m.write, 0, m.size, m.value, m.resp⟩ ++ [⟨0, 0, false, 0, 0, 0, 0⟩], beatsR x, (by simp only [List.map_append, List.map_set]; rfl), by simp; omega, by omega⟩
    · intro h2
      try rw [Decidable.not_not] at h2
      refine s_skip ?_
      refine q_seqN ?_
      refine s_keep [4, 6, 7] rfl ?_
      refine S_seq ?_
      refine S_seq ?_
      refine s_rg ?_
      refine s_op (o_mv rfl) ?_
      refine s_callG [0] rfl rfl rfl rfl (by simp) (.inl rfl) (cg_233 _ hc _ _ hi _) ?_
      rintro u L1 ⟨⟨ob, rfl⟩, i, h, hi, rfl⟩
      refine ⟨_, _, rfl, rfl, ?_⟩
      refine s_nilO ?_
      refine q_seqN ?_
      refine s_keep [6, 7, 39] rfl ?_
      first | refine s_condD rfl ?_ ?_ | refine s_condN rfl ?_ ?_ | refine s_condNB rfl ?_ ?_ | refine s_condB rfl ?_ ?_
      · intro h5
        try rw [Decidable.not_not] at h5
        refine s_rg ?_
        refine s_op (o_mv rfl) ?_
        refine s_op (o_bd rfl rfl) ?_
        refine s_op (o_bs rfl rfl rfl rfl) ?_
        first | refine s_op (o_appL rfl rfl (by simp) rfl rfl rfl rfl (by simp [roomy]; omega)) ?_ | refine s_op (o_app rfl rfl (by simp) rfl rfl (by simp [roomy]; omega)) ?_
        refine s_op (o_mv rfl) ?_
        refine s_nilO ?_
        refine q_seqN ?_
        refine s_keep [6, 7] rfl ?_
        refine S_seq ?_
        refine s_rg ?_
        refine s_op (o_mv rfl) ?_
        refine s_op (o_mv rfl) ?_
        refine s_op (o_mv rfl) ?_
        refine s_op (o_mv rfl) ?_
        refine s_nilO ?_
        refine q_seqN ?_
        refine s_keep [2, 3] rfl ?_
        refine s_ret ?_
        refine ret_leafA (.inr rfl) rfl rfl (by simp) ?_
        first | exact ⟨ys, beatsR x, rfl, by omega, by omega⟩ | exact ⟨ys ++ [⟨0, 0, false, 0, 0, 0, 0⟩], beatsR x, (by simp only [List.map_append]; rfl), by simp; omega, by omega⟩ | exact ⟨ys.set jv.toNat ⟨m.cycle, m.who, m.write, 0, m.size, m.value, m.resp⟩, beatsR x, (by simp only [List.map_set]; rfl), by simp; omega, by omega⟩ | exact ⟨ys.set jv.toNat ⟨m.cycle, m.who, m.write, 0, m.size, m.value, m.resp⟩ ++ [⟨0, 0, false, 0, 0, 0, 0⟩], beatsR x, (by simp only [List.map_append, List.map_set]; rfl), by simp; omega, by omega⟩
      · intro h5
        try rw [Decidable.not_not] at h5
        refine s_skip ?_
        refine q_seqN ?_
        refine s_keep [6, 7] rfl ?_
        refine S_seq ?_
        refine s_rg ?_
        refine s_op (o_mv rfl) ?_
        refine s_op (o_mv rfl) ?_
        refine s_op (o_mv rfl) ?_
        refine s_op (o_mv rfl) ?_
        refine s_nilO ?_
        refine q_seqN ?_
        refine s_keep [2, 3] rfl ?_
        refine s_ret ?_
        refine ret_leafA (.inr rfl) rfl rfl (by simp) ?_
        first | exact ⟨ys, beatsR x, rfl, by omega, by omega⟩ | exact ⟨ys ++ [⟨0, 0, false, 0, 0, 0, 0⟩], beatsR x, (by simp only [List.map_append]; rfl), by simp; omega, by omega⟩ | exact ⟨ys.set jv.toNat ⟨m.cycle, m.who, m.write, 0, m.size, m.value, m.resp⟩, beatsR x, (by simp only [List.map_set]; rfl), by simp; omega, by omega⟩ | exact ⟨ys.set jv.toNat ⟨m.cycle, m.who, m.write, 0, m.size, m.value, m.resp⟩ ++ [⟨0, 0, false, 0, 0, 0, 0⟩], beatsR x, (by simp only [List.map_append, List.map_set]; rfl), by simp; omega, by omega⟩
  · intro h1
    try rw [Decidable.not_not] at h1
    refine s_gF rfl ?_
    refine s_gF rfl ?_
    refine s_op (o_pickF rfl rfl) ?_
    refine s_nilO ?_
    refine q_seqN ?_
    refine s_keep [4, 6, 7, 30] rfl ?_
    refine s_condF rfl ?_
    refine s_skip ?_
    refine q_seqN ?_
    refine s_keep [4, 6, 7] rfl ?_
    refine S_seq ?_
    refine S_seq ?_
    refine s_rg ?_
    refine s_op (o_mv rfl) ?_
    refine s_callG [0] rfl rfl rfl rfl (by simp) (.inl rfl) (cg_233 _ hc _ _ hi _) ?_
    rintro u L1 ⟨⟨ob, rfl⟩, i, h, hi, rfl⟩
    refine ⟨_, _, rfl, rfl, ?_⟩
    refine s_nilO ?_
    refine q_seqN ?_
    refine s_keep [6, 7, 39] rfl ?_
    first | refine s_condD rfl ?_ ?_ | refine s_condN rfl ?_ ?_ | refine s_condNB rfl ?_ ?_ | refine s_condB rfl ?_ ?_
    · intro h6
      try rw [Decidable.not_not] at h6
      refine s_rg ?_
      refine s_op (o_mv rfl) ?_
      refine s_op (o_bd rfl rfl) ?_
      refine s_op (o_bs rfl rfl rfl rfl) ?_
      first | refine s_op (o_appL rfl rfl (by simp) rfl rfl rfl rfl (by simp [roomy]; omega)) ?_ | refine s_op (o_app rfl rfl (by simp) rfl rfl (by simp [roomy]; omega)) ?_
      refine s_op (o_mv rfl) ?_
      refine s_nilO ?_
      refine q_seqN ?_
      refine s_keep [6, 7] rfl ?_
      refine S_seq ?_
      refine s_rg ?_
      refine s_op (o_mv rfl) ?_
      refine s_op (o_mv rfl) ?_
      refine s_op (o_mv rfl) ?_
      refine s_op (o_mv rfl) ?_
      refine s_nilO ?_
      refine q_seqN ?_
      refine s_keep [2, 3] rfl ?_
      refine s_ret ?_
      refine ret_leafA (.inr rfl) rfl rfl (by simp) ?_
      first | exact ⟨ys, beatsR x, rfl, by omega, by omega⟩ | exact ⟨ys ++ [⟨0, 0, false, 0, 0, 0, 0⟩], beatsR x, (by simp only [List.map_append]; rfl), by simp; omega, by omega⟩ | exact ⟨ys.set jv.toNat ⟨m.cycle, m.who, m.write, 0, m.size, m.value, m.resp⟩, beatsR x, (by simp only [List.map_set]; rfl), by simp; omega, by omega⟩ | exact ⟨ys.set jv.toNat ⟨m.cycle, m.who, m.write, 0, m.size, m.value, m.resp⟩ ++ [⟨0, 0, false, 0, 0, 0, 0⟩], beatsR x, (by simp only [List.map_append, List.map_set]; rfl), by simp; omega, by omega⟩
    · intro h6
      try rw [Decidable.not_not] at h6
      refine s_skip ?_
      refine q_seqN ?_
      refine s_keep [6, 7] rfl ?_
      refine S_seq ?_
      refine s_rg ?_
      refine s_op (o_mv rfl) ?_
      refine s_op (o_mv rfl) ?_
      refine s_op (o_mv rfl) ?_
      refine s_op (o_mv rfl) ?_
      refine s_nilO ?_
      refine q_seqN ?_
      refine s_keep [2, 3] rfl ?_
      refine s_ret ?_
      refine ret_leafA (.inr rfl) rfl rfl (by simp) ?_
      first | exact ⟨ys, beatsR x, rfl, by omega, by omega⟩ | exact ⟨ys ++ [⟨0, 0, false, 0, 0, 0, 0⟩], beatsR x, (by simp only [List.map_append]; rfl), by simp; omega, by omega⟩ | exact ⟨ys.set jv.toNat ⟨m.cycle, m.who, m.write, 0, m.size, m.value, m.resp⟩, beatsR x, (by simp only [List.map_set]; rfl), by simp; omega, by omega⟩ | exact ⟨ys.set jv.toNat ⟨m.cycle, m.who, m.write, 0, m.size, m.value, m.resp⟩ ++ [⟨0, 0, false, 0, 0, 0, 0⟩], beatsR x, (by simp only [List.map_append, List.map_set]; rfl), by simp; omega, by omega⟩

theorem bl_next {s b : Int} : ∀ {n : Nat} {a : Int} {l : List Int}, bl s b n a = some l → (∀ (h : 0 < l.length), l[0] = a) ∧ ∀ (i : Nat) (h : i + 1 < l.length), l[i + 1] = nextA l[i] s b
  | 0, a, l, h => by simp [bl] at h; subst h; exact ⟨fun h => absurd h (by simp), fun i h => absurd h (by simp)⟩
  | n + 1, a, l, h => by
    simp only [bl] at h
    split at h
    · cases h
    · cases e : bl s b n (nextA a s b) with
      | none => rw [e] at h; cases h
      | some r =>
        rw [e] at h
        cases h
        obtain ⟨h1, h2⟩ := bl_next e
        refine ⟨fun _ => rfl, fun i hi => ?_⟩
        cases i with
        | zero => simp at hi ⊢; exact h1 hi
        | succ i => simp at hi ⊢; exact h2 i hi
theorem burstL_next {a s b : Int} {i : Nat} {x y : Int} (h1 : (burstL a s b)[i]? = some x) (h2 : (burstL a s b)[i + 1]? = some y) : y = nextA x s b := by
  unfold burstL at h1 h2
  cases e : bl s b (beats b).toNat a with
  | none => rw [e] at h1; simp at h1
  | some l =>
    rw [e] at h1 h2
    simp only [Option.getD_some] at h1 h2
    obtain ⟨g1, rfl⟩ := List.getElem?_eq_some_iff.1 h1
    obtain ⟨g2, rfl⟩ := List.getElem?_eq_some_iff.1 h2
    exact (bl_next e).2 i g2
theorem wantF {x : Req} (hok : x.ok = true) {i : Nat} {y : Done} (h : (beatsR x)[i]? = some y) : y.size = x.size ∧ (∀ v, x.write = true → x.data[i]? = some v → y.value = v) ∧ ∀ z, 0 < i → (beatsR x)[i - 1]? = some z → y.addr = nextA z.addr x.size x.burst := by
  have at' : ∀ {j : Nat} {u : Done}, (beatsR x)[j]? = some u → j < (burstL x.addr x.size x.burst).length ∧ u = bdAt x j := by
    intro j u hu
    unfold beatsR at hu
    rw [if_pos hok, List.getElem?_map] at hu
    cases e : (List.range (burstL x.addr x.size x.burst).length)[j]? with
    | none => rw [e] at hu; cases hu
    | some k =>
      rw [e] at hu
      obtain ⟨g1, g2⟩ := List.getElem?_eq_some_iff.1 e
      simp at g1 g2
      subst g2
      simp at hu
      exact ⟨g1, hu.symm⟩
  obtain ⟨h1, rfl⟩ := at' h
  refine ⟨rfl, fun v hw hv => ?_, fun z hi hz => ?_⟩
  · simp [bdAt, hw, hv]
  · obtain ⟨h2, rfl⟩ := at' hz
    obtain ⟨j, rfl⟩ : ∃ j, i = j + 1 := ⟨i - 1, by omega⟩
    simp only [Nat.add_sub_cancel] at *
    have e1 := List.getElem?_eq_getElem h2
    have e2 := List.getElem?_eq_getElem h1
    simp only [bdAt, e1, e2, Option.getD_some]
    exact burstL_next e1 e2
theorem want_pos {x : Req} (hok : x.ok = true) : 0 < (beatsR x).length ∧ ((beatsR x).length : Int) = beats x.burst ∧ (beatsR x).length = (burstL x.addr x.size x.burst).length := by
  have h1 := Req.ok_burst hok
  have h2 : (beatsR x).length = (burstL x.addr x.size x.burst).length := by simp [beatsR, hok]
  have h3 : burstOk x.addr x.size x.burst = true := by simp only [Req.ok, Bool.and_eq_true] at hok; exact hok.1.1
  refine ⟨?_, by omega, h2⟩
  simp only [burstOk, Bool.and_eq_true, decide_eq_true_eq] at h3
  omega
theorem zip_self_ok (l : List Done) : (l.zip l).all folOk = true := by
  induction l with
  | nil => rfl
  | cons a l ih => simp only [List.zip_cons_cons, List.all_cons, ih, Bool.and_true]; simp [folOk]
theorem fol_self (l : List Done) : follows l l = true := by unfold follows; rw [zip_self_ok]; simp
theorem fol_one (l : List Done) : follows (l.take 1) l = true := by
  unfold follows
  cases l with
  | nil => rfl
  | cons a l => simp [folOk]
theorem fol_two {l : List Done} (h : 0 < l.length) : follows (l ++ l) l = false := by
  unfold follows
  have : ¬ (l ++ l).length ≤ l.length := by simp; omega
  rw [decide_eq_false this]; rfl

theorem c_302 (code : List Int) (hw : code.length ≤ 140737488355328) : CV prg 302 [.sl 1 (code.map uR)] (fun res => res = .w (.bool true)) := by
  refine cv_in g302 ?_
  refine s_keep [0] rfl ?_
  refine S_seq ?_
  refine s_rg ?_
  refine s_op (o_mv rfl) ?_
  refine s_nilO ?_
  refine q_seqN ?_
  refine s_keep [0] rfl ?_
  refine S_seq ?_
  refine S_seq ?_
  refine s_rg ?_
  refine s_op (o_mv rfl) ?_
  refine s_call rfl rfl (c_123 _ (by assumption)) ?_
  refine s_nilO ?_
  refine q_seqN ?_
  refine s_keep [0, 9] rfl ?_
  first | refine s_condD rfl ?_ ?_ | refine s_condN rfl ?_ ?_ | refine s_condNB rfl ?_ ?_ | refine s_condB rfl ?_ ?_
  · intro h1
    try rw [Decidable.not_not] at h1
    try have hc : code.length ≤ 1048576 := by simp at h1; omega
    try (have hok : x.ok = true := by first | assumption | simp_all)
    try have hwp := want_pos hok
    refine S_seq ?_
    refine s_rg ?_
    refine s_op (o_mv rfl) ?_
    refine s_nilO ?_
    refine q_seqN ?_
    refine s_keep [2] rfl ?_
    refine s_ret ?_
    refine q_seqR ?_
    refine ret_leaf (.inr rfl) rfl rfl ?_
    refine congrArg (fun b => V.w (.bool b)) ?_
    first | rfl | (have hk : x.ok = false := (by assumption); simp [beatsR, hk]; done) | (simp_all [fol_self, fol_one, fol_two]; done) | (exfalso; simp_all [fol_self, fol_one, fol_two]; omega)
  · intro h1
    try rw [Decidable.not_not] at h1
    try have hc : code.length ≤ 1048576 := by simp at h1; omega
    try (have hok : x.ok = true := by first | assumption | simp_all)
    try have hwp := want_pos hok
    refine s_skip ?_
    refine q_seqN ?_
    refine s_keep [0] rfl ?_
    refine S_seq ?_
    refine s_rg ?_
    refine s_op (o_mv rfl) ?_
    refine s_callP rfl rfl (c_323 _ hc) ?_
    rintro u ⟨x, rfl, hx⟩
    have hxs : x.small := Nat.le_trans hx (by omega)
    refine s_op (o_new rfl rfl) ?_
    refine s_opN (o_stnC rfl rfl rfl rfl rfl rfl rfl) ?_
    refine s_nilO ?_
    refine q_seqN ?_
    refine s_keep [0, 3] rfl ?_
    refine S_seq ?_
    refine s_rg ?_
    refine s_op (o_ldnC rfl rfl rfl) ?_
    first | refine s_call rfl rfl (c_324 x hxs) ?_ | refine s_callL rfl rfl (by simp) (c_324 x hxs) rfl ?_
    have hb8 := beatsR_len x
    refine s_op (o_mv rfl) ?_
    refine s_nilO ?_
    refine q_seqN ?_
    refine s_keep [0, 3, 4] rfl ?_
    refine S_seq ?_
    refine S_seq ?_
    refine s_rg ?_
    refine s_op (o_ldnC rfl rfl rfl) ?_
    first | refine s_call rfl rfl (c_207 x hxs) ?_ | refine s_callL rfl rfl (by simp) (c_207 x hxs) rfl ?_
    refine s_op (o_not rfl) ?_
    refine s_nilO ?_
    refine q_seqN ?_
    refine s_keep [0, 3, 4, 16] rfl ?_
    first | refine s_condD rfl ?_ ?_ | refine s_condN rfl ?_ ?_ | refine s_condNB rfl ?_ ?_ | refine s_condB rfl ?_ ?_
    · intro h2
      try rw [Decidable.not_not] at h2
      try have hc : code.length ≤ 1048576 := by simp at h2; omega
      try (have hok : x.ok = true := by first | assumption | simp_all)
      try have hwp := want_pos hok
      refine S_seq ?_
      refine s_rg ?_
      refine s_op (o_mv rfl) ?_
      first | refine s_op (o_lenM rfl) ?_ | refine s_op (o_len rfl) ?_
      first | refine s_op (o_eql rfl rfl) ?_ | refine s_op (o_bin rfl rfl rfl rfl) ?_
      refine s_op (o_mv rfl) ?_
      refine s_nilO ?_
      refine q_seqN ?_
      refine s_keep [2] rfl ?_
      refine s_ret ?_
      refine q_seqR ?_
      refine ret_leaf (.inr rfl) rfl rfl ?_
      refine congrArg (fun b => V.w (.bool b)) ?_
      first | rfl | (have hk : x.ok = false := (by assumption); simp [beatsR, hk]; done) | (simp_all [fol_self, fol_one, fol_two]; done) | (exfalso; simp_all [fol_self, fol_one, fol_two]; omega)
    · intro h2
      try rw [Decidable.not_not] at h2
      try have hc : code.length ≤ 1048576 := by simp at h2; omega
      try (have hok : x.ok = true := by first | assumption | simp_all)
      try have hwp := want_pos hok
      refine s_skip ?_
      refine q_seqN ?_
      refine s_keep [0, 3, 4] rfl ?_
      refine S_seq ?_
      refine S_seq ?_
      refine s_rg ?_
      refine s_op (o_mv rfl) ?_
      first | refine s_op (o_lenM rfl) ?_ | refine s_op (o_len rfl) ?_
      refine s_op (o_faC rfl) ?_
      refine s_op (o_ldC rfl rfl rfl) ?_
      first | refine s_call rfl rfl (c_22 ..) ?_ | refine s_callL rfl rfl (by simp) (c_22 ..) rfl ?_
      first | refine s_op (o_neq rfl rfl) ?_ | refine s_op (o_bin rfl rfl rfl rfl) ?_
      refine s_op (o_mv rfl) ?_
      first | refine s_gDF rfl ?_ ?_ | refine s_gNDF rfl ?_ ?_ | refine s_gNF rfl ?_ ?_ | refine s_gB rfl ?_ ?_
      · intro h3
        try rw [Decidable.not_not] at h3
        try have hc : code.length ≤ 1048576 := by simp at h3; omega
        try (have hok : x.ok = true := by first | assumption | simp_all)
        try have hwp := want_pos hok
        refine s_op (o_mv rfl) ?_
        refine s_gT rfl ?_
        refine s_op (o_mv rfl) ?_
        refine s_gT rfl ?_
        refine s_call rfl rfl (c_46 (beatsR x) (beatsR x) (by omega)) ?_
        refine s_gT rfl ?_
        refine s_op (o_not rfl) ?_
        refine s_op (o_pickF rfl rfl) ?_
        refine s_op (o_mv rfl) ?_
        first | refine s_gDF rfl ?_ ?_ | refine s_gNDF rfl ?_ ?_ | refine s_gNF rfl ?_ ?_ | refine s_gB rfl ?_ ?_
        · intro h4
          try rw [Decidable.not_not] at h4
          try have hc : code.length ≤ 1048576 := by simp at h4; omega
          try (have hok : x.ok = true := by first | assumption | simp_all)
          try have hwp := want_pos hok
          refine s_op (o_mv rfl) ?_
          refine s_keepO (is := [0, 3, 4, 32, 33]) rfl ?_
          refine s_gT rfl ?_
          refine s_op (o_sl rfl rfl rfl (by have := hwp.1; simp; omega) (by have := hwp.1; simp; omega)) ?_
          refine s_gT rfl ?_
          refine s_op (o_mv rfl) ?_
          refine s_gT rfl ?_
          refine s_call rfl rfl (cv_cast (c_46 ((beatsR x).take 1) (beatsR x) (by rw [List.length_take]; omega)) (by simp [List.map_take])) ?_
          refine s_gT rfl ?_
          refine s_op (o_not rfl) ?_
          refine s_op (o_pickF rfl rfl) ?_
          refine s_op (o_mv rfl) ?_
          first | refine s_gDF rfl ?_ ?_ | refine s_gNDF rfl ?_ ?_ | refine s_gNF rfl ?_ ?_ | refine s_gB rfl ?_ ?_
          · intro h5
            try rw [Decidable.not_not] at h5
            try have hc : code.length ≤ 1048576 := by simp at h5; omega
            try (have hok : x.ok = true := by first | assumption | simp_all)
            try have hwp := want_pos hok
            refine s_op (o_bs rfl rfl rfl rfl) ?_
            refine s_gT rfl ?_
            refine s_op (o_mv rfl) ?_
            refine s_gT rfl ?_
            first | refine s_op (o_appL rfl rfl (by simp) rfl rfl rfl rfl (by simp [roomy]; omega)) ?_ | refine s_op (o_app rfl rfl (by simp) rfl rfl (by simp [roomy]; omega)) ?_
            refine s_gT rfl ?_
            refine s_op (o_mv rfl) ?_
            refine s_gT rfl ?_
            first | refine s_op (o_appL rfl rfl (by simp) rfl rfl rfl rfl (by simp [roomy]; omega)) ?_ | refine s_op (o_app rfl rfl (by simp) rfl rfl (by simp [roomy]; omega)) ?_
            refine s_gT rfl ?_
            refine s_op (o_mv rfl) ?_
            refine s_gT rfl ?_
            refine s_callL rfl rfl (by simp) (cv_cast (c_46 (beatsR x ++ beatsR x) (beatsR x) (by rw [List.length_append]; omega)) (by simp)) rfl ?_
            refine s_op (o_pickF rfl rfl) ?_
            refine s_nilO ?_
            refine q_seqN ?_
            refine s_keep [0, 3, 4, 47] rfl ?_
            first | refine s_condD rfl ?_ ?_ | refine s_condN rfl ?_ ?_ | refine s_condNB rfl ?_ ?_ | refine s_condB rfl ?_ ?_
            · intro h6
              try rw [Decidable.not_not] at h6
              try have hc : code.length ≤ 1048576 := by simp at h6; omega
              try (have hok : x.ok = true := by first | assumption | simp_all)
              try have hwp := want_pos hok
              refine S_seq ?_
              refine s_rg ?_
              refine s_op (o_mv rfl) ?_
              refine s_nilO ?_
              refine q_seqN ?_
              refine s_keep [2] rfl ?_
              refine s_ret ?_
              refine q_seqR ?_
              refine ret_leaf (.inr rfl) rfl rfl ?_
              refine congrArg (fun b => V.w (.bool b)) ?_
              first | rfl | (have hk : x.ok = false := (by assumption); simp [beatsR, hk]; done) | (simp_all [fol_self, fol_one, fol_two]; done) | (exfalso; simp_all [fol_self, fol_one, fol_two]; omega)
            · intro h6
              try rw [Decidable.not_not] at h6
              try have hc : code.length ≤ 1048576 := by simp at h6; omega
              try (have hok : x.ok = true := by first | assumption | simp_all)
              try have hwp := want_pos hok
              refine s_skip ?_
              refine q_seqN ?_
              refine s_keep [0, 3, 4] rfl ?_
              refine S_seq ?_
              refine S_seq ?_
              refine s_rg ?_
              refine s_op (o_mv rfl) ?_
              refine s_nilO ?_
              refine q_seqN ?_
              refine s_keep [0, 3, 4, 5] rfl ?_
              refine S_block ?_
              refine S_loop (ι := Nat) (fun i => i ≤ (beatsR x).length) (fun i => [(5, .w (.int .i64 (i : Int)))]) (fun i => [.cell x.r, .arr 7 ((beatsR x).map Done.r ++ (beatsR x).map Done.r)]) (fun i => (beatsR x).length - i) 2 0 (by simp) rfl (hasOf ⟨rfl, trivial⟩ rfl) rfl (fun _ _ => rfl) (fun _ _ => ⟨rfl, rfl⟩) ?_
              intro i hi
              refine s_keep [0, 3, 4, 5] rfl ?_
              refine S_seq ?_
              refine S_seq ?_
              refine s_rg ?_
              refine s_op (o_mv rfl) ?_
              refine s_op (o_mv rfl) ?_
              first | refine s_op (o_lenM rfl) ?_ | refine s_op (o_len rfl) ?_
              first | refine s_op (o_lss rfl rfl) ?_ | refine s_op (o_bin rfl rfl rfl rfl) ?_
              refine s_nilO ?_
              refine q_seqN ?_
              refine s_keep [0, 3, 4, 5, 51] rfl ?_
              first | refine s_condD rfl ?_ ?_ | refine s_condN rfl ?_ ?_ | refine s_condNB rfl ?_ ?_ | refine s_condB rfl ?_ ?_
              · intro h7
                try rw [Decidable.not_not] at h7
                try have hc : code.length ≤ 1048576 := by simp at h7; omega
                try (have hok : x.ok = true := by first | assumption | simp_all)
                try have hwp := want_pos hok
                refine s_skip ?_
                refine q_seqN ?_
                refine s_keep [0, 3, 4, 5] rfl ?_
                refine S_seq ?_
                refine S_block ?_
                refine S_seq ?_
                refine s_rg ?_
                refine s_op (o_mv rfl) ?_
                refine s_op (o_mv rfl) ?_
                refine s_iaM rfl rfl (by first | omega | (have := ok_data hok (by assumption); omega)) ?_
                intro y8 e8
                (try simp only [Int.toNat_natCast, Int.toNat_zero] at e8); (try rw [show ((i : Int) - 1).toNat = i - 1 by omega] at e8); (try have e8w := wantF hok e8)
                refine s_op (o_fa rfl) ?_
                refine s_op (o_ld rfl rfl) ?_
                refine s_op (o_faC rfl) ?_
                refine s_op (o_ldC rfl rfl rfl) ?_
                first | refine s_op (o_neq rfl rfl) ?_ | refine s_op (o_bin rfl rfl rfl rfl) ?_
                refine s_op (o_mv rfl) ?_
                first | refine s_gDF rfl ?_ ?_ | refine s_gNDF rfl ?_ ?_ | refine s_gNF rfl ?_ ?_ | refine s_gB rfl ?_ ?_
                · intro h9
                  try rw [Decidable.not_not] at h9
                  try have hc : code.length ≤ 1048576 := by simp at h9; omega
                  try (have hok : x.ok = true := by first | assumption | simp_all)
                  try have hwp := want_pos hok
                  refine s_op (o_faC rfl) ?_
                  refine s_gT rfl ?_
                  refine s_op (o_ldC rfl rfl rfl) ?_
                  refine s_gT rfl ?_
                  refine s_op (o_mv rfl) ?_
                  first | refine s_gDT rfl ?_ ?_ | refine s_gNDT rfl ?_ ?_ | refine s_gNT rfl ?_ ?_ | refine s_gB rfl ?_ ?_
                  · intro h10
                    try rw [Decidable.not_not] at h10
                    try have hc : code.length ≤ 1048576 := by simp at h10; omega
                    try (have hok : x.ok = true := by first | assumption | simp_all)
                    try have hwp := want_pos hok
                    refine s_op (o_mv rfl) ?_
                    refine s_gT rfl ?_
                    refine s_op (o_mv rfl) ?_
                    refine s_keepO (is := [0, 3, 4, 5, 62, 63, 64, 65, 66, 67]) rfl ?_
                    refine s_gT rfl ?_
                    refine s_iaM rfl rfl (by first | omega | (have := ok_data hok (by assumption); omega)) ?_
                    intro y11 e11
                    (try simp only [Int.toNat_natCast, Int.toNat_zero] at e11); (try rw [show ((i : Int) - 1).toNat = i - 1 by omega] at e11); (try have e11w := wantF hok e11)
                    refine s_gT rfl ?_
                    refine s_op (o_fa rfl) ?_
                    refine s_gT rfl ?_
                    refine s_op (o_ld rfl rfl) ?_
                    refine s_gT rfl ?_
                    refine s_op (o_faC rfl) ?_
                    refine s_gT rfl ?_
                    refine s_op (o_ldC rfl rfl rfl) ?_
                    refine s_gT rfl ?_
                    refine s_op (o_mv rfl) ?_
                    refine s_gT rfl ?_
                    refine s_iaM rfl rfl (by first | omega | (have := ok_data hok (by assumption); omega)) ?_
                    intro y12 e12
                    (try simp only [Int.toNat_natCast, Int.toNat_zero] at e12); (try rw [show ((i : Int) - 1).toNat = i - 1 by omega] at e12); (try have e12w := wantF hok e12)
                    refine s_gT rfl ?_
                    refine s_op (o_ld rfl rfl) ?_
                    refine s_gT rfl ?_
                    first | refine s_op (o_neq rfl rfl) ?_ | refine s_op (o_bin rfl rfl rfl rfl) ?_
                    refine s_gT rfl ?_
                    refine s_op (o_pickT rfl rfl) ?_
                    refine s_op (o_pickF rfl rfl) ?_
                    refine s_op (o_mv rfl) ?_
                    first | refine s_gDF rfl ?_ ?_ | refine s_gNDF rfl ?_ ?_ | refine s_gNF rfl ?_ ?_ | refine s_gB rfl ?_ ?_
                    · intro h13
                      try rw [Decidable.not_not] at h13
                      try have hc : code.length ≤ 1048576 := by simp at h13; omega
                      try (have hok : x.ok = true := by first | assumption | simp_all)
                      try have hwp := want_pos hok
                      refine s_op (o_mv rfl) ?_
                      refine s_gT rfl ?_
                      first | refine s_op (o_gtr rfl rfl) ?_ | refine s_op (o_bin rfl rfl rfl rfl) ?_
                      refine s_keepO (is := [0, 3, 4, 5, 63, 64, 65, 66, 67, 68, 69, 70, 71, 72, 73, 74, 75, 76, 77, 79, 80, 81]) rfl ?_
                      refine s_gT rfl ?_
                      refine s_op (o_mv rfl) ?_
                      first | refine s_gDT rfl ?_ ?_ | refine s_gNDT rfl ?_ ?_ | refine s_gNT rfl ?_ ?_ | refine s_gB rfl ?_ ?_
                      · intro h14
                        try rw [Decidable.not_not] at h14
                        try have hc : code.length ≤ 1048576 := by simp at h14; omega
                        try (have hok : x.ok = true := by first | assumption | simp_all)
                        try have hwp := want_pos hok
                        refine s_op (o_mv rfl) ?_
                        refine s_gT rfl ?_
                        refine s_op (o_mv rfl) ?_
                        refine s_gT rfl ?_
                        refine s_iaM rfl rfl (by first | omega | (have := ok_data hok (by assumption); omega)) ?_
                        intro y15 e15
                        (try simp only [Int.toNat_natCast, Int.toNat_zero] at e15); (try rw [show ((i : Int) - 1).toNat = i - 1 by omega] at e15); (try have e15w := wantF hok e15)
                        refine s_gT rfl ?_
                        refine s_op (o_fa rfl) ?_
                        refine s_gT rfl ?_
                        refine s_op (o_ld rfl rfl) ?_
                        refine s_gT rfl ?_
                        refine s_op (o_mv rfl) ?_
                        refine s_gT rfl ?_
                        refine s_op (o_mv rfl) ?_
                        refine s_gT rfl ?_
                        first | refine s_op (o_subn rfl rfl (by omega)) ?_ | refine s_op (o_sub rfl rfl) ?_
                        refine s_gT rfl ?_
                        refine s_iaM rfl rfl (by first | omega | (have := ok_data hok (by assumption); omega)) ?_
                        intro y16 e16
                        (try simp only [Int.toNat_natCast, Int.toNat_zero] at e16); (try rw [show ((i : Int) - 1).toNat = i - 1 by omega] at e16); (try have e16w := wantF hok e16)
                        refine s_gT rfl ?_
                        refine s_op (o_fa rfl) ?_
                        refine s_gT rfl ?_
                        refine s_op (o_ld rfl rfl) ?_
                        refine s_gT rfl ?_
                        refine s_op (o_faC rfl) ?_
                        refine s_gT rfl ?_
                        refine s_op (o_ldC rfl rfl rfl) ?_
                        refine s_keepO (is := [0, 3, 4, 5, 63, 64, 65, 66, 67, 68, 69, 70, 71, 72, 73, 74, 75, 76, 77, 79, 80, 81, 82, 83, 84, 85, 86, 87, 88, 89, 90, 91, 92, 93, 94, 95]) rfl ?_
                        refine s_gT rfl ?_
                        refine s_op (o_faC rfl) ?_
                        refine s_gT rfl ?_
                        refine s_op (o_ldC rfl rfl rfl) ?_
                        refine s_gT rfl ?_
                        first | refine s_call rfl rfl (c_205 ..) ?_ | refine s_callL rfl rfl (by simp) (c_205 ..) rfl ?_
                        refine s_gT rfl ?_
                        first | refine s_op (o_neq rfl rfl) ?_ | refine s_op (o_bin rfl rfl rfl rfl) ?_
                        refine s_gT rfl ?_
                        refine s_op (o_pickT rfl rfl) ?_
                        refine s_op (o_pickF rfl rfl) ?_
                        refine s_nilO ?_
                        refine q_seqN ?_
                        refine s_keep [0, 3, 4, 5, 63, 64, 65, 66, 67, 68, 69, 70, 71, 72, 73, 74, 75, 76, 77, 80, 81, 82, 83, 84, 85, 86, 87, 88, 89, 90, 91, 92, 93, 94, 95, 96, 97, 98, 99, 100, 101] rfl ?_
                        first | refine s_condD rfl ?_ ?_ | refine s_condN rfl ?_ ?_ | refine s_condNB rfl ?_ ?_ | refine s_condB rfl ?_ ?_
                        · intro h17
                          try rw [Decidable.not_not] at h17
                          try have hc : code.length ≤ 1048576 := by simp at h17; omega
                          try (have hok : x.ok = true := by first | assumption | simp_all)
                          try have hwp := want_pos hok
                          refine S_seq ?_
                          refine s_rg ?_
                          refine s_op (o_mv rfl) ?_
                          refine s_nilO ?_
                          refine q_seqN ?_
                          refine s_keep [2] rfl ?_
                          refine s_ret ?_
                          refine q_blkR ?_
                          refine q_seqR ?_
                          refine q_loopR ?_
                          refine q_blkR ?_
                          refine q_seqR ?_
                          refine ret_leaf (.inr rfl) rfl rfl ?_
                          refine congrArg (fun b => V.w (.bool b)) ?_
                          first | rfl | (have hk : x.ok = false := (by assumption); simp [beatsR, hk]; done) | (simp_all [fol_self, fol_one, fol_two]; done) | (exfalso; simp_all [fol_self, fol_one, fol_two]; omega)
                        · intro h17
                          try rw [Decidable.not_not] at h17
                          try have hc : code.length ≤ 1048576 := by simp at h17; omega
                          try (have hok : x.ok = true := by first | assumption | simp_all)
                          try have hwp := want_pos hok
                          refine s_skip ?_
                          refine q_blkN ?_
                          refine q_seqN ?_
                          refine s_keep [0, 3, 4, 5, 63, 64, 65, 66, 67, 68, 69, 70, 71, 72, 73, 74, 75, 76, 77, 80, 81, 82, 83, 84, 85, 86, 87, 88, 89, 90, 91, 92, 93, 94, 95, 96, 97, 98, 99, 100] rfl ?_
                          refine s_rg ?_
                          refine s_op (o_mv rfl) ?_
                          first | refine s_op (o_addn rfl rfl (by omega)) ?_ | refine s_op (o_add rfl rfl) ?_
                          refine s_op (o_mv rfl) ?_
                          refine s_nilO ?_
                          refine q_loopN ?_
                          exact ⟨i + 1, by omega, by omega, hasOf ⟨rfl, trivial⟩ rfl⟩
                      · intro h14
                        try rw [Decidable.not_not] at h14
                        try have hc : code.length ≤ 1048576 := by simp at h14; omega
                        try (have hok : x.ok = true := by first | assumption | simp_all)
                        try have hwp := want_pos hok
                        refine s_gF rfl ?_
                        refine s_gF rfl ?_
                        refine s_gF rfl ?_
                        refine s_gF rfl ?_
                        refine s_gF rfl ?_
                        refine s_gF rfl ?_
                        refine s_gF rfl ?_
                        refine s_gF rfl ?_
                        refine s_gF rfl ?_
                        refine s_gF rfl ?_
                        refine s_gF rfl ?_
                        refine s_gF rfl ?_
                        refine s_gF rfl ?_
                        refine s_keepO (is := [0, 3, 4, 5, 63, 64, 65, 66, 67, 68, 69, 70, 71, 72, 73, 74, 75, 76, 77, 79, 80, 81, 82, 83, 84, 85, 86, 87, 88, 89, 90, 91, 92, 93, 94, 95]) rfl ?_
                        refine s_gF rfl ?_
                        refine s_gF rfl ?_
                        refine s_gF rfl ?_
                        refine s_gF rfl ?_
                        refine s_gT rfl ?_
                        refine s_op (o_pickF rfl rfl) ?_
                        refine s_op (o_pickF rfl rfl) ?_
                        refine s_nilO ?_
                        refine q_seqN ?_
                        refine s_keep [0, 3, 4, 5, 63, 64, 65, 66, 67, 68, 69, 70, 71, 72, 73, 74, 75, 76, 77, 80, 81, 82, 83, 84, 85, 86, 87, 88, 89, 90, 91, 92, 93, 94, 95, 96, 97, 98, 99, 100, 101] rfl ?_
                        refine s_condF rfl ?_
                        refine s_skip ?_
                        refine q_blkN ?_
                        refine q_seqN ?_
                        refine s_keep [0, 3, 4, 5, 63, 64, 65, 66, 67, 68, 69, 70, 71, 72, 73, 74, 75, 76, 77, 80, 81, 82, 83, 84, 85, 86, 87, 88, 89, 90, 91, 92, 93, 94, 95, 96, 97, 98, 99, 100] rfl ?_
                        refine s_rg ?_
                        refine s_op (o_mv rfl) ?_
                        first | refine s_op (o_addn rfl rfl (by omega)) ?_ | refine s_op (o_add rfl rfl) ?_
                        refine s_op (o_mv rfl) ?_
                        refine s_nilO ?_
                        refine q_loopN ?_
                        exact ⟨i + 1, by omega, by omega, hasOf ⟨rfl, trivial⟩ rfl⟩
                    · intro h13
                      try rw [Decidable.not_not] at h13
                      try have hc : code.length ≤ 1048576 := by simp at h13; omega
                      try (have hok : x.ok = true := by first | assumption | simp_all)
                      try have hwp := want_pos hok
                      refine s_gF rfl ?_
                      refine s_gF rfl ?_
                      refine s_keepO (is := [0, 3, 4, 5, 63, 64, 65, 66, 67, 68, 69, 70, 71, 72, 73, 74, 75, 76, 77, 79, 80, 81]) rfl ?_
                      refine s_gF rfl ?_
                      refine s_gN rfl ?_
                      refine s_gN rfl ?_
                      refine s_gN rfl ?_
                      refine s_gN rfl ?_
                      refine s_gN rfl ?_
                      refine s_gN rfl ?_
                      refine s_gN rfl ?_
                      refine s_gN rfl ?_
                      refine s_gN rfl ?_
                      refine s_gN rfl ?_
                      refine s_gN rfl ?_
                      refine s_gN rfl ?_
                      refine s_gN rfl ?_
                      refine s_keepO (is := [0, 3, 4, 5, 63, 64, 65, 66, 67, 68, 69, 70, 71, 72, 73, 74, 75, 76, 77, 79, 80, 81, 82, 83, 84, 85, 86, 87, 88, 89, 90, 91, 92, 93, 94, 95]) rfl ?_
                      refine s_gN rfl ?_
                      refine s_gN rfl ?_
                      refine s_gN rfl ?_
                      refine s_gN rfl ?_
                      refine s_gF rfl ?_
                      refine s_op (o_pickT rfl rfl) ?_
                      refine s_nilO ?_
                      refine q_seqN ?_
                      refine s_keep [0, 3, 4, 5, 63, 64, 65, 66, 67, 68, 69, 70, 71, 72, 73, 74, 75, 76, 77, 80, 81, 82, 83, 84, 85, 86, 87, 88, 89, 90, 91, 92, 93, 94, 95, 96, 97, 98, 99, 100, 101] rfl ?_
                      refine s_condT rfl ?_
                      refine S_seq ?_
                      refine s_rg ?_
                      refine s_op (o_mv rfl) ?_
                      refine s_nilO ?_
                      refine q_seqN ?_
                      refine s_keep [2] rfl ?_
                      refine s_ret ?_
                      refine q_blkR ?_
                      refine q_seqR ?_
                      refine q_loopR ?_
                      refine q_blkR ?_
                      refine q_seqR ?_
                      refine ret_leaf (.inr rfl) rfl rfl ?_
                      refine congrArg (fun b => V.w (.bool b)) ?_
                      first | rfl | (have hk : x.ok = false := (by assumption); simp [beatsR, hk]; done) | (simp_all [fol_self, fol_one, fol_two]; done) | (exfalso; simp_all [fol_self, fol_one, fol_two]; omega)
                  · intro h10
                    try rw [Decidable.not_not] at h10
                    try have hc : code.length ≤ 1048576 := by simp at h10; omega
                    try (have hok : x.ok = true := by first | assumption | simp_all)
                    try have hwp := want_pos hok
                    refine s_gF rfl ?_
                    refine s_gF rfl ?_
                    refine s_keepO (is := [0, 3, 4, 5, 62, 63, 64, 65, 66, 67]) rfl ?_
                    refine s_gF rfl ?_
                    refine s_gF rfl ?_
                    refine s_gF rfl ?_
                    refine s_gF rfl ?_
                    refine s_gF rfl ?_
                    refine s_gF rfl ?_
                    refine s_gF rfl ?_
                    refine s_gF rfl ?_
                    refine s_gF rfl ?_
                    refine s_gT rfl ?_
                    refine s_op (o_pickF rfl rfl) ?_
                    refine s_op (o_pickF rfl rfl) ?_
                    refine s_op (o_mv rfl) ?_
                    refine s_gT rfl ?_
                    refine s_op (o_mv rfl) ?_
                    refine s_gT rfl ?_
                    first | refine s_op (o_gtr rfl rfl) ?_ | refine s_op (o_bin rfl rfl rfl rfl) ?_
                    refine s_keepO (is := [0, 3, 4, 5, 63, 64, 65, 66, 67, 68, 69, 70, 71, 72, 73, 74, 75, 76, 77, 79, 80, 81]) rfl ?_
                    refine s_gT rfl ?_
                    refine s_op (o_mv rfl) ?_
                    first | refine s_gDT rfl ?_ ?_ | refine s_gNDT rfl ?_ ?_ | refine s_gNT rfl ?_ ?_ | refine s_gB rfl ?_ ?_
                    · intro h18
                      try rw [Decidable.not_not] at h18
                      try have hc : code.length ≤ 1048576 := by simp at h18; omega
                      try (have hok : x.ok = true := by first | assumption | simp_all)
                      try have hwp := want_pos hok
                      refine s_op (o_mv rfl) ?_
                      refine s_gT rfl ?_
                      refine s_op (o_mv rfl) ?_
                      refine s_gT rfl ?_
                      refine s_iaM rfl rfl (by first | omega | (have := ok_data hok (by assumption); omega)) ?_
                      intro y19 e19
                      (try simp only [Int.toNat_natCast, Int.toNat_zero] at e19); (try rw [show ((i : Int) - 1).toNat = i - 1 by omega] at e19); (try have e19w := wantF hok e19)
                      refine s_gT rfl ?_
                      refine s_op (o_fa rfl) ?_
                      refine s_gT rfl ?_
                      refine s_op (o_ld rfl rfl) ?_
                      refine s_gT rfl ?_
                      refine s_op (o_mv rfl) ?_
                      refine s_gT rfl ?_
                      refine s_op (o_mv rfl) ?_
                      refine s_gT rfl ?_
                      first | refine s_op (o_subn rfl rfl (by omega)) ?_ | refine s_op (o_sub rfl rfl) ?_
                      refine s_gT rfl ?_
                      refine s_iaM rfl rfl (by first | omega | (have := ok_data hok (by assumption); omega)) ?_
                      intro y20 e20
                      (try simp only [Int.toNat_natCast, Int.toNat_zero] at e20); (try rw [show ((i : Int) - 1).toNat = i - 1 by omega] at e20); (try have e20w := wantF hok e20)
                      refine s_gT rfl ?_
                      refine s_op (o_fa rfl) ?_
                      refine s_gT rfl ?_
                      refine s_op (o_ld rfl rfl) ?_
                      refine s_gT rfl ?_
                      refine s_op (o_faC rfl) ?_
                      refine s_gT rfl ?_
                      refine s_op (o_ldC rfl rfl rfl) ?_
                      refine s_keepO (is := [0, 3, 4, 5, 63, 64, 65, 66, 67, 68, 69, 70, 71, 72, 73, 74, 75, 76, 77, 79, 80, 81, 82, 83, 84, 85, 86, 87, 88, 89, 90, 91, 92, 93, 94, 95]) rfl ?_
                      refine s_gT rfl ?_
                      refine s_op (o_faC rfl) ?_
                      refine s_gT rfl ?_
                      refine s_op (o_ldC rfl rfl rfl) ?_
                      refine s_gT rfl ?_
                      first | refine s_call rfl rfl (c_205 ..) ?_ | refine s_callL rfl rfl (by simp) (c_205 ..) rfl ?_
                      refine s_gT rfl ?_
                      first | refine s_op (o_neq rfl rfl) ?_ | refine s_op (o_bin rfl rfl rfl rfl) ?_
                      refine s_gT rfl ?_
                      refine s_op (o_pickT rfl rfl) ?_
                      refine s_op (o_pickF rfl rfl) ?_
                      refine s_nilO ?_
                      refine q_seqN ?_
                      refine s_keep [0, 3, 4, 5, 63, 64, 65, 66, 67, 68, 69, 70, 71, 72, 73, 74, 75, 76, 77, 80, 81, 82, 83, 84, 85, 86, 87, 88, 89, 90, 91, 92, 93, 94, 95, 96, 97, 98, 99, 100, 101] rfl ?_
                      first | refine s_condD rfl ?_ ?_ | refine s_condN rfl ?_ ?_ | refine s_condNB rfl ?_ ?_ | refine s_condB rfl ?_ ?_
                      · intro h21
                        try rw [Decidable.not_not] at h21
                        try have hc : code.length ≤ 1048576 := by simp at h21; omega
                        try (have hok : x.ok = true := by first | assumption | simp_all)
                        try have hwp := want_pos hok
                        refine S_seq ?_
                        refine s_rg ?_
                        refine s_op (o_mv rfl) ?_
                        refine s_nilO ?_
                        refine q_seqN ?_
                        refine s_keep [2] rfl ?_
                        refine s_ret ?_
                        refine q_blkR ?_
                        refine q_seqR ?_
                        refine q_loopR ?_
                        refine q_blkR ?_
                        refine q_seqR ?_
                        refine ret_leaf (.inr rfl) rfl rfl ?_
                        refine congrArg (fun b => V.w (.bool b)) ?_
                        first | rfl | (have hk : x.ok = false := (by assumption); simp [beatsR, hk]; done) | (simp_all [fol_self, fol_one, fol_two]; done) | (exfalso; simp_all [fol_self, fol_one, fol_two]; omega)
                      · intro h21
                        try rw [Decidable.not_not] at h21
                        try have hc : code.length ≤ 1048576 := by simp at h21; omega
                        try (have hok : x.ok = true := by first | assumption | simp_all)
                        try have hwp := want_pos hok
                        refine s_skip ?_
                        refine q_blkN ?_
                        refine q_seqN ?_
                        refine s_keep [0, 3, 4, 5, 63, 64, 65, 66, 67, 68, 69, 70, 71, 72, 73, 74, 75, 76, 77, 80, 81, 82, 83, 84, 85, 86, 87, 88, 89, 90, 91, 92, 93, 94, 95, 96, 97, 98, 99, 100] rfl ?_
                        refine s_rg ?_
                        refine s_op (o_mv rfl) ?_
                        first | refine s_op (o_addn rfl rfl (by omega)) ?_ | refine s_op (o_add rfl rfl) ?_
                        refine s_op (o_mv rfl) ?_
                        refine s_nilO ?_
                        refine q_loopN ?_
                        exact ⟨i + 1, by omega, by omega, hasOf ⟨rfl, trivial⟩ rfl⟩
                    · intro h18
                      try rw [Decidable.not_not] at h18
                      try have hc : code.length ≤ 1048576 := by simp at h18; omega
                      try (have hok : x.ok = true := by first | assumption | simp_all)
                      try have hwp := want_pos hok
                      refine s_gF rfl ?_
                      refine s_gF rfl ?_
                      refine s_gF rfl ?_
                      refine s_gF rfl ?_
                      refine s_gF rfl ?_
                      refine s_gF rfl ?_
                      refine s_gF rfl ?_
                      refine s_gF rfl ?_
                      refine s_gF rfl ?_
                      refine s_gF rfl ?_
                      refine s_gF rfl ?_
                      refine s_gF rfl ?_
                      refine s_gF rfl ?_
                      refine s_keepO (is := [0, 3, 4, 5, 63, 64, 65, 66, 67, 68, 69, 70, 71, 72, 73, 74, 75, 76, 77, 79, 80, 81, 82, 83, 84, 85, 86, 87, 88, 89, 90, 91, 92, 93, 94, 95]) rfl ?_
                      refine s_gF rfl ?_
                      refine s_gF rfl ?_
                      refine s_gF rfl ?_
                      refine s_gF rfl ?_
                      refine s_gT rfl ?_
                      refine s_op (o_pickF rfl rfl) ?_
                      refine s_op (o_pickF rfl rfl) ?_
                      refine s_nilO ?_
                      refine q_seqN ?_
                      refine s_keep [0, 3, 4, 5, 63, 64, 65, 66, 67, 68, 69, 70, 71, 72, 73, 74, 75, 76, 77, 80, 81, 82, 83, 84, 85, 86, 87, 88, 89, 90, 91, 92, 93, 94, 95, 96, 97, 98, 99, 100, 101] rfl ?_
                      refine s_condF rfl ?_
                      refine s_skip ?_
                      refine q_blkN ?_
                      refine q_seqN ?_
                      refine s_keep [0, 3, 4, 5, 63, 64, 65, 66, 67, 68, 69, 70, 71, 72, 73, 74, 75, 76, 77, 80, 81, 82, 83, 84, 85, 86, 87, 88, 89, 90, 91, 92, 93, 94, 95, 96, 97, 98, 99, 100] rfl ?_
                      refine s_rg ?_
                      refine s_op (o_mv rfl) ?_
                      first | refine s_op (o_addn rfl rfl (by omega)) ?_ | refine s_op (o_add rfl rfl) ?_
                      refine s_op (o_mv rfl) ?_
                      refine s_nilO ?_
                      refine q_loopN ?_
                      exact ⟨i + 1, by omega, by omega, hasOf ⟨rfl, trivial⟩ rfl⟩
                · intro h9
                  try rw [Decidable.not_not] at h9
                  try have hc : code.length ≤ 1048576 := by simp at h9; omega
                  try (have hok : x.ok = true := by first | assumption | simp_all)
                  try have hwp := want_pos hok
                  refine s_gF rfl ?_
                  refine s_gF rfl ?_
                  refine s_gF rfl ?_
                  refine s_gN rfl ?_
                  refine s_gN rfl ?_
                  refine s_keepO (is := [0, 3, 4, 5, 62, 63, 64, 65, 66, 67]) rfl ?_
                  refine s_gN rfl ?_
                  refine s_gN rfl ?_
                  refine s_gN rfl ?_
                  refine s_gN rfl ?_
                  refine s_gN rfl ?_
                  refine s_gN rfl ?_
                  refine s_gN rfl ?_
                  refine s_gN rfl ?_
                  refine s_gN rfl ?_
                  refine s_gF rfl ?_
                  refine s_op (o_pickT rfl rfl) ?_
                  refine s_op (o_mv rfl) ?_
                  refine s_gF rfl ?_
                  refine s_gF rfl ?_
                  refine s_keepO (is := [0, 3, 4, 5, 63, 64, 65, 66, 67, 68, 69, 70, 71, 72, 73, 74, 75, 76, 77, 79, 80, 81]) rfl ?_
                  refine s_gF rfl ?_
                  refine s_gN rfl ?_
                  refine s_gN rfl ?_
                  refine s_gN rfl ?_
                  refine s_gN rfl ?_
                  refine s_gN rfl ?_
                  refine s_gN rfl ?_
                  refine s_gN rfl ?_
                  refine s_gN rfl ?_
                  refine s_gN rfl ?_
                  refine s_gN rfl ?_
                  refine s_gN rfl ?_
                  refine s_gN rfl ?_
                  refine s_gN rfl ?_
                  refine s_keepO (is := [0, 3, 4, 5, 63, 64, 65, 66, 67, 68, 69, 70, 71, 72, 73, 74, 75, 76, 77, 79, 80, 81, 82, 83, 84, 85, 86, 87, 88, 89, 90, 91, 92, 93, 94, 95]) rfl ?_
                  refine s_gN rfl ?_
                  refine s_gN rfl ?_
                  refine s_gN rfl ?_
                  refine s_gN rfl ?_
                  refine s_gF rfl ?_
                  refine s_op (o_pickT rfl rfl) ?_
                  refine s_nilO ?_
                  refine q_seqN ?_
                  refine s_keep [0, 3, 4, 5, 63, 64, 65, 66, 67, 68, 69, 70, 71, 72, 73, 74, 75, 76, 77, 80, 81, 82, 83, 84, 85, 86, 87, 88, 89, 90, 91, 92, 93, 94, 95, 96, 97, 98, 99, 100, 101] rfl ?_
                  refine s_condT rfl ?_
                  refine S_seq ?_
                  refine s_rg ?_
                  refine s_op (o_mv rfl) ?_
                  refine s_nilO ?_
                  refine q_seqN ?_
                  refine s_keep [2] rfl ?_
                  refine s_ret ?_
                  refine q_blkR ?_
                  refine q_seqR ?_
                  refine q_loopR ?_
                  refine q_blkR ?_
                  refine q_seqR ?_
                  refine ret_leaf (.inr rfl) rfl rfl ?_
                  refine congrArg (fun b => V.w (.bool b)) ?_
                  first | rfl | (have hk : x.ok = false := (by assumption); simp [beatsR, hk]; done) | (simp_all [fol_self, fol_one, fol_two]; done) | (exfalso; simp_all [fol_self, fol_one, fol_two]; omega)
              · intro h7
                try rw [Decidable.not_not] at h7
                try have hc : code.length ≤ 1048576 := by simp at h7; omega
                try (have hok : x.ok = true := by first | assumption | simp_all)
                try have hwp := want_pos hok
                refine s_exit ?_
                refine q_seqX ?_
                refine q_loopX ?_
                refine q_blkH ?_
                refine q_seqN ?_
                refine s_keep [0] rfl ?_
                refine S_seq ?_
                refine s_rg ?_
                refine s_op (o_mv rfl) ?_
                refine s_callP rfl rfl (c_325 _ hc) ?_
                rintro u ⟨a, b, rfl, ha, hb⟩
                refine s_op (o_mv rfl) ?_
                refine s_op (o_ext rfl rfl) ?_
                refine s_op (o_ext rfl rfl) ?_
                refine s_op (o_mv rfl) ?_
                refine s_op (o_mv rfl) ?_
                refine s_nilO ?_
                refine q_seqN ?_
                refine s_keep [6, 7] rfl ?_
                refine S_seq ?_
                refine s_rg ?_
                refine s_op (o_mv rfl) ?_
                refine s_op (o_mv rfl) ?_
                first | refine s_call rfl rfl (c_46 a b (by omega)) ?_ | refine s_callL rfl rfl (by simp) (c_46 a b (by omega)) rfl ?_
                refine s_op (o_mv rfl) ?_
                refine s_op (o_mv rfl) ?_
                first | refine s_call rfl rfl (c_198 a b (by omega)) ?_ | refine s_callL rfl rfl (by simp) (c_198 a b (by omega)) rfl ?_
                refine s_op (o_eqb rfl rfl) ?_
                refine s_op (o_mv rfl) ?_
                refine s_nilO ?_
                refine q_seqN ?_
                refine s_keep [2] rfl ?_
                refine s_ret ?_
                refine ret_leaf (.inr rfl) rfl rfl ?_
                refine congrArg (fun b => V.w (.bool b)) ?_
                first | rfl | (have hk : x.ok = false := (by assumption); simp [beatsR, hk]; done) | (simp_all [fol_self, fol_one, fol_two]; done) | (exfalso; simp_all [fol_self, fol_one, fol_two]; omega)
          · intro h5
            try rw [Decidable.not_not] at h5
            try have hc : code.length ≤ 1048576 := by simp at h5; omega
            try (have hok : x.ok = true := by first | assumption | simp_all)
            try have hwp := want_pos hok
            refine s_gF rfl ?_
            refine s_gF rfl ?_
            refine s_gF rfl ?_
            refine s_gF rfl ?_
            refine s_gF rfl ?_
            refine s_gF rfl ?_
            refine s_gF rfl ?_
            refine s_op (o_pickT rfl rfl) ?_
            refine s_nilO ?_
            refine q_seqN ?_
            refine s_keep [0, 3, 4, 47] rfl ?_
            refine s_condT rfl ?_
            refine S_seq ?_
            refine s_rg ?_
            refine s_op (o_mv rfl) ?_
            refine s_nilO ?_
            refine q_seqN ?_
            refine s_keep [2] rfl ?_
            refine s_ret ?_
            refine q_seqR ?_
            refine ret_leaf (.inr rfl) rfl rfl ?_
            refine congrArg (fun b => V.w (.bool b)) ?_
            first | rfl | (have hk : x.ok = false := (by assumption); simp [beatsR, hk]; done) | (simp_all [fol_self, fol_one, fol_two]; done) | (exfalso; simp_all [fol_self, fol_one, fol_two]; omega)
        · intro h4
          try rw [Decidable.not_not] at h4
          try have hc : code.length ≤ 1048576 := by simp at h4; omega
          try (have hok : x.ok = true := by first | assumption | simp_all)
          try have hwp := want_pos hok
          refine s_gF rfl ?_
          refine s_keepO (is := [0, 3, 4, 32, 33]) rfl ?_
          refine s_gF rfl ?_
          refine s_gF rfl ?_
          refine s_gF rfl ?_
          refine s_gF rfl ?_
          refine s_op (o_pickT rfl rfl) ?_
          refine s_op (o_mv rfl) ?_
          refine s_gF rfl ?_
          refine s_gF rfl ?_
          refine s_gF rfl ?_
          refine s_gF rfl ?_
          refine s_gF rfl ?_
          refine s_gF rfl ?_
          refine s_gF rfl ?_
          refine s_op (o_pickT rfl rfl) ?_
          refine s_nilO ?_
          refine q_seqN ?_
          refine s_keep [0, 3, 4, 47] rfl ?_
          refine s_condT rfl ?_
          refine S_seq ?_
          refine s_rg ?_
          refine s_op (o_mv rfl) ?_
          refine s_nilO ?_
          refine q_seqN ?_
          refine s_keep [2] rfl ?_
          refine s_ret ?_
          refine q_seqR ?_
          refine ret_leaf (.inr rfl) rfl rfl ?_
          refine congrArg (fun b => V.w (.bool b)) ?_
          first | rfl | (have hk : x.ok = false := (by assumption); simp [beatsR, hk]; done) | (simp_all [fol_self, fol_one, fol_two]; done) | (exfalso; simp_all [fol_self, fol_one, fol_two]; omega)
      · intro h3
        try rw [Decidable.not_not] at h3
        try have hc : code.length ≤ 1048576 := by simp at h3; omega
        try (have hok : x.ok = true := by first | assumption | simp_all)
        try have hwp := want_pos hok
        refine s_gF rfl ?_
        refine s_gF rfl ?_
        refine s_gF rfl ?_
        refine s_gF rfl ?_
        refine s_op (o_pickT rfl rfl) ?_
        refine s_op (o_mv rfl) ?_
        refine s_gF rfl ?_
        refine s_keepO (is := [0, 3, 4, 32, 33]) rfl ?_
        refine s_gF rfl ?_
        refine s_gF rfl ?_
        refine s_gF rfl ?_
        refine s_gF rfl ?_
        refine s_op (o_pickT rfl rfl) ?_
        refine s_op (o_mv rfl) ?_
        refine s_gF rfl ?_
        refine s_gF rfl ?_
        refine s_gF rfl ?_
        refine s_gF rfl ?_
        refine s_gF rfl ?_
        refine s_gF rfl ?_
        refine s_gF rfl ?_
        refine s_op (o_pickT rfl rfl) ?_
        refine s_nilO ?_
        refine q_seqN ?_
        refine s_keep [0, 3, 4, 47] rfl ?_
        refine s_condT rfl ?_
        refine S_seq ?_
        refine s_rg ?_
        refine s_op (o_mv rfl) ?_
        refine s_nilO ?_
        refine q_seqN ?_
        refine s_keep [2] rfl ?_
        refine s_ret ?_
        refine q_seqR ?_
        refine ret_leaf (.inr rfl) rfl rfl ?_
        refine congrArg (fun b => V.w (.bool b)) ?_
        first | rfl | (have hk : x.ok = false := (by assumption); simp [beatsR, hk]; done) | (simp_all [fol_self, fol_one, fol_two]; done) | (exfalso; simp_all [fol_self, fol_one, fol_two]; omega)

end Go.Proofs.Ytdlkgdlefbabcaa.AL
