/- What functions do with plain data, each by the form of its code. Printed by program. -/
import Derived.Test.YtoppcdecolponaaGreatDoorCReqs1
namespace Go.Proofs.YtoppcdecolponaaGreatDoor.AL
open Go
set_option linter.unusedVariables false
set_option linter.unusedSimpArgs false
set_option maxRecDepth 4096
theorem cg_454 (s : List UInt8) (hs : s.length ≤ 1048576) : GV prg 454 [] [.w (.string ⟨(s).toArray⟩)] (fun u L1 => u = .tup [.agg [.w (.bool (readQ s).1.write), .w (.int .i64 (readQ s).1.addr), .w (.int .i64 (readQ s).1.size), .w (.int .i64 (readQ s).1.burst), .w (.bool (readQ s).1.lock), .ls 0 (readQ s).1.data.length], .w (.bool (readQ s).2)] ∧ L1 = [.arr 1 ((readQ s).1.data.map iR)]) := by
 refine gv_in g454 (Eb [0] rfl (Ef (Eg (Ea (o_new rfl rfl) (Ea (Ee rfl) (Ed (Ec (Eb [0, 2] rfl (Ef (Eg (Ea (Ee rfl) ?_)))))))))))
 refine Fc [] rfl rfl rfl rfl (by simp) (.inl rfl) (cg_463 s hs 32) ?_
 rintro u L1 ⟨rfl, rfl⟩
 refine ⟨_, _, rfl, rfl, ?_⟩
 refine s_frz 1 12 rfl (by simp) rfl rfl (by simp) rfl (Ea (Ee rfl) (Ed (Ec (Eb [0, 2, 4] rfl (Ef (Ef (Eg (Ea (Ee rfl) ?_))))))))
 first | refine Ea (o_lenM rfl) ?_ | refine Ea (o_len rfl) ?_
 refine Ea (o_lss rfl rfl) (Ed (Ec (Eb [0, 2, 4, 15] rfl ?_)))
 first | refine Em rfl ?_ ?_ | refine Ek rfl ?_ ?_
 intro h1
 try rw [nnp] at h1
 first | (have h4 : ¬ ((cutL 32 s).length : Int) < 4 := h1; obtain ⟨u0, u1, u2, u3, xs, ee⟩ := four_of h4; obtain ⟨hcw, hxl⟩ := cut_four hs ee; rw [ee]) | skip
 refine Ef (Eg (Ea (o_bd rfl rfl) (s_opN (o_stnC rfl rfl rfl rfl rfl rfl rfl) (Ea (Ee rfl) (Ed (Ec (Eb [2, 3] rfl ?_)))))))
 first | refine s_nilC 0 5 1 rfl rfl rfl rfl rfl ?_ | skip
 refine Ej (Eu ?_)
 · first | (have hq : readQ s = (zR, false) := (by first | exact rq_few (by assumption) | exact riq_num ee hn (by assumption) | exact Ez ee hg (by assumption) | exact riq_ok ee hR.1 hg hn (by assumption) | exact riq_no ee hR.1 hg hn (by assumption)); refine Ei [2] (.inr rfl) rfl rfl rfl rfl (show (List.range 0 ++ [2]).Nodup by decide) ?_; rw [hq]; exact ⟨rfl, rfl⟩) | (have hq : readQ s = (zR, false) := (by first | exact rq_few (by assumption) | exact riq_num ee hn (by assumption) | exact Ez ee hg (by assumption) | exact riq_ok ee hR.1 hg hn (by assumption) | exact riq_no ee hR.1 hg hn (by assumption)); refine Ei [3] (.inr rfl) rfl rfl rfl rfl (show (List.range 0 ++ [3]).Nodup by decide) ?_; rw [hq]; exact ⟨rfl, rfl⟩) | (have hq : readQ s = (zR, false) := (by first | exact rq_few (by assumption) | exact riq_num ee hn (by assumption) | exact Ez ee hg (by assumption) | exact riq_ok ee hR.1 hg hn (by assumption) | exact riq_no ee hR.1 hg hn (by assumption)); refine Ei [4] (.inr rfl) rfl rfl rfl rfl (show (List.range 0 ++ [4]).Nodup by decide) ?_; rw [hq]; exact ⟨rfl, rfl⟩) | (refine Ei [3] (.inr rfl) rfl rfl rfl rfl (show (List.range 0 ++ [3]).Nodup by decide) ?_; rw [riq_yes ee hR.1 hg hn (by assumption) (by assumption)]; refine ⟨?_, rfl⟩; rw [show ws.length = (ws.map fN).length from (List.length_map ..).symm])
 intro h1
 try rw [nnp] at h1
 first | (have h4 : ¬ ((cutL 32 s).length : Int) < 4 := h1; obtain ⟨u0, u1, u2, u3, xs, ee⟩ := four_of h4; obtain ⟨hcw, hxl⟩ := cut_four hs ee; rw [ee]) | skip
 refine Et (Ec (Eb [0, 2, 4] rfl (Ef (Eg (Ea (Ee rfl) (s_iaM rfl rfl (by simp at *; omega) ?_))))))
 intro y2 e2
 first | (obtain rfl := Option.some.inj e2) | (simp only [Int.toNat_natCast] at e2) | skip
 refine Ea (o_ld rfl rfl) (Ea (o_eqls rfl rfl) (Ew rfl rfl c_465 (Ea (Ee rfl) (s_iaM rfl rfl (by simp at *; omega) ?_))))
 intro y3 e3
 first | (obtain rfl := Option.some.inj e3) | (simp only [Int.toNat_natCast] at e3) | skip
 refine Ea (o_ld rfl rfl) ?_
 first | refine Ew rfl rfl (c_464 szN _ (by decide)) ?_ | refine Fa rfl rfl (by simp) (c_464 szN _ (by decide)) rfl ?_
 refine Ew rfl rfl c_466 (Ea (Ee rfl) (s_iaM rfl rfl (by simp at *; omega) ?_))
 intro y4 e4
 first | (obtain rfl := Option.some.inj e4) | (simp only [Int.toNat_natCast] at e4) | skip
 refine Ea (o_ld rfl rfl) ?_
 first | refine Ew rfl rfl (c_464 bstN _ (by decide)) ?_ | refine Fa rfl rfl (by simp) (c_464 bstN _ (by decide)) rfl ?_
 refine Fd (is := [0, 2, 4, 20, 25, 30]) rfl (Ea (o_bd rfl rfl) (Ea (Ee rfl) (Ea (o_sl rfl rfl rfl (by first | (simp; done) | (simp; omega) | (have hx1 := some_pos (by assumption); simp; omega)) (by first | (simp; done) | (simp; omega) | (have hx1 := some_pos (by assumption); simp; omega))) ?_)))
 rw [sl4]
 refine s_newH rfl rfl (h_stn rfl rfl rfl rfl rfl (h_bar rfl (Ea (Ee rfl) (Ed (Ec (Eb [0, 2, 4, 5, 6] rfl (Ef (Ef (Eg (Ea (Ee rfl) ?_))))))))))
 first | refine Ea (o_lenM rfl) ?_ | refine Ea (o_len rfl) ?_
 refine Ea (o_gtr rfl rfl) (Ea (Ee rfl) ?_)
 first | refine s_gDT rfl ?_ ?_ | refine s_gB rfl ?_ ?_
 intro h5
 try rw [nnp] at h5
 first | (have h4 : ¬ ((cutL 32 s).length : Int) < 4 := h5; obtain ⟨u0, u1, u2, u3, xs, ee⟩ := four_of h4; obtain ⟨hcw, hxl⟩ := cut_four hs ee; rw [ee]) | skip
 refine Ea (Ee rfl) (Ev rfl (s_iaM rfl rfl (by simp at *; omega) ?_))
 intro y6 e6
 first | (obtain rfl := Option.some.inj e6) | (simp only [Int.toNat_natCast] at e6) | skip
 refine Ev rfl (Ea (o_ld rfl rfl) (Ev rfl (Ea (o_eqls rfl rfl) (Ea (Er rfl rfl) (Ed (Ec (Eb [0, 2, 4, 5, 6, 42] rfl ?_)))))))
 first | refine Em rfl ?_ ?_ | refine Ek rfl ?_ ?_
 intro h7
 try rw [nnp] at h7
 first | (have h4 : ¬ ((cutL 32 s).length : Int) < 4 := h7; obtain ⟨u0, u1, u2, u3, xs, ee⟩ := four_of h4; obtain ⟨hcw, hxl⟩ := cut_four hs ee; rw [ee]) | skip
 refine s_rgH [2] rfl (h_op (Ee rfl) rfl (h_op (o_sl rfl rfl rfl (by first | (simp; done) | (simp; omega) | (have hx1 := some_pos (by assumption); simp; omega)) (by first | (simp; done) | (simp; omega) | (have hx1 := some_pos (by assumption); simp; omega))) rfl ?_))
 rw [sl1]
 refine h_op (Ep rfl) rfl (h_sts rfl rfl rfl rfl (h_bar rfl (Ea (Ee rfl) (Ed (Ec (Eb [0, 2, 4, 5, 6] rfl (Ef (Eg (Ea (Ee rfl) (s_iaM rfl rfl (by simp at *; omega) ?_))))))))))
 intro y8 e8
 first | (obtain rfl := Option.some.inj e8) | (simp only [Int.toNat_natCast] at e8) | skip
 refine Ea (o_ld rfl rfl) ?_
 first | refine Ew rfl rfl (cn_408 _ 18 (by have := hcw u3 (by simp); omega)) ?_ | refine Fa rfl rfl (by simp) (cn_408 _ 18 (by have := hcw u3 (by simp); omega)) rfl ?_
 obtain ⟨a, one, hn⟩ : ∃ a b, numN u3 18 = (a, b) := ⟨_, _, rfl⟩
 rw [hn]
 refine Ea (Ee rfl) (Ea (o_ext rfl rfl) (Ea (o_ext rfl rfl) (Ea (Ee rfl) (Ea (Ee rfl) (Ed (Ec (Eb [0, 2, 5, 6, 7, 8] rfl (Ef (Eg ?_)))))))))
 first | have hR := lk_t (xs := xs) (by assumption) (by assumption) | have hR := lk_f (xs := xs) (by assumption) (by assumption) | have hR := lk_n (xs := xs) (by assumption)
 rw [← hR.2]
 obtain ⟨ws, hg⟩ : ∃ ws, restL xs = ws := ⟨_, rfl⟩
 rw [hg]
 have hrm := rest_mem hg
 refine Ea (Ee rfl) (Fc [] rfl rfl rfl rfl (by simp) (.inl rfl) (cg_467 ws (by omega) (fun w hw => hcw _ (by simp [hrm.1 _ hw]))) ?_)
 rintro u L1 (⟨hall, rfl, rfl⟩ | ⟨hall, rfl, rfl⟩)
 refine ⟨_, _, rfl, rfl, ?_⟩
 refine Ea (Ee rfl) (Ea (o_ext rfl rfl) (Ea (o_ext rfl rfl) (Ea (Ee rfl) (Ea (Ee rfl) (Ed (Ec (Eb [0, 2, 5, 7, 8, 9, 10] rfl (Ef (Eg (Ea (Ee rfl) (Ea (Ee rfl) ?_)))))))))))
 refine Ea (Ep rfl) (s_opN (o_stC rfl rfl rfl rfl rfl rfl) (Ea (Ep rfl) (s_opN (o_stC rfl rfl rfl rfl rfl rfl) (Ed (Ec (Eb [0, 2, 5, 8, 10] rfl (Ef (Ef (Eg (Ea (Ee rfl) (Ea (o_not rfl) ?_)))))))))))
 refine Ea (Ee rfl) ?_
 first | refine s_gDF rfl ?_ ?_ | refine s_gNDF rfl ?_ ?_ | refine s_gNF rfl ?_ ?_ | refine s_gB rfl ?_ ?_
 intro h9
 try rw [nnp] at h9
 first | (have h4 : ¬ ((cutL 32 s).length : Int) < 4 := h9; obtain ⟨u0, u1, u2, u3, xs, ee⟩ := four_of h4; obtain ⟨hcw, hxl⟩ := cut_four hs ee; rw [ee]) | skip
 refine Ea (Ee rfl) (Ev rfl (Ea (o_not rfl) (Ea (En rfl rfl) (Ea (Ee rfl) (Ev rfl (Ea (o_ldnC rfl rfl rfl) (Ev rfl ?_)))))))
 first | refine Ew rfl rfl (c_66 ⟨decide (u0 = [119, 114, 105, 116, 101]), a, idxS szN u1, idxS bstN u2, _, ws.map fN⟩ (by show (ws.map fN).length ≤ 1048576; rw [List.length_map]; omega)) ?_ | refine Fa rfl rfl (by simp) (c_66 ⟨decide (u0 = [119, 114, 105, 116, 101]), a, idxS szN u1, idxS bstN u2, _, ws.map fN⟩ (by show (ws.map fN).length ≤ 1048576; rw [List.length_map]; omega)) rfl ?_
 refine Ev rfl (Ea (o_not rfl) (Ea (En rfl rfl) (Ea (Ee rfl) ?_)))
 first | refine s_gDF rfl ?_ ?_ | refine s_gNDF rfl ?_ ?_ | refine s_gNF rfl ?_ ?_ | refine s_gB rfl ?_ ?_
 intro h10
 try rw [nnp] at h10
 first | (have h4 : ¬ ((cutL 32 s).length : Int) < 4 := h10; obtain ⟨u0, u1, u2, u3, xs, ee⟩ := four_of h4; obtain ⟨hcw, hxl⟩ := cut_four hs ee; rw [ee]) | skip
 refine Ea (o_ldnC rfl rfl rfl) (Ev rfl ?_)
 first | refine Ew rfl rfl (c_457 ⟨decide (u0 = [119, 114, 105, 116, 101]), a, idxS szN u1, idxS bstN u2, _, ws.map fN⟩ (by show (ws.map fN).length ≤ 1048576; rw [List.length_map]; omega)) ?_ | refine Fa rfl rfl (by simp) (c_457 ⟨decide (u0 = [119, 114, 105, 116, 101]), a, idxS szN u1, idxS bstN u2, _, ws.map fN⟩ (by show (ws.map fN).length ≤ 1048576; rw [List.length_map]; omega)) rfl ?_
 refine Fd (is := [0, 2, 5, 73, 75]) rfl (Ev rfl (Ea (Ee rfl) (Ev rfl (Ea (o_neqs rfl rfl) (Ea (En rfl rfl) (Ed (Ec (Eb [2, 5, 78] rfl ?_))))))))
 first | refine Em rfl ?_ ?_ | refine Ek rfl ?_ ?_
 intro h11
 try rw [nnp] at h11
 first | (have h4 : ¬ ((cutL 32 s).length : Int) < 4 := h11; obtain ⟨u0, u1, u2, u3, xs, ee⟩ := four_of h4; obtain ⟨hcw, hxl⟩ := cut_four hs ee; rw [ee]) | skip
 refine Ef (Eg (Ea (o_bd rfl rfl) (s_opN (o_stnC rfl rfl rfl rfl rfl rfl rfl) (Ea (Ee rfl) (Ed (Ec (Eb [2, 3] rfl ?_)))))))
 first | refine s_nilC 0 5 1 rfl rfl rfl rfl rfl ?_ | skip
 refine Ej (Eu ?_)
 · first | (have hq : readQ s = (zR, false) := (by first | exact rq_few (by assumption) | exact riq_num ee hn (by assumption) | exact Ez ee hg (by assumption) | exact riq_ok ee hR.1 hg hn (by assumption) | exact riq_no ee hR.1 hg hn (by assumption)); refine Ei [2] (.inr rfl) rfl rfl rfl rfl (show (List.range 0 ++ [2]).Nodup by decide) ?_; rw [hq]; exact ⟨rfl, rfl⟩) | (have hq : readQ s = (zR, false) := (by first | exact rq_few (by assumption) | exact riq_num ee hn (by assumption) | exact Ez ee hg (by assumption) | exact riq_ok ee hR.1 hg hn (by assumption) | exact riq_no ee hR.1 hg hn (by assumption)); refine Ei [3] (.inr rfl) rfl rfl rfl rfl (show (List.range 0 ++ [3]).Nodup by decide) ?_; rw [hq]; exact ⟨rfl, rfl⟩) | (have hq : readQ s = (zR, false) := (by first | exact rq_few (by assumption) | exact riq_num ee hn (by assumption) | exact Ez ee hg (by assumption) | exact riq_ok ee hR.1 hg hn (by assumption) | exact riq_no ee hR.1 hg hn (by assumption)); refine Ei [4] (.inr rfl) rfl rfl rfl rfl (show (List.range 0 ++ [4]).Nodup by decide) ?_; rw [hq]; exact ⟨rfl, rfl⟩) | (refine Ei [3] (.inr rfl) rfl rfl rfl rfl (show (List.range 0 ++ [3]).Nodup by decide) ?_; rw [riq_yes ee hR.1 hg hn (by assumption) (by assumption)]; refine ⟨?_, rfl⟩; rw [show ws.length = (ws.map fN).length from (List.length_map ..).symm])
 intro h11
 try rw [nnp] at h11
 first | (have h4 : ¬ ((cutL 32 s).length : Int) < 4 := h11; obtain ⟨u0, u1, u2, u3, xs, ee⟩ := four_of h4; obtain ⟨hcw, hxl⟩ := cut_four hs ee; rw [ee]) | skip
 refine Et (Ec (Eb [2, 5] rfl (Ef (Eg (Ea (o_ldnC rfl rfl rfl) (s_opN (o_stnC rfl rfl rfl rfl rfl rfl rfl) (Ea (Ee rfl) (Ed (Ec (Eb [2, 3] rfl ?_))))))))))
 first | refine s_nilC 0 5 1 rfl rfl rfl rfl rfl ?_ | skip
 refine Ej ?_
 · first | (have hq : readQ s = (zR, false) := (by first | exact rq_few (by assumption) | exact riq_num ee hn (by assumption) | exact Ez ee hg (by assumption) | exact riq_ok ee hR.1 hg hn (by assumption) | exact riq_no ee hR.1 hg hn (by assumption)); refine Ei [2] (.inr rfl) rfl rfl rfl rfl (show (List.range 0 ++ [2]).Nodup by decide) ?_; rw [hq]; exact ⟨rfl, rfl⟩) | (have hq : readQ s = (zR, false) := (by first | exact rq_few (by assumption) | exact riq_num ee hn (by assumption) | exact Ez ee hg (by assumption) | exact riq_ok ee hR.1 hg hn (by assumption) | exact riq_no ee hR.1 hg hn (by assumption)); refine Ei [3] (.inr rfl) rfl rfl rfl rfl (show (List.range 0 ++ [3]).Nodup by decide) ?_; rw [hq]; exact ⟨rfl, rfl⟩) | (have hq : readQ s = (zR, false) := (by first | exact rq_few (by assumption) | exact riq_num ee hn (by assumption) | exact Ez ee hg (by assumption) | exact riq_ok ee hR.1 hg hn (by assumption) | exact riq_no ee hR.1 hg hn (by assumption)); refine Ei [4] (.inr rfl) rfl rfl rfl rfl (show (List.range 0 ++ [4]).Nodup by decide) ?_; rw [hq]; exact ⟨rfl, rfl⟩) | (refine Ei [3] (.inr rfl) rfl rfl rfl rfl (show (List.range 0 ++ [3]).Nodup by decide) ?_; rw [riq_yes ee hR.1 hg hn (by assumption) (by assumption)]; refine ⟨?_, rfl⟩; rw [show ws.length = (ws.map fN).length from (List.length_map ..).symm])
 intro h10
 try rw [nnp] at h10
 first | (have h4 : ¬ ((cutL 32 s).length : Int) < 4 := h10; obtain ⟨u0, u1, u2, u3, xs, ee⟩ := four_of h4; obtain ⟨hcw, hxl⟩ := cut_four hs ee; rw [ee]) | skip
 refine Eh rfl (Eh rfl (Fd (is := [0, 2, 5, 73, 75]) rfl (Eh rfl (Eh rfl (Ea (Er rfl rfl) (Ed (Ec (Eb [2, 5, 78] rfl (s_condT rfl (Ef (Eg ?_)))))))))))
 refine Ea (o_bd rfl rfl) (s_opN (o_stnC rfl rfl rfl rfl rfl rfl rfl) (Ea (Ee rfl) (Ed (Ec (Eb [2, 3] rfl ?_)))))
 first | refine s_nilC 0 5 1 rfl rfl rfl rfl rfl ?_ | skip
 refine Ej (Eu ?_)
 · first | (have hq : readQ s = (zR, false) := (by first | exact rq_few (by assumption) | exact riq_num ee hn (by assumption) | exact Ez ee hg (by assumption) | exact riq_ok ee hR.1 hg hn (by assumption) | exact riq_no ee hR.1 hg hn (by assumption)); refine Ei [2] (.inr rfl) rfl rfl rfl rfl (show (List.range 0 ++ [2]).Nodup by decide) ?_; rw [hq]; exact ⟨rfl, rfl⟩) | (have hq : readQ s = (zR, false) := (by first | exact rq_few (by assumption) | exact riq_num ee hn (by assumption) | exact Ez ee hg (by assumption) | exact riq_ok ee hR.1 hg hn (by assumption) | exact riq_no ee hR.1 hg hn (by assumption)); refine Ei [3] (.inr rfl) rfl rfl rfl rfl (show (List.range 0 ++ [3]).Nodup by decide) ?_; rw [hq]; exact ⟨rfl, rfl⟩) | (have hq : readQ s = (zR, false) := (by first | exact rq_few (by assumption) | exact riq_num ee hn (by assumption) | exact Ez ee hg (by assumption) | exact riq_ok ee hR.1 hg hn (by assumption) | exact riq_no ee hR.1 hg hn (by assumption)); refine Ei [4] (.inr rfl) rfl rfl rfl rfl (show (List.range 0 ++ [4]).Nodup by decide) ?_; rw [hq]; exact ⟨rfl, rfl⟩) | (refine Ei [3] (.inr rfl) rfl rfl rfl rfl (show (List.range 0 ++ [3]).Nodup by decide) ?_; rw [riq_yes ee hR.1 hg hn (by assumption) (by assumption)]; refine ⟨?_, rfl⟩; rw [show ws.length = (ws.map fN).length from (List.length_map ..).symm])
 intro h9
 try rw [nnp] at h9
 first | (have h4 : ¬ ((cutL 32 s).length : Int) < 4 := h9; obtain ⟨u0, u1, u2, u3, xs, ee⟩ := four_of h4; obtain ⟨hcw, hxl⟩ := cut_four hs ee; rw [ee]) | skip
 refine Eh rfl (Eh rfl (Ea (Er rfl rfl) (Ea (Ee rfl) (Eh rfl (Eh rfl (Eh rfl (Ea (Er rfl rfl) (Ea (Ee rfl) (Eh rfl (Eh rfl (Fd (is := [0, 2, 5, 73, 75]) rfl ?_)))))))))))
 refine Eh rfl (Eh rfl (Ea (Er rfl rfl) (Ed (Ec (Eb [2, 5, 78] rfl (s_condT rfl (Ef (Eg (Ea (o_bd rfl rfl) (s_opN (o_stnC rfl rfl rfl rfl rfl rfl rfl) (Ea (Ee rfl) ?_)))))))))))
 refine Ed (Ec (Eb [2, 3] rfl ?_))
 first | refine s_nilC 0 5 1 rfl rfl rfl rfl rfl ?_ | skip
 refine Ej (Eu ?_)
 · first | (have hq : readQ s = (zR, false) := (by first | exact rq_few (by assumption) | exact riq_num ee hn (by assumption) | exact Ez ee hg (by assumption) | exact riq_ok ee hR.1 hg hn (by assumption) | exact riq_no ee hR.1 hg hn (by assumption)); refine Ei [2] (.inr rfl) rfl rfl rfl rfl (show (List.range 0 ++ [2]).Nodup by decide) ?_; rw [hq]; exact ⟨rfl, rfl⟩) | (have hq : readQ s = (zR, false) := (by first | exact rq_few (by assumption) | exact riq_num ee hn (by assumption) | exact Ez ee hg (by assumption) | exact riq_ok ee hR.1 hg hn (by assumption) | exact riq_no ee hR.1 hg hn (by assumption)); refine Ei [3] (.inr rfl) rfl rfl rfl rfl (show (List.range 0 ++ [3]).Nodup by decide) ?_; rw [hq]; exact ⟨rfl, rfl⟩) | (have hq : readQ s = (zR, false) := (by first | exact rq_few (by assumption) | exact riq_num ee hn (by assumption) | exact Ez ee hg (by assumption) | exact riq_ok ee hR.1 hg hn (by assumption) | exact riq_no ee hR.1 hg hn (by assumption)); refine Ei [4] (.inr rfl) rfl rfl rfl rfl (show (List.range 0 ++ [4]).Nodup by decide) ?_; rw [hq]; exact ⟨rfl, rfl⟩) | (refine Ei [3] (.inr rfl) rfl rfl rfl rfl (show (List.range 0 ++ [3]).Nodup by decide) ?_; rw [riq_yes ee hR.1 hg hn (by assumption) (by assumption)]; refine ⟨?_, rfl⟩; rw [show ws.length = (ws.map fN).length from (List.length_map ..).symm])
 refine ⟨_, _, rfl, rfl, ?_⟩
 refine Ea (Ee rfl) (Ea (o_ext rfl rfl) (Ea (o_ext rfl rfl) (Ea (Ee rfl) (Ea (Ee rfl) (Ed (Ec (Eb [0, 2, 5, 7, 8, 9, 10] rfl (Ef (Eg (Ea (Ee rfl) (Ea (Ee rfl) ?_)))))))))))
 refine Ea (Ep rfl) (s_opN (o_stC rfl rfl rfl rfl rfl rfl) (Ea (Ep rfl) (s_opN (o_stC rfl rfl rfl rfl rfl rfl) (Ed (Ec (Eb [0, 2, 5, 8, 10] rfl (Ef (Ef (Eg (Ea (Ee rfl) (Ea (o_not rfl) ?_)))))))))))
 refine Ea (Ee rfl) ?_
 first | refine s_gDF rfl ?_ ?_ | refine s_gNDF rfl ?_ ?_ | refine s_gNF rfl ?_ ?_ | refine s_gB rfl ?_ ?_
 intro h12
 try rw [nnp] at h12
 first | (have h4 : ¬ ((cutL 32 s).length : Int) < 4 := h12; obtain ⟨u0, u1, u2, u3, xs, ee⟩ := four_of h4; obtain ⟨hcw, hxl⟩ := cut_four hs ee; rw [ee]) | skip
 refine Ea (Ee rfl) (Ev rfl (Ea (o_not rfl) (Ea (En rfl rfl) (Ea (Ee rfl) (Eh rfl (Eh rfl (Eh rfl (Ea (Er rfl rfl) (Ea (Ee rfl) (Eh rfl (Eh rfl ?_)))))))))))
 refine Fd (is := [0, 2, 5, 73, 75]) rfl (Eh rfl (Eh rfl (Ea (Er rfl rfl) (Ed (Ec (Eb [2, 5, 78] rfl (s_condT rfl (Ef (Eg (Ea (o_bd rfl rfl) (s_opN (o_stnC rfl rfl rfl rfl rfl rfl rfl) ?_)))))))))))
 refine Ea (Ee rfl) (Ed (Ec (Eb [2, 3] rfl ?_)))
 first | refine s_nilC 0 5 1 rfl rfl rfl rfl rfl ?_ | skip
 refine Ej (Eu ?_)
 · first | (have hq : readQ s = (zR, false) := (by first | exact rq_few (by assumption) | exact riq_num ee hn (by assumption) | exact Ez ee hg (by assumption) | exact riq_ok ee hR.1 hg hn (by assumption) | exact riq_no ee hR.1 hg hn (by assumption)); refine Ei [2] (.inr rfl) rfl rfl rfl rfl (show (List.range 0 ++ [2]).Nodup by decide) ?_; rw [hq]; exact ⟨rfl, rfl⟩) | (have hq : readQ s = (zR, false) := (by first | exact rq_few (by assumption) | exact riq_num ee hn (by assumption) | exact Ez ee hg (by assumption) | exact riq_ok ee hR.1 hg hn (by assumption) | exact riq_no ee hR.1 hg hn (by assumption)); refine Ei [3] (.inr rfl) rfl rfl rfl rfl (show (List.range 0 ++ [3]).Nodup by decide) ?_; rw [hq]; exact ⟨rfl, rfl⟩) | (have hq : readQ s = (zR, false) := (by first | exact rq_few (by assumption) | exact riq_num ee hn (by assumption) | exact Ez ee hg (by assumption) | exact riq_ok ee hR.1 hg hn (by assumption) | exact riq_no ee hR.1 hg hn (by assumption)); refine Ei [4] (.inr rfl) rfl rfl rfl rfl (show (List.range 0 ++ [4]).Nodup by decide) ?_; rw [hq]; exact ⟨rfl, rfl⟩) | (refine Ei [3] (.inr rfl) rfl rfl rfl rfl (show (List.range 0 ++ [3]).Nodup by decide) ?_; rw [riq_yes ee hR.1 hg hn (by assumption) (by assumption)]; refine ⟨?_, rfl⟩; rw [show ws.length = (ws.map fN).length from (List.length_map ..).symm])
 intro h12
 try rw [nnp] at h12
 first | (have h4 : ¬ ((cutL 32 s).length : Int) < 4 := h12; obtain ⟨u0, u1, u2, u3, xs, ee⟩ := four_of h4; obtain ⟨hcw, hxl⟩ := cut_four hs ee; rw [ee]) | skip
 refine Eh rfl (Eh rfl (Ea (Er rfl rfl) (Ea (Ee rfl) (Eh rfl (Eh rfl (Eh rfl (Ea (Er rfl rfl) (Ea (Ee rfl) (Eh rfl (Eh rfl (Fd (is := [0, 2, 5, 73, 75]) rfl ?_)))))))))))
 refine Eh rfl (Eh rfl (Ea (Er rfl rfl) (Ed (Ec (Eb [2, 5, 78] rfl (s_condT rfl (Ef (Eg (Ea (o_bd rfl rfl) (s_opN (o_stnC rfl rfl rfl rfl rfl rfl rfl) (Ea (Ee rfl) ?_)))))))))))
 refine Ed (Ec (Eb [2, 3] rfl ?_))
 first | refine s_nilC 0 5 1 rfl rfl rfl rfl rfl ?_ | skip
 refine Ej (Eu ?_)
 · first | (have hq : readQ s = (zR, false) := (by first | exact rq_few (by assumption) | exact riq_num ee hn (by assumption) | exact Ez ee hg (by assumption) | exact riq_ok ee hR.1 hg hn (by assumption) | exact riq_no ee hR.1 hg hn (by assumption)); refine Ei [2] (.inr rfl) rfl rfl rfl rfl (show (List.range 0 ++ [2]).Nodup by decide) ?_; rw [hq]; exact ⟨rfl, rfl⟩) | (have hq : readQ s = (zR, false) := (by first | exact rq_few (by assumption) | exact riq_num ee hn (by assumption) | exact Ez ee hg (by assumption) | exact riq_ok ee hR.1 hg hn (by assumption) | exact riq_no ee hR.1 hg hn (by assumption)); refine Ei [3] (.inr rfl) rfl rfl rfl rfl (show (List.range 0 ++ [3]).Nodup by decide) ?_; rw [hq]; exact ⟨rfl, rfl⟩) | (have hq : readQ s = (zR, false) := (by first | exact rq_few (by assumption) | exact riq_num ee hn (by assumption) | exact Ez ee hg (by assumption) | exact riq_ok ee hR.1 hg hn (by assumption) | exact riq_no ee hR.1 hg hn (by assumption)); refine Ei [4] (.inr rfl) rfl rfl rfl rfl (show (List.range 0 ++ [4]).Nodup by decide) ?_; rw [hq]; exact ⟨rfl, rfl⟩) | (refine Ei [3] (.inr rfl) rfl rfl rfl rfl (show (List.range 0 ++ [3]).Nodup by decide) ?_; rw [riq_yes ee hR.1 hg hn (by assumption) (by assumption)]; refine ⟨?_, rfl⟩; rw [show ws.length = (ws.map fN).length from (List.length_map ..).symm])
 intro h7
 try rw [nnp] at h7
 first | (have h4 : ¬ ((cutL 32 s).length : Int) < 4 := h7; obtain ⟨u0, u1, u2, u3, xs, ee⟩ := four_of h4; obtain ⟨hcw, hxl⟩ := cut_four hs ee; rw [ee]) | skip
 refine Et (Ec (Eb [0, 2, 4, 5, 6] rfl (Ef (Eg (Ea (Ee rfl) (s_iaM rfl rfl (by simp at *; omega) ?_))))))
 intro y13 e13
 first | (obtain rfl := Option.some.inj e13) | (simp only [Int.toNat_natCast] at e13) | skip
 refine Ea (o_ld rfl rfl) ?_
 first | refine Ew rfl rfl (cn_408 _ 18 (by have := hcw u3 (by simp); omega)) ?_ | refine Fa rfl rfl (by simp) (cn_408 _ 18 (by have := hcw u3 (by simp); omega)) rfl ?_
 obtain ⟨a, one, hn⟩ : ∃ a b, numN u3 18 = (a, b) := ⟨_, _, rfl⟩
 rw [hn]
 refine Ea (Ee rfl) (Ea (o_ext rfl rfl) (Ea (o_ext rfl rfl) (Ea (Ee rfl) (Ea (Ee rfl) (Ed (Ec (Eb [0, 2, 5, 6, 7, 8] rfl (Ef (Eg ?_)))))))))
 first | have hR := lk_t (xs := xs) (by assumption) (by assumption) | have hR := lk_f (xs := xs) (by assumption) (by assumption) | have hR := lk_n (xs := xs) (by assumption)
 rw [← hR.2]
 obtain ⟨ws, hg⟩ : ∃ ws, restL xs = ws := ⟨_, rfl⟩
 rw [hg]
 have hrm := rest_mem hg
 refine Ea (Ee rfl) (Fc [] rfl rfl rfl rfl (by simp) (.inl rfl) (cg_467 ws (by omega) (fun w hw => hcw _ (by simp [hrm.1 _ hw]))) ?_)
 rintro u L1 (⟨hall, rfl, rfl⟩ | ⟨hall, rfl, rfl⟩)
 refine ⟨_, _, rfl, rfl, ?_⟩
 refine Ea (Ee rfl) (Ea (o_ext rfl rfl) (Ea (o_ext rfl rfl) (Ea (Ee rfl) (Ea (Ee rfl) (Ed (Ec (Eb [0, 2, 5, 7, 8, 9, 10] rfl (Ef (Eg (Ea (Ee rfl) (Ea (Ee rfl) ?_)))))))))))
 refine Ea (Ep rfl) (s_opN (o_stC rfl rfl rfl rfl rfl rfl) (Ea (Ep rfl) (s_opN (o_stC rfl rfl rfl rfl rfl rfl) (Ed (Ec (Eb [0, 2, 5, 8, 10] rfl (Ef (Ef (Eg (Ea (Ee rfl) (Ea (o_not rfl) ?_)))))))))))
 refine Ea (Ee rfl) ?_
 first | refine s_gDF rfl ?_ ?_ | refine s_gNDF rfl ?_ ?_ | refine s_gNF rfl ?_ ?_ | refine s_gB rfl ?_ ?_
 intro h14
 try rw [nnp] at h14
 first | (have h4 : ¬ ((cutL 32 s).length : Int) < 4 := h14; obtain ⟨u0, u1, u2, u3, xs, ee⟩ := four_of h4; obtain ⟨hcw, hxl⟩ := cut_four hs ee; rw [ee]) | skip
 refine Ea (Ee rfl) (Ev rfl (Ea (o_not rfl) (Ea (En rfl rfl) (Ea (Ee rfl) (Ev rfl (Ea (o_ldnC rfl rfl rfl) (Ev rfl ?_)))))))
 first | refine Ew rfl rfl (c_66 ⟨decide (u0 = [119, 114, 105, 116, 101]), a, idxS szN u1, idxS bstN u2, _, ws.map fN⟩ (by show (ws.map fN).length ≤ 1048576; rw [List.length_map]; omega)) ?_ | refine Fa rfl rfl (by simp) (c_66 ⟨decide (u0 = [119, 114, 105, 116, 101]), a, idxS szN u1, idxS bstN u2, _, ws.map fN⟩ (by show (ws.map fN).length ≤ 1048576; rw [List.length_map]; omega)) rfl ?_
 refine Ev rfl (Ea (o_not rfl) (Ea (En rfl rfl) (Ea (Ee rfl) ?_)))
 first | refine s_gDF rfl ?_ ?_ | refine s_gNDF rfl ?_ ?_ | refine s_gNF rfl ?_ ?_ | refine s_gB rfl ?_ ?_
 intro h15
 try rw [nnp] at h15
 first | (have h4 : ¬ ((cutL 32 s).length : Int) < 4 := h15; obtain ⟨u0, u1, u2, u3, xs, ee⟩ := four_of h4; obtain ⟨hcw, hxl⟩ := cut_four hs ee; rw [ee]) | skip
 refine Ea (o_ldnC rfl rfl rfl) (Ev rfl ?_)
 first | refine Ew rfl rfl (c_457 ⟨decide (u0 = [119, 114, 105, 116, 101]), a, idxS szN u1, idxS bstN u2, _, ws.map fN⟩ (by show (ws.map fN).length ≤ 1048576; rw [List.length_map]; omega)) ?_ | refine Fa rfl rfl (by simp) (c_457 ⟨decide (u0 = [119, 114, 105, 116, 101]), a, idxS szN u1, idxS bstN u2, _, ws.map fN⟩ (by show (ws.map fN).length ≤ 1048576; rw [List.length_map]; omega)) rfl ?_
 refine Fd (is := [0, 2, 5, 73, 75]) rfl (Ev rfl (Ea (Ee rfl) (Ev rfl (Ea (o_neqs rfl rfl) (Ea (En rfl rfl) (Ed (Ec (Eb [2, 5, 78] rfl ?_))))))))
 first | refine Em rfl ?_ ?_ | refine Ek rfl ?_ ?_
 intro h16
 try rw [nnp] at h16
 first | (have h4 : ¬ ((cutL 32 s).length : Int) < 4 := h16; obtain ⟨u0, u1, u2, u3, xs, ee⟩ := four_of h4; obtain ⟨hcw, hxl⟩ := cut_four hs ee; rw [ee]) | skip
 refine Ef (Eg (Ea (o_bd rfl rfl) (s_opN (o_stnC rfl rfl rfl rfl rfl rfl rfl) (Ea (Ee rfl) (Ed (Ec (Eb [2, 3] rfl ?_)))))))
 first | refine s_nilC 0 5 1 rfl rfl rfl rfl rfl ?_ | skip
 refine Ej (Eu ?_)
 · first | (have hq : readQ s = (zR, false) := (by first | exact rq_few (by assumption) | exact riq_num ee hn (by assumption) | exact Ez ee hg (by assumption) | exact riq_ok ee hR.1 hg hn (by assumption) | exact riq_no ee hR.1 hg hn (by assumption)); refine Ei [2] (.inr rfl) rfl rfl rfl rfl (show (List.range 0 ++ [2]).Nodup by decide) ?_; rw [hq]; exact ⟨rfl, rfl⟩) | (have hq : readQ s = (zR, false) := (by first | exact rq_few (by assumption) | exact riq_num ee hn (by assumption) | exact Ez ee hg (by assumption) | exact riq_ok ee hR.1 hg hn (by assumption) | exact riq_no ee hR.1 hg hn (by assumption)); refine Ei [3] (.inr rfl) rfl rfl rfl rfl (show (List.range 0 ++ [3]).Nodup by decide) ?_; rw [hq]; exact ⟨rfl, rfl⟩) | (have hq : readQ s = (zR, false) := (by first | exact rq_few (by assumption) | exact riq_num ee hn (by assumption) | exact Ez ee hg (by assumption) | exact riq_ok ee hR.1 hg hn (by assumption) | exact riq_no ee hR.1 hg hn (by assumption)); refine Ei [4] (.inr rfl) rfl rfl rfl rfl (show (List.range 0 ++ [4]).Nodup by decide) ?_; rw [hq]; exact ⟨rfl, rfl⟩) | (refine Ei [3] (.inr rfl) rfl rfl rfl rfl (show (List.range 0 ++ [3]).Nodup by decide) ?_; rw [riq_yes ee hR.1 hg hn (by assumption) (by assumption)]; refine ⟨?_, rfl⟩; rw [show ws.length = (ws.map fN).length from (List.length_map ..).symm])
 intro h16
 try rw [nnp] at h16
 first | (have h4 : ¬ ((cutL 32 s).length : Int) < 4 := h16; obtain ⟨u0, u1, u2, u3, xs, ee⟩ := four_of h4; obtain ⟨hcw, hxl⟩ := cut_four hs ee; rw [ee]) | skip
 refine Et (Ec (Eb [2, 5] rfl (Ef (Eg (Ea (o_ldnC rfl rfl rfl) (s_opN (o_stnC rfl rfl rfl rfl rfl rfl rfl) (Ea (Ee rfl) (Ed (Ec (Eb [2, 3] rfl ?_))))))))))
 first | refine s_nilC 0 5 1 rfl rfl rfl rfl rfl ?_ | skip
 refine Ej ?_
 · first | (have hq : readQ s = (zR, false) := (by first | exact rq_few (by assumption) | exact riq_num ee hn (by assumption) | exact Ez ee hg (by assumption) | exact riq_ok ee hR.1 hg hn (by assumption) | exact riq_no ee hR.1 hg hn (by assumption)); refine Ei [2] (.inr rfl) rfl rfl rfl rfl (show (List.range 0 ++ [2]).Nodup by decide) ?_; rw [hq]; exact ⟨rfl, rfl⟩) | (have hq : readQ s = (zR, false) := (by first | exact rq_few (by assumption) | exact riq_num ee hn (by assumption) | exact Ez ee hg (by assumption) | exact riq_ok ee hR.1 hg hn (by assumption) | exact riq_no ee hR.1 hg hn (by assumption)); refine Ei [3] (.inr rfl) rfl rfl rfl rfl (show (List.range 0 ++ [3]).Nodup by decide) ?_; rw [hq]; exact ⟨rfl, rfl⟩) | (have hq : readQ s = (zR, false) := (by first | exact rq_few (by assumption) | exact riq_num ee hn (by assumption) | exact Ez ee hg (by assumption) | exact riq_ok ee hR.1 hg hn (by assumption) | exact riq_no ee hR.1 hg hn (by assumption)); refine Ei [4] (.inr rfl) rfl rfl rfl rfl (show (List.range 0 ++ [4]).Nodup by decide) ?_; rw [hq]; exact ⟨rfl, rfl⟩) | (refine Ei [3] (.inr rfl) rfl rfl rfl rfl (show (List.range 0 ++ [3]).Nodup by decide) ?_; rw [riq_yes ee hR.1 hg hn (by assumption) (by assumption)]; refine ⟨?_, rfl⟩; rw [show ws.length = (ws.map fN).length from (List.length_map ..).symm])
 intro h15
 try rw [nnp] at h15
 first | (have h4 : ¬ ((cutL 32 s).length : Int) < 4 := h15; obtain ⟨u0, u1, u2, u3, xs, ee⟩ := four_of h4; obtain ⟨hcw, hxl⟩ := cut_four hs ee; rw [ee]) | skip
 refine Eh rfl (Eh rfl (Fd (is := [0, 2, 5, 73, 75]) rfl (Eh rfl (Eh rfl (Ea (Er rfl rfl) (Ed (Ec (Eb [2, 5, 78] rfl (s_condT rfl (Ef (Eg ?_)))))))))))
 refine Ea (o_bd rfl rfl) (s_opN (o_stnC rfl rfl rfl rfl rfl rfl rfl) (Ea (Ee rfl) (Ed (Ec (Eb [2, 3] rfl ?_)))))
 first | refine s_nilC 0 5 1 rfl rfl rfl rfl rfl ?_ | skip
 refine Ej (Eu ?_)
 · first | (have hq : readQ s = (zR, false) := (by first | exact rq_few (by assumption) | exact riq_num ee hn (by assumption) | exact Ez ee hg (by assumption) | exact riq_ok ee hR.1 hg hn (by assumption) | exact riq_no ee hR.1 hg hn (by assumption)); refine Ei [2] (.inr rfl) rfl rfl rfl rfl (show (List.range 0 ++ [2]).Nodup by decide) ?_; rw [hq]; exact ⟨rfl, rfl⟩) | (have hq : readQ s = (zR, false) := (by first | exact rq_few (by assumption) | exact riq_num ee hn (by assumption) | exact Ez ee hg (by assumption) | exact riq_ok ee hR.1 hg hn (by assumption) | exact riq_no ee hR.1 hg hn (by assumption)); refine Ei [3] (.inr rfl) rfl rfl rfl rfl (show (List.range 0 ++ [3]).Nodup by decide) ?_; rw [hq]; exact ⟨rfl, rfl⟩) | (have hq : readQ s = (zR, false) := (by first | exact rq_few (by assumption) | exact riq_num ee hn (by assumption) | exact Ez ee hg (by assumption) | exact riq_ok ee hR.1 hg hn (by assumption) | exact riq_no ee hR.1 hg hn (by assumption)); refine Ei [4] (.inr rfl) rfl rfl rfl rfl (show (List.range 0 ++ [4]).Nodup by decide) ?_; rw [hq]; exact ⟨rfl, rfl⟩) | (refine Ei [3] (.inr rfl) rfl rfl rfl rfl (show (List.range 0 ++ [3]).Nodup by decide) ?_; rw [riq_yes ee hR.1 hg hn (by assumption) (by assumption)]; refine ⟨?_, rfl⟩; rw [show ws.length = (ws.map fN).length from (List.length_map ..).symm])
 intro h14
 try rw [nnp] at h14
 first | (have h4 : ¬ ((cutL 32 s).length : Int) < 4 := h14; obtain ⟨u0, u1, u2, u3, xs, ee⟩ := four_of h4; obtain ⟨hcw, hxl⟩ := cut_four hs ee; rw [ee]) | skip
 refine Eh rfl (Eh rfl (Ea (Er rfl rfl) (Ea (Ee rfl) (Eh rfl (Eh rfl (Eh rfl (Ea (Er rfl rfl) (Ea (Ee rfl) (Eh rfl (Eh rfl (Fd (is := [0, 2, 5, 73, 75]) rfl ?_)))))))))))
 refine Eh rfl (Eh rfl (Ea (Er rfl rfl) (Ed (Ec (Eb [2, 5, 78] rfl (s_condT rfl (Ef (Eg (Ea (o_bd rfl rfl) (s_opN (o_stnC rfl rfl rfl rfl rfl rfl rfl) (Ea (Ee rfl) ?_)))))))))))
 refine Ed (Ec (Eb [2, 3] rfl ?_))
 first | refine s_nilC 0 5 1 rfl rfl rfl rfl rfl ?_ | skip
 refine Ej (Eu ?_)
 · first | (have hq : readQ s = (zR, false) := (by first | exact rq_few (by assumption) | exact riq_num ee hn (by assumption) | exact Ez ee hg (by assumption) | exact riq_ok ee hR.1 hg hn (by assumption) | exact riq_no ee hR.1 hg hn (by assumption)); refine Ei [2] (.inr rfl) rfl rfl rfl rfl (show (List.range 0 ++ [2]).Nodup by decide) ?_; rw [hq]; exact ⟨rfl, rfl⟩) | (have hq : readQ s = (zR, false) := (by first | exact rq_few (by assumption) | exact riq_num ee hn (by assumption) | exact Ez ee hg (by assumption) | exact riq_ok ee hR.1 hg hn (by assumption) | exact riq_no ee hR.1 hg hn (by assumption)); refine Ei [3] (.inr rfl) rfl rfl rfl rfl (show (List.range 0 ++ [3]).Nodup by decide) ?_; rw [hq]; exact ⟨rfl, rfl⟩) | (have hq : readQ s = (zR, false) := (by first | exact rq_few (by assumption) | exact riq_num ee hn (by assumption) | exact Ez ee hg (by assumption) | exact riq_ok ee hR.1 hg hn (by assumption) | exact riq_no ee hR.1 hg hn (by assumption)); refine Ei [4] (.inr rfl) rfl rfl rfl rfl (show (List.range 0 ++ [4]).Nodup by decide) ?_; rw [hq]; exact ⟨rfl, rfl⟩) | (refine Ei [3] (.inr rfl) rfl rfl rfl rfl (show (List.range 0 ++ [3]).Nodup by decide) ?_; rw [riq_yes ee hR.1 hg hn (by assumption) (by assumption)]; refine ⟨?_, rfl⟩; rw [show ws.length = (ws.map fN).length from (List.length_map ..).symm])
 refine ⟨_, _, rfl, rfl, ?_⟩
 refine Ea (Ee rfl) (Ea (o_ext rfl rfl) (Ea (o_ext rfl rfl) (Ea (Ee rfl) (Ea (Ee rfl) (Ed (Ec (Eb [0, 2, 5, 7, 8, 9, 10] rfl (Ef (Eg (Ea (Ee rfl) (Ea (Ee rfl) ?_)))))))))))
 refine Ea (Ep rfl) (s_opN (o_stC rfl rfl rfl rfl rfl rfl) (Ea (Ep rfl) (s_opN (o_stC rfl rfl rfl rfl rfl rfl) (Ed (Ec (Eb [0, 2, 5, 8, 10] rfl (Ef (Ef (Eg (Ea (Ee rfl) (Ea (o_not rfl) ?_)))))))))))
 refine Ea (Ee rfl) ?_
 first | refine s_gDF rfl ?_ ?_ | refine s_gNDF rfl ?_ ?_ | refine s_gNF rfl ?_ ?_ | refine s_gB rfl ?_ ?_
 intro h17
 try rw [nnp] at h17
 first | (have h4 : ¬ ((cutL 32 s).length : Int) < 4 := h17; obtain ⟨u0, u1, u2, u3, xs, ee⟩ := four_of h4; obtain ⟨hcw, hxl⟩ := cut_four hs ee; rw [ee]) | skip
 refine Ea (Ee rfl) (Ev rfl (Ea (o_not rfl) (Ea (En rfl rfl) (Ea (Ee rfl) (Eh rfl (Eh rfl (Eh rfl (Ea (Er rfl rfl) (Ea (Ee rfl) (Eh rfl (Eh rfl ?_)))))))))))
 refine Fd (is := [0, 2, 5, 73, 75]) rfl (Eh rfl (Eh rfl (Ea (Er rfl rfl) (Ed (Ec (Eb [2, 5, 78] rfl (s_condT rfl (Ef (Eg (Ea (o_bd rfl rfl) (s_opN (o_stnC rfl rfl rfl rfl rfl rfl rfl) ?_)))))))))))
 refine Ea (Ee rfl) (Ed (Ec (Eb [2, 3] rfl ?_)))
 first | refine s_nilC 0 5 1 rfl rfl rfl rfl rfl ?_ | skip
 refine Ej (Eu ?_)
 · first | (have hq : readQ s = (zR, false) := (by first | exact rq_few (by assumption) | exact riq_num ee hn (by assumption) | exact Ez ee hg (by assumption) | exact riq_ok ee hR.1 hg hn (by assumption) | exact riq_no ee hR.1 hg hn (by assumption)); refine Ei [2] (.inr rfl) rfl rfl rfl rfl (show (List.range 0 ++ [2]).Nodup by decide) ?_; rw [hq]; exact ⟨rfl, rfl⟩) | (have hq : readQ s = (zR, false) := (by first | exact rq_few (by assumption) | exact riq_num ee hn (by assumption) | exact Ez ee hg (by assumption) | exact riq_ok ee hR.1 hg hn (by assumption) | exact riq_no ee hR.1 hg hn (by assumption)); refine Ei [3] (.inr rfl) rfl rfl rfl rfl (show (List.range 0 ++ [3]).Nodup by decide) ?_; rw [hq]; exact ⟨rfl, rfl⟩) | (have hq : readQ s = (zR, false) := (by first | exact rq_few (by assumption) | exact riq_num ee hn (by assumption) | exact Ez ee hg (by assumption) | exact riq_ok ee hR.1 hg hn (by assumption) | exact riq_no ee hR.1 hg hn (by assumption)); refine Ei [4] (.inr rfl) rfl rfl rfl rfl (show (List.range 0 ++ [4]).Nodup by decide) ?_; rw [hq]; exact ⟨rfl, rfl⟩) | (refine Ei [3] (.inr rfl) rfl rfl rfl rfl (show (List.range 0 ++ [3]).Nodup by decide) ?_; rw [riq_yes ee hR.1 hg hn (by assumption) (by assumption)]; refine ⟨?_, rfl⟩; rw [show ws.length = (ws.map fN).length from (List.length_map ..).symm])
 intro h17
 try rw [nnp] at h17
 first | (have h4 : ¬ ((cutL 32 s).length : Int) < 4 := h17; obtain ⟨u0, u1, u2, u3, xs, ee⟩ := four_of h4; obtain ⟨hcw, hxl⟩ := cut_four hs ee; rw [ee]) | skip
 refine Eh rfl (Eh rfl (Ea (Er rfl rfl) (Ea (Ee rfl) (Eh rfl (Eh rfl (Eh rfl (Ea (Er rfl rfl) (Ea (Ee rfl) (Eh rfl (Eh rfl (Fd (is := [0, 2, 5, 73, 75]) rfl ?_)))))))))))
 refine Eh rfl (Eh rfl (Ea (Er rfl rfl) (Ed (Ec (Eb [2, 5, 78] rfl (s_condT rfl (Ef (Eg (Ea (o_bd rfl rfl) (s_opN (o_stnC rfl rfl rfl rfl rfl rfl rfl) (Ea (Ee rfl) ?_)))))))))))
 refine Ed (Ec (Eb [2, 3] rfl ?_))
 first | refine s_nilC 0 5 1 rfl rfl rfl rfl rfl ?_ | skip
 refine Ej (Eu ?_)
 · first | (have hq : readQ s = (zR, false) := (by first | exact rq_few (by assumption) | exact riq_num ee hn (by assumption) | exact Ez ee hg (by assumption) | exact riq_ok ee hR.1 hg hn (by assumption) | exact riq_no ee hR.1 hg hn (by assumption)); refine Ei [2] (.inr rfl) rfl rfl rfl rfl (show (List.range 0 ++ [2]).Nodup by decide) ?_; rw [hq]; exact ⟨rfl, rfl⟩) | (have hq : readQ s = (zR, false) := (by first | exact rq_few (by assumption) | exact riq_num ee hn (by assumption) | exact Ez ee hg (by assumption) | exact riq_ok ee hR.1 hg hn (by assumption) | exact riq_no ee hR.1 hg hn (by assumption)); refine Ei [3] (.inr rfl) rfl rfl rfl rfl (show (List.range 0 ++ [3]).Nodup by decide) ?_; rw [hq]; exact ⟨rfl, rfl⟩) | (have hq : readQ s = (zR, false) := (by first | exact rq_few (by assumption) | exact riq_num ee hn (by assumption) | exact Ez ee hg (by assumption) | exact riq_ok ee hR.1 hg hn (by assumption) | exact riq_no ee hR.1 hg hn (by assumption)); refine Ei [4] (.inr rfl) rfl rfl rfl rfl (show (List.range 0 ++ [4]).Nodup by decide) ?_; rw [hq]; exact ⟨rfl, rfl⟩) | (refine Ei [3] (.inr rfl) rfl rfl rfl rfl (show (List.range 0 ++ [3]).Nodup by decide) ?_; rw [riq_yes ee hR.1 hg hn (by assumption) (by assumption)]; refine ⟨?_, rfl⟩; rw [show ws.length = (ws.map fN).length from (List.length_map ..).symm])
 intro h5
 try rw [nnp] at h5
 first | (have h4 : ¬ ((cutL 32 s).length : Int) < 4 := h5; obtain ⟨u0, u1, u2, u3, xs, ee⟩ := four_of h4; obtain ⟨hcw, hxl⟩ := cut_four hs ee; rw [ee]) | skip
 refine Eh rfl (Eh rfl (Eh rfl (Eh rfl (Ea (En rfl rfl) (Ed (Ec (Eb [0, 2, 4, 5, 6, 42] rfl (s_condF rfl (Et (Ec (Eb [0, 2, 4, 5, 6] rfl ?_)))))))))))
 refine Ef (Eg (Ea (Ee rfl) (s_iaM rfl rfl (by simp at *; omega) ?_)))
 intro y18 e18
 first | (obtain rfl := Option.some.inj e18) | (simp only [Int.toNat_natCast] at e18) | skip
 refine Ea (o_ld rfl rfl) ?_
 first | refine Ew rfl rfl (cn_408 _ 18 (by have := hcw u3 (by simp); omega)) ?_ | refine Fa rfl rfl (by simp) (cn_408 _ 18 (by have := hcw u3 (by simp); omega)) rfl ?_
 obtain ⟨a, one, hn⟩ : ∃ a b, numN u3 18 = (a, b) := ⟨_, _, rfl⟩
 rw [hn]
 refine Ea (Ee rfl) (Ea (o_ext rfl rfl) (Ea (o_ext rfl rfl) (Ea (Ee rfl) (Ea (Ee rfl) (Ed (Ec (Eb [0, 2, 5, 6, 7, 8] rfl (Ef (Eg ?_)))))))))
 first | have hR := lk_t (xs := xs) (by assumption) (by assumption) | have hR := lk_f (xs := xs) (by assumption) (by assumption) | have hR := lk_n (xs := xs) (by assumption)
 rw [← hR.2]
 obtain ⟨ws, hg⟩ : ∃ ws, restL xs = ws := ⟨_, rfl⟩
 rw [hg]
 have hrm := rest_mem hg
 refine Ea (Ee rfl) (Fc [] rfl rfl rfl rfl (by simp) (.inl rfl) (cg_467 ws (by omega) (fun w hw => hcw _ (by simp [hrm.1 _ hw]))) ?_)
 rintro u L1 (⟨hall, rfl, rfl⟩ | ⟨hall, rfl, rfl⟩)
 refine ⟨_, _, rfl, rfl, ?_⟩
 refine Ea (Ee rfl) (Ea (o_ext rfl rfl) (Ea (o_ext rfl rfl) (Ea (Ee rfl) (Ea (Ee rfl) (Ed (Ec (Eb [0, 2, 5, 7, 8, 9, 10] rfl (Ef (Eg (Ea (Ee rfl) (Ea (Ee rfl) ?_)))))))))))
 refine Ea (Ep rfl) (s_opN (o_stC rfl rfl rfl rfl rfl rfl) (Ea (Ep rfl) (s_opN (o_stC rfl rfl rfl rfl rfl rfl) (Ed (Ec (Eb [0, 2, 5, 8, 10] rfl (Ef (Ef (Eg (Ea (Ee rfl) (Ea (o_not rfl) ?_)))))))))))
 refine Ea (Ee rfl) ?_
 first | refine s_gDF rfl ?_ ?_ | refine s_gNDF rfl ?_ ?_ | refine s_gNF rfl ?_ ?_ | refine s_gB rfl ?_ ?_
 intro h19
 try rw [nnp] at h19
 first | (have h4 : ¬ ((cutL 32 s).length : Int) < 4 := h19; obtain ⟨u0, u1, u2, u3, xs, ee⟩ := four_of h4; obtain ⟨hcw, hxl⟩ := cut_four hs ee; rw [ee]) | skip
 refine Ea (Ee rfl) (Ev rfl (Ea (o_not rfl) (Ea (En rfl rfl) (Ea (Ee rfl) (Ev rfl (Ea (o_ldnC rfl rfl rfl) (Ev rfl ?_)))))))
 first | refine Ew rfl rfl (c_66 ⟨decide (u0 = [119, 114, 105, 116, 101]), a, idxS szN u1, idxS bstN u2, _, ws.map fN⟩ (by show (ws.map fN).length ≤ 1048576; rw [List.length_map]; omega)) ?_ | refine Fa rfl rfl (by simp) (c_66 ⟨decide (u0 = [119, 114, 105, 116, 101]), a, idxS szN u1, idxS bstN u2, _, ws.map fN⟩ (by show (ws.map fN).length ≤ 1048576; rw [List.length_map]; omega)) rfl ?_
 refine Ev rfl (Ea (o_not rfl) (Ea (En rfl rfl) (Ea (Ee rfl) ?_)))
 first | refine s_gDF rfl ?_ ?_ | refine s_gNDF rfl ?_ ?_ | refine s_gNF rfl ?_ ?_ | refine s_gB rfl ?_ ?_
 intro h20
 try rw [nnp] at h20
 first | (have h4 : ¬ ((cutL 32 s).length : Int) < 4 := h20; obtain ⟨u0, u1, u2, u3, xs, ee⟩ := four_of h4; obtain ⟨hcw, hxl⟩ := cut_four hs ee; rw [ee]) | skip
 refine Ea (o_ldnC rfl rfl rfl) (Ev rfl ?_)
 first | refine Ew rfl rfl (c_457 ⟨decide (u0 = [119, 114, 105, 116, 101]), a, idxS szN u1, idxS bstN u2, _, ws.map fN⟩ (by show (ws.map fN).length ≤ 1048576; rw [List.length_map]; omega)) ?_ | refine Fa rfl rfl (by simp) (c_457 ⟨decide (u0 = [119, 114, 105, 116, 101]), a, idxS szN u1, idxS bstN u2, _, ws.map fN⟩ (by show (ws.map fN).length ≤ 1048576; rw [List.length_map]; omega)) rfl ?_
 refine Fd (is := [0, 2, 5, 73, 75]) rfl (Ev rfl (Ea (Ee rfl) (Ev rfl (Ea (o_neqs rfl rfl) (Ea (En rfl rfl) (Ed (Ec (Eb [2, 5, 78] rfl ?_))))))))
 first | refine Em rfl ?_ ?_ | refine Ek rfl ?_ ?_
 intro h21
 try rw [nnp] at h21
 first | (have h4 : ¬ ((cutL 32 s).length : Int) < 4 := h21; obtain ⟨u0, u1, u2, u3, xs, ee⟩ := four_of h4; obtain ⟨hcw, hxl⟩ := cut_four hs ee; rw [ee]) | skip
 refine Ef (Eg (Ea (o_bd rfl rfl) (s_opN (o_stnC rfl rfl rfl rfl rfl rfl rfl) (Ea (Ee rfl) (Ed (Ec (Eb [2, 3] rfl ?_)))))))
 first | refine s_nilC 0 5 1 rfl rfl rfl rfl rfl ?_ | skip
 refine Ej (Eu ?_)
 · first | (have hq : readQ s = (zR, false) := (by first | exact rq_few (by assumption) | exact riq_num ee hn (by assumption) | exact Ez ee hg (by assumption) | exact riq_ok ee hR.1 hg hn (by assumption) | exact riq_no ee hR.1 hg hn (by assumption)); refine Ei [2] (.inr rfl) rfl rfl rfl rfl (show (List.range 0 ++ [2]).Nodup by decide) ?_; rw [hq]; exact ⟨rfl, rfl⟩) | (have hq : readQ s = (zR, false) := (by first | exact rq_few (by assumption) | exact riq_num ee hn (by assumption) | exact Ez ee hg (by assumption) | exact riq_ok ee hR.1 hg hn (by assumption) | exact riq_no ee hR.1 hg hn (by assumption)); refine Ei [3] (.inr rfl) rfl rfl rfl rfl (show (List.range 0 ++ [3]).Nodup by decide) ?_; rw [hq]; exact ⟨rfl, rfl⟩) | (have hq : readQ s = (zR, false) := (by first | exact rq_few (by assumption) | exact riq_num ee hn (by assumption) | exact Ez ee hg (by assumption) | exact riq_ok ee hR.1 hg hn (by assumption) | exact riq_no ee hR.1 hg hn (by assumption)); refine Ei [4] (.inr rfl) rfl rfl rfl rfl (show (List.range 0 ++ [4]).Nodup by decide) ?_; rw [hq]; exact ⟨rfl, rfl⟩) | (refine Ei [3] (.inr rfl) rfl rfl rfl rfl (show (List.range 0 ++ [3]).Nodup by decide) ?_; rw [riq_yes ee hR.1 hg hn (by assumption) (by assumption)]; refine ⟨?_, rfl⟩; rw [show ws.length = (ws.map fN).length from (List.length_map ..).symm])
 intro h21
 try rw [nnp] at h21
 first | (have h4 : ¬ ((cutL 32 s).length : Int) < 4 := h21; obtain ⟨u0, u1, u2, u3, xs, ee⟩ := four_of h4; obtain ⟨hcw, hxl⟩ := cut_four hs ee; rw [ee]) | skip
 refine Et (Ec (Eb [2, 5] rfl (Ef (Eg (Ea (o_ldnC rfl rfl rfl) (s_opN (o_stnC rfl rfl rfl rfl rfl rfl rfl) (Ea (Ee rfl) (Ed (Ec (Eb [2, 3] rfl ?_))))))))))
 first | refine s_nilC 0 5 1 rfl rfl rfl rfl rfl ?_ | skip
 refine Ej ?_
 · first | (have hq : readQ s = (zR, false) := (by first | exact rq_few (by assumption) | exact riq_num ee hn (by assumption) | exact Ez ee hg (by assumption) | exact riq_ok ee hR.1 hg hn (by assumption) | exact riq_no ee hR.1 hg hn (by assumption)); refine Ei [2] (.inr rfl) rfl rfl rfl rfl (show (List.range 0 ++ [2]).Nodup by decide) ?_; rw [hq]; exact ⟨rfl, rfl⟩) | (have hq : readQ s = (zR, false) := (by first | exact rq_few (by assumption) | exact riq_num ee hn (by assumption) | exact Ez ee hg (by assumption) | exact riq_ok ee hR.1 hg hn (by assumption) | exact riq_no ee hR.1 hg hn (by assumption)); refine Ei [3] (.inr rfl) rfl rfl rfl rfl (show (List.range 0 ++ [3]).Nodup by decide) ?_; rw [hq]; exact ⟨rfl, rfl⟩) | (have hq : readQ s = (zR, false) := (by first | exact rq_few (by assumption) | exact riq_num ee hn (by assumption) | exact Ez ee hg (by assumption) | exact riq_ok ee hR.1 hg hn (by assumption) | exact riq_no ee hR.1 hg hn (by assumption)); refine Ei [4] (.inr rfl) rfl rfl rfl rfl (show (List.range 0 ++ [4]).Nodup by decide) ?_; rw [hq]; exact ⟨rfl, rfl⟩) | (refine Ei [3] (.inr rfl) rfl rfl rfl rfl (show (List.range 0 ++ [3]).Nodup by decide) ?_; rw [riq_yes ee hR.1 hg hn (by assumption) (by assumption)]; refine ⟨?_, rfl⟩; rw [show ws.length = (ws.map fN).length from (List.length_map ..).symm])
 intro h20
 try rw [nnp] at h20
 first | (have h4 : ¬ ((cutL 32 s).length : Int) < 4 := h20; obtain ⟨u0, u1, u2, u3, xs, ee⟩ := four_of h4; obtain ⟨hcw, hxl⟩ := cut_four hs ee; rw [ee]) | skip
 refine Eh rfl (Eh rfl (Fd (is := [0, 2, 5, 73, 75]) rfl (Eh rfl (Eh rfl (Ea (Er rfl rfl) (Ed (Ec (Eb [2, 5, 78] rfl (s_condT rfl (Ef (Eg ?_)))))))))))
 refine Ea (o_bd rfl rfl) (s_opN (o_stnC rfl rfl rfl rfl rfl rfl rfl) (Ea (Ee rfl) (Ed (Ec (Eb [2, 3] rfl ?_)))))
 first | refine s_nilC 0 5 1 rfl rfl rfl rfl rfl ?_ | skip
 refine Ej (Eu ?_)
 · first | (have hq : readQ s = (zR, false) := (by first | exact rq_few (by assumption) | exact riq_num ee hn (by assumption) | exact Ez ee hg (by assumption) | exact riq_ok ee hR.1 hg hn (by assumption) | exact riq_no ee hR.1 hg hn (by assumption)); refine Ei [2] (.inr rfl) rfl rfl rfl rfl (show (List.range 0 ++ [2]).Nodup by decide) ?_; rw [hq]; exact ⟨rfl, rfl⟩) | (have hq : readQ s = (zR, false) := (by first | exact rq_few (by assumption) | exact riq_num ee hn (by assumption) | exact Ez ee hg (by assumption) | exact riq_ok ee hR.1 hg hn (by assumption) | exact riq_no ee hR.1 hg hn (by assumption)); refine Ei [3] (.inr rfl) rfl rfl rfl rfl (show (List.range 0 ++ [3]).Nodup by decide) ?_; rw [hq]; exact ⟨rfl, rfl⟩) | (have hq : readQ s = (zR, false) := (by first | exact rq_few (by assumption) | exact riq_num ee hn (by assumption) | exact Ez ee hg (by assumption) | exact riq_ok ee hR.1 hg hn (by assumption) | exact riq_no ee hR.1 hg hn (by assumption)); refine Ei [4] (.inr rfl) rfl rfl rfl rfl (show (List.range 0 ++ [4]).Nodup by decide) ?_; rw [hq]; exact ⟨rfl, rfl⟩) | (refine Ei [3] (.inr rfl) rfl rfl rfl rfl (show (List.range 0 ++ [3]).Nodup by decide) ?_; rw [riq_yes ee hR.1 hg hn (by assumption) (by assumption)]; refine ⟨?_, rfl⟩; rw [show ws.length = (ws.map fN).length from (List.length_map ..).symm])
 intro h19
 try rw [nnp] at h19
 first | (have h4 : ¬ ((cutL 32 s).length : Int) < 4 := h19; obtain ⟨u0, u1, u2, u3, xs, ee⟩ := four_of h4; obtain ⟨hcw, hxl⟩ := cut_four hs ee; rw [ee]) | skip
 refine Eh rfl (Eh rfl (Ea (Er rfl rfl) (Ea (Ee rfl) (Eh rfl (Eh rfl (Eh rfl (Ea (Er rfl rfl) (Ea (Ee rfl) (Eh rfl (Eh rfl (Fd (is := [0, 2, 5, 73, 75]) rfl ?_)))))))))))
 refine Eh rfl (Eh rfl (Ea (Er rfl rfl) (Ed (Ec (Eb [2, 5, 78] rfl (s_condT rfl (Ef (Eg (Ea (o_bd rfl rfl) (s_opN (o_stnC rfl rfl rfl rfl rfl rfl rfl) (Ea (Ee rfl) ?_)))))))))))
 refine Ed (Ec (Eb [2, 3] rfl ?_))
 first | refine s_nilC 0 5 1 rfl rfl rfl rfl rfl ?_ | skip
 refine Ej (Eu ?_)
 · first | (have hq : readQ s = (zR, false) := (by first | exact rq_few (by assumption) | exact riq_num ee hn (by assumption) | exact Ez ee hg (by assumption) | exact riq_ok ee hR.1 hg hn (by assumption) | exact riq_no ee hR.1 hg hn (by assumption)); refine Ei [2] (.inr rfl) rfl rfl rfl rfl (show (List.range 0 ++ [2]).Nodup by decide) ?_; rw [hq]; exact ⟨rfl, rfl⟩) | (have hq : readQ s = (zR, false) := (by first | exact rq_few (by assumption) | exact riq_num ee hn (by assumption) | exact Ez ee hg (by assumption) | exact riq_ok ee hR.1 hg hn (by assumption) | exact riq_no ee hR.1 hg hn (by assumption)); refine Ei [3] (.inr rfl) rfl rfl rfl rfl (show (List.range 0 ++ [3]).Nodup by decide) ?_; rw [hq]; exact ⟨rfl, rfl⟩) | (have hq : readQ s = (zR, false) := (by first | exact rq_few (by assumption) | exact riq_num ee hn (by assumption) | exact Ez ee hg (by assumption) | exact riq_ok ee hR.1 hg hn (by assumption) | exact riq_no ee hR.1 hg hn (by assumption)); refine Ei [4] (.inr rfl) rfl rfl rfl rfl (show (List.range 0 ++ [4]).Nodup by decide) ?_; rw [hq]; exact ⟨rfl, rfl⟩) | (refine Ei [3] (.inr rfl) rfl rfl rfl rfl (show (List.range 0 ++ [3]).Nodup by decide) ?_; rw [riq_yes ee hR.1 hg hn (by assumption) (by assumption)]; refine ⟨?_, rfl⟩; rw [show ws.length = (ws.map fN).length from (List.length_map ..).symm])
 refine ⟨_, _, rfl, rfl, ?_⟩
 refine Ea (Ee rfl) (Ea (o_ext rfl rfl) (Ea (o_ext rfl rfl) (Ea (Ee rfl) (Ea (Ee rfl) (Ed (Ec (Eb [0, 2, 5, 7, 8, 9, 10] rfl (Ef (Eg (Ea (Ee rfl) (Ea (Ee rfl) ?_)))))))))))
 refine Ea (Ep rfl) (s_opN (o_stC rfl rfl rfl rfl rfl rfl) (Ea (Ep rfl) (s_opN (o_stC rfl rfl rfl rfl rfl rfl) (Ed (Ec (Eb [0, 2, 5, 8, 10] rfl (Ef (Ef (Eg (Ea (Ee rfl) (Ea (o_not rfl) ?_)))))))))))
 refine Ea (Ee rfl) ?_
 first | refine s_gDF rfl ?_ ?_ | refine s_gNDF rfl ?_ ?_ | refine s_gNF rfl ?_ ?_ | refine s_gB rfl ?_ ?_
 intro h22
 try rw [nnp] at h22
 first | (have h4 : ¬ ((cutL 32 s).length : Int) < 4 := h22; obtain ⟨u0, u1, u2, u3, xs, ee⟩ := four_of h4; obtain ⟨hcw, hxl⟩ := cut_four hs ee; rw [ee]) | skip
 refine Ea (Ee rfl) (Ev rfl (Ea (o_not rfl) (Ea (En rfl rfl) (Ea (Ee rfl) (Eh rfl (Eh rfl (Eh rfl (Ea (Er rfl rfl) (Ea (Ee rfl) (Eh rfl (Eh rfl ?_)))))))))))
 refine Fd (is := [0, 2, 5, 73, 75]) rfl (Eh rfl (Eh rfl (Ea (Er rfl rfl) (Ed (Ec (Eb [2, 5, 78] rfl (s_condT rfl (Ef (Eg (Ea (o_bd rfl rfl) (s_opN (o_stnC rfl rfl rfl rfl rfl rfl rfl) ?_)))))))))))
 refine Ea (Ee rfl) (Ed (Ec (Eb [2, 3] rfl ?_)))
 first | refine s_nilC 0 5 1 rfl rfl rfl rfl rfl ?_ | skip
 refine Ej (Eu ?_)
 · first | (have hq : readQ s = (zR, false) := (by first | exact rq_few (by assumption) | exact riq_num ee hn (by assumption) | exact Ez ee hg (by assumption) | exact riq_ok ee hR.1 hg hn (by assumption) | exact riq_no ee hR.1 hg hn (by assumption)); refine Ei [2] (.inr rfl) rfl rfl rfl rfl (show (List.range 0 ++ [2]).Nodup by decide) ?_; rw [hq]; exact ⟨rfl, rfl⟩) | (have hq : readQ s = (zR, false) := (by first | exact rq_few (by assumption) | exact riq_num ee hn (by assumption) | exact Ez ee hg (by assumption) | exact riq_ok ee hR.1 hg hn (by assumption) | exact riq_no ee hR.1 hg hn (by assumption)); refine Ei [3] (.inr rfl) rfl rfl rfl rfl (show (List.range 0 ++ [3]).Nodup by decide) ?_; rw [hq]; exact ⟨rfl, rfl⟩) | (have hq : readQ s = (zR, false) := (by first | exact rq_few (by assumption) | exact riq_num ee hn (by assumption) | exact Ez ee hg (by assumption) | exact riq_ok ee hR.1 hg hn (by assumption) | exact riq_no ee hR.1 hg hn (by assumption)); refine Ei [4] (.inr rfl) rfl rfl rfl rfl (show (List.range 0 ++ [4]).Nodup by decide) ?_; rw [hq]; exact ⟨rfl, rfl⟩) | (refine Ei [3] (.inr rfl) rfl rfl rfl rfl (show (List.range 0 ++ [3]).Nodup by decide) ?_; rw [riq_yes ee hR.1 hg hn (by assumption) (by assumption)]; refine ⟨?_, rfl⟩; rw [show ws.length = (ws.map fN).length from (List.length_map ..).symm])
 intro h22
 try rw [nnp] at h22
 first | (have h4 : ¬ ((cutL 32 s).length : Int) < 4 := h22; obtain ⟨u0, u1, u2, u3, xs, ee⟩ := four_of h4; obtain ⟨hcw, hxl⟩ := cut_four hs ee; rw [ee]) | skip
 refine Eh rfl (Eh rfl (Ea (Er rfl rfl) (Ea (Ee rfl) (Eh rfl (Eh rfl (Eh rfl (Ea (Er rfl rfl) (Ea (Ee rfl) (Eh rfl (Eh rfl (Fd (is := [0, 2, 5, 73, 75]) rfl ?_)))))))))))
 refine Eh rfl (Eh rfl (Ea (Er rfl rfl) (Ed (Ec (Eb [2, 5, 78] rfl (s_condT rfl (Ef (Eg (Ea (o_bd rfl rfl) (s_opN (o_stnC rfl rfl rfl rfl rfl rfl rfl) (Ea (Ee rfl) ?_)))))))))))
 refine Ed (Ec (Eb [2, 3] rfl ?_))
 first | refine s_nilC 0 5 1 rfl rfl rfl rfl rfl ?_ | skip
 refine Ej (Eu ?_)
 · first | (have hq : readQ s = (zR, false) := (by first | exact rq_few (by assumption) | exact riq_num ee hn (by assumption) | exact Ez ee hg (by assumption) | exact riq_ok ee hR.1 hg hn (by assumption) | exact riq_no ee hR.1 hg hn (by assumption)); refine Ei [2] (.inr rfl) rfl rfl rfl rfl (show (List.range 0 ++ [2]).Nodup by decide) ?_; rw [hq]; exact ⟨rfl, rfl⟩) | (have hq : readQ s = (zR, false) := (by first | exact rq_few (by assumption) | exact riq_num ee hn (by assumption) | exact Ez ee hg (by assumption) | exact riq_ok ee hR.1 hg hn (by assumption) | exact riq_no ee hR.1 hg hn (by assumption)); refine Ei [3] (.inr rfl) rfl rfl rfl rfl (show (List.range 0 ++ [3]).Nodup by decide) ?_; rw [hq]; exact ⟨rfl, rfl⟩) | (have hq : readQ s = (zR, false) := (by first | exact rq_few (by assumption) | exact riq_num ee hn (by assumption) | exact Ez ee hg (by assumption) | exact riq_ok ee hR.1 hg hn (by assumption) | exact riq_no ee hR.1 hg hn (by assumption)); refine Ei [4] (.inr rfl) rfl rfl rfl rfl (show (List.range 0 ++ [4]).Nodup by decide) ?_; rw [hq]; exact ⟨rfl, rfl⟩) | (refine Ei [3] (.inr rfl) rfl rfl rfl rfl (show (List.range 0 ++ [3]).Nodup by decide) ?_; rw [riq_yes ee hR.1 hg hn (by assumption) (by assumption)]; refine ⟨?_, rfl⟩; rw [show ws.length = (ws.map fN).length from (List.length_map ..).symm])
theorem rq_small (s : List UInt8) : (readQ s).1.data.length ≤ 8 := by
 by_cases h : readQ s = (zR, false)
 · rw [h]; decide
 · obtain ⟨r, h1, _, h3⟩ := rq_some h
   rw [h3]; exact Req.ok_len h1
theorem c_453y {s : List UInt8} {R : Req} {b : Bool} (h : readQ s = (R, b)) (hs : s.length ≤ 1048576) : CV prg 453 [.w (.string ⟨s.toArray⟩)] (fun v => v = .tup [.agg R.r, .w (.bool b)]) := by have := c_453 s hs; rwa [h] at this
theorem cg_454y {s : List UInt8} {R : Req} {b : Bool} (h : readQ s = (R, b)) (hs : s.length ≤ 1048576) : GV prg 454 [] [.w (.string ⟨s.toArray⟩)] (fun u L1 => u = .tup [.agg [.w (.bool R.write), .w (.int .i64 R.addr), .w (.int .i64 R.size), .w (.int .i64 R.burst), .w (.bool R.lock), .ls 0 R.data.length], .w (.bool b)] ∧ L1 = [.arr 1 (R.data.map iR)]) := by have := cg_454 s hs; rwa [h] at this
theorem cg_469 (code : List Int) (hc : code.length ≤ 1048576) (i h : Int) (hi : 0 ≤ i ∧ i ≤ code.length) (xs : List (List UInt8)) (hx0 : 0 < xs.length) (hx1 : xs.length ≤ 1048576) (hb : ∀ y, y ∈ xs → y.length ≤ 300) : GV prg 469 [cur code i h, .arr 1 (xs.map stR)] [.cp 0 0, .ls 1 (xs.map stR).length] (fun u L1 => (∃ x : List UInt8, u = .w (.string ⟨x.toArray⟩) ∧ x.length ≤ 300) ∧ ∃ (i h : Int), (0 ≤ i ∧ i ≤ code.length) ∧ L1 = [cur code i h, .arr 1 (xs.map stR)]) := by
 refine gv_in g469 (Eb [0, 1] rfl (Ef (Eg (Ea (Ee rfl) (Ed (Ec (Eb [0, 1] rfl (Ef (Eg (Ea (Ee rfl) (Ea (Ee rfl) ?_)))))))))))
 refine Ea (Ee rfl) (Ea (o_lenL rfl rfl (by simp)) (Fc [0] rfl rfl rfl rfl (by simp) (.inl rfl) (cg_228 _ hc _ _ hi _) ?_))
 rintro u L1 ⟨⟨x, rfl, hx⟩, i, h, hi, rfl⟩
 refine ⟨_, _, rfl, rfl, ?_⟩
 have hx2 := hx.1 (by simp; omega)
 rw [List.length_map] at hx2
 obtain ⟨y, hy⟩ : ∃ y, xs[x.toNat]? = some y := ⟨_, List.getElem?_eq_getElem (by omega)⟩
 refine Ea (o_iaL rfl rfl (by simp) rfl (by rw [List.length_map]; omega)) ?_
 refine Ea (o_ldA rfl rfl (by simp) (by rw [List.getElem?_map, hy]; rfl) rfl) ?_
 refine Ea (Ee rfl) (Ed (Ec (Eb [4] rfl (Ej ?_))))
 · refine Ei [] (.inr rfl) rfl rfl rfl rfl (show (List.range 2 ++ []).Nodup by decide) ?_
   exact ⟨⟨_, rfl, hb _ (List.mem_of_getElem? hy)⟩, _, _, (by omega), rfl⟩
theorem c_458 (code : List Int) (hc : code.length ≤ 1048576) : CV prg 458 [.sl 1 (code.map uR)] (fun u => ∃ s : List UInt8, u = .w (.string ⟨s.toArray⟩) ∧ s.length ≤ 300) := by
 refine cv_in g458 (Eb [0] rfl (Ef (Eg (Ea (Ee rfl) (Ed (Ec (Eb [0] rfl (Ef (Eg (Ea (Ee rfl) (Fc [] rfl rfl rfl rfl (by simp) (.inl rfl) (cgf_231 _ hc) ?_)))))))))))
 rintro u L1 ⟨rfl, rfl⟩
 refine ⟨_, _, rfl, rfl, ?_⟩
 have hi : (0 : Int) ≤ 0 ∧ (0 : Int) ≤ (code.length : Int) := by omega
 refine Ea (Ee rfl) (Ed (Ec (Eb [3] rfl (Ef (Eg (Ea (Ee rfl) (Fc [0] rfl rfl rfl rfl (by simp) (.inl rfl) (cg_241 _ hc _ _ hi) ?_)))))))
 rintro u L1 ⟨⟨z, rfl, hz⟩, i, h, hi, rfl⟩
 refine ⟨_, _, rfl, rfl, ?_⟩
 first | refine Ew rfl rfl (c_462 z (Nat.le_trans hz (by decide))) ?_ | refine Fa rfl rfl (by simp) (c_462 z (Nat.le_trans hz (by decide))) rfl ?_
 have hzl := reqT_len z
 refine Ea (Ee rfl) (Ed (Ec (Eb [3, 4] rfl (Ef (Ef (Eg (Ea (Ee rfl) (Fc [0] rfl rfl rfl rfl (by simp) (.inl rfl) (cgf_228 _ hc _ _ hi _) ?_))))))))
 rintro u L1 ⟨k, i, h, hFk, rfl, hk, hi, rfl⟩
 refine ⟨_, _, rfl, rfl, ?_⟩
 refine Ed (Ec (Eb [3, 4, 11] rfl (Fb (Ef (Eg (Ea (o_eql rfl rfl) (Ea (Ee rfl) (Ed (Ec (Eb [3, 4, 11, 12] rfl ?_))))))))))
 first | refine Em rfl ?_ ?_ | refine Ek rfl ?_ ?_
 intro h1
 try rw [nnp] at h1
 refine Ef (Eg (Ea (Ee rfl) (Ea (Ee rfl) (Fc [0] rfl rfl rfl rfl (by simp) (.inl rfl) (cgf_235 _ hc _ _ hi _ (by omega)) ?_))))
 rintro u L1 ⟨w, i, h, hFw, rfl, hw, hi, rfl⟩
 refine ⟨_, _, rfl, rfl, ?_⟩
 refine Ea (Ee rfl) (Ed (Ec (Eb [2] rfl (Ej (q_blkR (Eu ?_))))))
 · refine ret_leaf (.inr rfl) rfl rfl ?_
   first | exact ⟨_, rfl, hv⟩ | exact ⟨_, rfl, by omega⟩
 intro h1
 try rw [nnp] at h1
 refine Ef (Eg (Ea (o_eql rfl rfl) (Ea (Ee rfl) (Ed (Ec (Eb [3, 4, 17] rfl ?_))))))
 first | refine Em rfl ?_ ?_ | refine Ek rfl ?_ ?_
 intro h2
 try rw [nnp] at h2
 refine Ef (Eg (Ea (Ee rfl) (Ea (Ee rfl) (Ea (o_adds rfl rfl (by simp only [List.length_cons, List.length_nil]; omega)) (Ea (o_bs rfl rfl rfl rfl) (Fc [0, 1] rfl rfl rfl rfl (by simp) (.inl rfl) (cg_469 _ hc _ _ hi [[], [114, 101, 97, 100, 32, 119, 111, 114, 100, 32, 111, 110, 101, 32, 48], [114, 101, 97, 100, 32, 119, 111, 114, 100, 32, 111, 110, 101, 32, 50], [114, 101, 97, 100, 32, 119, 111, 114, 100, 32, 111, 110, 101, 32, 48, 32, 53], [119, 114, 105, 116, 101, 32, 98, 121, 116, 101, 32, 111, 110, 101, 32, 51, 32, 50, 53, 54], [119, 114, 105, 116, 101, 32, 98, 121, 116, 101, 32, 111, 110, 101, 32, 51, 32, 50, 53, 53], [114, 101, 97, 100, 32, 119, 111, 114, 100, 32, 102, 111, 117, 114, 32, 54, 48], [114, 101, 97, 100, 32, 119, 111, 114, 100, 32, 119, 114, 97, 112, 32, 54, 48, 32, 108, 111, 99, 107], [114, 101, 97, 100, 32, 32, 111, 110, 101, 32, 48], reqT z ++ [32]] (by simp) (by simp) (by simp; omega)) ?_))))))
 rintro u L1 ⟨⟨v, rfl, hv⟩, i, h, hi, rfl⟩
 refine ⟨_, _, rfl, rfl, ?_⟩
 refine Ea (Ee rfl) (Ed (Ec (Eb [2] rfl (Ej (q_blkR (Eu ?_))))))
 · refine ret_leaf (.inr rfl) rfl rfl ?_
   first | exact ⟨_, rfl, hv⟩ | exact ⟨_, rfl, by omega⟩
 intro h2
 try rw [nnp] at h2
 refine Et (q_blkN (Ec (Eb [4] rfl (Ef (Eg (Ea (Ee rfl) (Ea (Ee rfl) (Ed (Ec (Eb [2] rfl (Ej ?_)))))))))))
 · refine ret_leaf (.inr rfl) rfl rfl ?_
   first | exact ⟨_, rfl, hv⟩ | exact ⟨_, rfl, by omega⟩
theorem c_456 (code : List Int) (hc : code.length ≤ 1048576) : CV prg 456 [.sl 1 (code.map uR)] (fun u => ∃ r : Req, u = .agg r.r ∧ r.data.length ≤ 16) := by
 refine cv_in g456 (Eb [0] rfl (Ef (Eg (Ea (o_new rfl rfl) (Ed (Ec (Eb [0, 2] rfl (Ef (Eg (Ea (Ee rfl) (Fc [] rfl rfl rfl rfl (by simp) (.inl rfl) (cgf_231 _ hc) ?_)))))))))))
 rintro u L1 ⟨rfl, rfl⟩
 refine ⟨_, _, rfl, rfl, ?_⟩
 have hi : (0 : Int) ≤ 0 ∧ (0 : Int) ≤ (code.length : Int) := by omega
 refine Fc [1] rfl rfl rfl rfl (by simp) (.inl rfl) (cg_239 _ hc _ _ hi) ?_
 rintro u L1 ⟨⟨x, rfl, hx⟩, i, h, hi, rfl⟩
 refine ⟨_, _, rfl, rfl, ?_⟩
 refine s_opN (o_stnC rfl rfl rfl rfl rfl rfl rfl) (Ed (Ec (Eb [2] rfl (Ej ?_))))
 · refine ret_leaf (.inr rfl) rfl rfl ?_
   exact ⟨_, rfl, hx⟩
theorem rq_fact (r : Req) : ∃ X b, readQ (reqT r) = (X, b) ∧ b = r.ok ∧ (b = true → X = r) := by
 by_cases h : r.ok = true
 · exact ⟨r, true, rq_of h, h.symm, fun _ => rfl⟩
 · have e : r.ok = false := by simpa using h
   refine ⟨zR, false, ?_, e.symm, fun k => by cases k⟩
   rw [reqT_no h]; exact rq_few (by decide)
theorem rq_text {s : List UInt8} {R : Req} {b : Bool} (h : readQ s = (R, b)) (hb : b = true) : reqT R = s := by
 subst hb
 obtain ⟨r, _, h2, h3⟩ := rq_some (s := s) (by rw [h]; intro e; cases e)
 rw [h] at h3; cases h3; exact h2
theorem c_452 (code : List Int) (hw : code.length ≤ 140737488355328) : CV prg 452 [.sl 1 (code.map uR)] (fun res => res = .w (.bool true)) := by
 refine cv_in g452 (Eb [0] rfl (Ef (Eg (Ea (Ee rfl) (Ed (Ec (Eb [0] rfl (Ef (Ef (Eg (Ea (Ee rfl) ?_)))))))))))
 refine Ew rfl rfl (c_123 code hw) (Ed (Ec (Eb [0, 12] rfl ?_)))
 first | refine Em rfl ?_ ?_ | refine s_condN rfl ?_ ?_ | refine s_condNB rfl ?_ ?_ | refine Ek rfl ?_ ?_
 intro h1
 try rw [nnp] at h1
 refine Ef (Eg (Ea (Ee rfl) (Ed (Ec (Eb [2] rfl (Ej (Eu (Eo rfl rfl ?_))))))))
 rotate_left
 intro h1
 try rw [nnp] at h1
 refine Et (Ec (Eb [0] rfl (Ef (Eg (Ea (Ee rfl) (s_callP rfl rfl (c_456 _ (by omega)) ?_))))))
 rintro u ⟨r, rfl, hr⟩
 have hrs : r.small := Nat.le_trans hr (by decide)
 obtain ⟨X, b1, hX, hb1, hXr⟩ := rq_fact r
 have hXs : X.small := by have := rq_small (reqT r); rw [hX] at this; exact Nat.le_trans this (by decide)
 refine Ea (o_new rfl rfl) (s_opN (o_stnC rfl rfl rfl rfl rfl rfl rfl) (Ed (Ec (Eb [0, 3] rfl (Ef (Eg (Ea (o_ldnC rfl rfl rfl) ?_)))))))
 first | refine Ew rfl rfl (c_457 r hrs) ?_ | refine Fa rfl rfl (by simp) (c_457 r hrs) rfl ?_
 refine Fc [] rfl rfl rfl rfl (by simp) (.inl rfl) (cg_454y hX (by have := reqT_len r; omega)) ?_
 rintro u L1 ⟨rfl, rfl⟩
 refine ⟨_, _, rfl, rfl, ?_⟩
 refine Ea (Ee rfl) (Ea (o_ext rfl rfl) (Ea (o_ext rfl rfl) (Ea (o_new rfl rfl) (s_opN (o_stnC rfl rfl rfl rfl rfl rfl rfl) (Ea (Ee rfl) (Ed (Ec (Eb [0, 3, 4, 5] rfl (Ef (Eg (Ea (Ee rfl) ?_)))))))))))
 refine s_callP rfl rfl (c_458 _ (by omega)) ?_
 rintro u ⟨s, rfl, hs⟩
 obtain ⟨R, b2, hS⟩ : ∃ R b, readQ s = (R, b) := ⟨_, _, rfl⟩
 have hRs : R.small := by have := rq_small s; rw [hS] at this; exact Nat.le_trans this (by decide)
 have hRt := rq_text hS
 refine Ea (Ee rfl) (Ed (Ec (Eb [3, 4, 5, 6] rfl (Ef (Eg (Ea (Ee rfl) (Fc [] rfl rfl rfl rfl (by simp) (.inl rfl) (cg_454y hS (by omega)) ?_)))))))
 rintro u L1 ⟨rfl, rfl⟩
 refine ⟨_, _, rfl, rfl, ?_⟩
 refine Ea (Ee rfl) (Ea (o_ext rfl rfl) (Ea (o_ext rfl rfl) (Ea (o_new rfl rfl) (s_opN (o_stnC rfl rfl rfl rfl rfl rfl rfl) (Ea (Ee rfl) (Ed (Ec (Eb [3, 4, 5, 6, 7, 8] rfl (Ef (Eg (Ea (Ee rfl) ?_)))))))))))
 first | refine Ew rfl rfl (c_453y hS (by omega)) ?_ | refine Fa rfl rfl (by simp) (c_453y hS (by omega)) rfl ?_
 refine Ea (Ee rfl) (Ea (o_ext rfl rfl) (Ea (o_ext rfl rfl) (Ea (o_new rfl rfl) (s_opN (o_stnC rfl rfl rfl rfl rfl rfl rfl) (Ea (Ee rfl) (Ed (Ec (Eb [3, 4, 5, 6, 7, 8, 10] rfl (Ef (Eg (Ea (Ee rfl) ?_)))))))))))
 refine Ea (o_ldnC rfl rfl rfl) ?_
 first | refine Ew rfl rfl (c_207 r hrs) ?_ | refine Fa rfl rfl (by simp) (c_207 r hrs) rfl ?_
 refine Ea (o_eqb rfl rfl) (Ea (Ee rfl) ?_)
 refine s_gB rfl ?_ ?_
 intro h2
 try rw [nnp] at h2
 refine Ea (Ee rfl) (Ev rfl (Ea (o_ldnC rfl rfl rfl) (Ev rfl ?_)))
 first | refine Ew rfl rfl (c_66 r hrs) ?_ | refine Fa rfl rfl (by simp) (c_66 r hrs) rfl ?_
 refine Ev rfl (Ea (o_eqb rfl rfl) (Ea (Er rfl rfl) (Ea (Ee rfl) ?_)))
 refine s_gB rfl ?_ ?_
 intro h3
 try rw [nnp] at h3
 refine Ea (Ee rfl) (Ev rfl (Ea (o_not rfl) (Ev rfl (Ea (Ee rfl) (Fd (is := [3, 4, 6, 7, 8, 10, 43, 46]) rfl ?_)))))
 first | refine s_gDF rfl ?_ ?_ | refine s_gNDF rfl ?_ ?_ | refine s_gNF rfl ?_ ?_ | refine s_gB rfl ?_ ?_
 intro h4
 try rw [nnp] at h4
 refine Ea (o_ldnC rfl rfl rfl) (Ev rfl (Ea (o_ldnC rfl rfl rfl) (Ev rfl ?_)))
 first | refine Ew rfl rfl (c_211 X r hXs) ?_ | refine Fa rfl rfl (by simp) (c_211 X r hXs) rfl ?_
 refine Ev rfl (Ea (Ee rfl) ?_)
 first | refine s_gDT rfl ?_ ?_ | refine s_gNDT rfl ?_ ?_ | refine s_gNT rfl ?_ ?_ | refine s_gB rfl ?_ ?_
 intro h5
 try rw [nnp] at h5
 refine Ea (o_ldnC rfl rfl rfl) (Ev rfl (Ea (o_ldnC rfl rfl rfl) (Ev rfl ?_)))
 first | refine Ew rfl rfl (c_71 X r hXs) ?_ | refine Fa rfl rfl (by simp) (c_71 X r hXs) rfl ?_
 refine Ev rfl (Ea (Er rfl rfl) (Ev rfl (Ea (En rfl rfl) (Ea (Er rfl rfl) (Ea (Ee rfl) ?_)))))
 first | refine s_gDT rfl ?_ ?_ | refine s_gNDT rfl ?_ ?_ | refine s_gNT rfl ?_ ?_ | refine s_gB rfl ?_ ?_
 intro h6
 try rw [nnp] at h6
 refine Ea (Ee rfl) (Ev rfl (Ea (Ee rfl) (Ev rfl (Ea (o_eqb rfl rfl) (Fd (is := [6, 7, 8, 57, 60]) rfl (Ea (Er rfl rfl) (Ea (Ee rfl) ?_)))))))
 refine s_gB rfl ?_ ?_
 intro h7
 try rw [nnp] at h7
 refine Ea (Ee rfl) (Ev rfl (Ea (o_not rfl) (Ev rfl (Ea (Ee rfl) ?_))))
 first | refine s_gDF rfl ?_ ?_ | refine s_gNDF rfl ?_ ?_ | refine s_gNF rfl ?_ ?_ | refine s_gB rfl ?_ ?_
 intro h8
 try rw [nnp] at h8
 refine Ea (o_ldnC rfl rfl rfl) (Ev rfl ?_)
 first | refine Ew rfl rfl (c_457 R hRs) ?_ | refine Fa rfl rfl (by simp) (c_457 R hRs) rfl ?_
 refine Ev rfl (Ea (Ee rfl) (Ev rfl (Ea (o_eqls rfl rfl) (Ev rfl (Ea (En rfl rfl) (Ea (Er rfl rfl) (Ea (Ee rfl) (Ed (Ec (Eb [2] rfl (Ej ?_)))))))))))
 refine Eo rfl rfl ?_
 rotate_left
 intro h8
 try rw [nnp] at h8
 refine Eh rfl (Eh rfl (Eh rfl (Eh rfl (Ev rfl (Ea (Er rfl rfl) (Ea (Er rfl rfl) (Ea (Ee rfl) (Ed (Ec (Eb [2] rfl (Ej ?_)))))))))))
 refine Eo rfl rfl ?_
 rotate_left
 intro h7
 try rw [nnp] at h7
 refine Eh rfl (Eh rfl (Eh rfl (s_gN rfl (s_gN rfl (s_gN rfl (s_gN rfl (Eh rfl (Ea (En rfl rfl) (Ea (Ee rfl) (Ed (Ec ?_)))))))))))
 refine Eb [2] rfl (Ej (Eo rfl rfl ?_))
 rotate_left
 intro h6
 try rw [nnp] at h6
 refine Eh rfl (Eh rfl (Eh rfl (Fd (is := [6, 7, 8, 57, 60]) rfl (Ea (En rfl rfl) (Ea (Ee rfl) (Eh rfl (Eh rfl (Eh rfl (s_gN rfl (s_gN rfl (s_gN rfl ?_)))))))))))
 refine s_gN rfl (Eh rfl (Ea (En rfl rfl) (Ea (Ee rfl) (Ed (Ec (Eb [2] rfl (Ej (Eo rfl rfl ?_))))))))
 rotate_left
 intro h5
 try rw [nnp] at h5
 refine Eh rfl (Eh rfl (Eh rfl (Ev rfl (Ea (En rfl rfl) (Ev rfl (Ea (En rfl rfl) (Ea (Er rfl rfl) (Ea (Ee rfl) (Eh rfl (Eh rfl (Eh rfl ?_)))))))))))
 refine Fd (is := [6, 7, 8, 57, 60]) rfl (Ea (En rfl rfl) (Ea (Ee rfl) (Eh rfl (Eh rfl (Eh rfl (s_gN rfl (s_gN rfl (s_gN rfl (s_gN rfl (Eh rfl (Ea (En rfl rfl) ?_)))))))))))
 refine Ea (Ee rfl) (Ed (Ec (Eb [2] rfl (Ej (Eo rfl rfl ?_)))))
 rotate_left
 intro h4
 try rw [nnp] at h4
 refine Eh rfl (Eh rfl (Eh rfl (Eh rfl (s_gN rfl (s_gN rfl (s_gN rfl (Eh rfl (Ev rfl (Ea (Er rfl rfl) (Ea (Er rfl rfl) (Ea (Ee rfl) ?_)))))))))))
 refine Ev rfl (Ea (Ee rfl) (Ev rfl (Ea (Ee rfl) (Ev rfl (Ea (o_eqb rfl rfl) (Fd (is := [6, 7, 8, 57, 60]) rfl (Ea (Er rfl rfl) (Ea (Ee rfl) ?_))))))))
 refine s_gB rfl ?_ ?_
 intro h9
 try rw [nnp] at h9
 refine Ea (Ee rfl) (Ev rfl (Ea (o_not rfl) (Ev rfl (Ea (Ee rfl) ?_))))
 first | refine s_gDF rfl ?_ ?_ | refine s_gNDF rfl ?_ ?_ | refine s_gNF rfl ?_ ?_ | refine s_gB rfl ?_ ?_
 intro h10
 try rw [nnp] at h10
 refine Ea (o_ldnC rfl rfl rfl) (Ev rfl ?_)
 first | refine Ew rfl rfl (c_457 R hRs) ?_ | refine Fa rfl rfl (by simp) (c_457 R hRs) rfl ?_
 refine Ev rfl (Ea (Ee rfl) (Ev rfl (Ea (o_eqls rfl rfl) (Ev rfl (Ea (En rfl rfl) (Ea (Er rfl rfl) (Ea (Ee rfl) (Ed (Ec (Eb [2] rfl (Ej ?_)))))))))))
 refine Eo rfl rfl ?_
 rotate_left
 intro h10
 try rw [nnp] at h10
 refine Eh rfl (Eh rfl (Eh rfl (Eh rfl (Ev rfl (Ea (Er rfl rfl) (Ea (Er rfl rfl) (Ea (Ee rfl) (Ed (Ec (Eb [2] rfl (Ej ?_)))))))))))
 refine Eo rfl rfl ?_
 rotate_left
 intro h9
 try rw [nnp] at h9
 refine Eh rfl (Eh rfl (Eh rfl (s_gN rfl (s_gN rfl (s_gN rfl (s_gN rfl (Eh rfl (Ea (En rfl rfl) (Ea (Ee rfl) (Ed (Ec ?_)))))))))))
 refine Eb [2] rfl (Ej (Eo rfl rfl ?_))
 rotate_left
 intro h3
 try rw [nnp] at h3
 refine Eh rfl (Eh rfl (Eh rfl (Fd (is := [3, 4, 6, 7, 8, 10, 43, 46]) rfl ?_)))
 iterate 8 refine s_gN rfl ?_
 refine Eh rfl (Ea (En rfl rfl) (Ea (Ee rfl) (Eh rfl (Eh rfl (Eh rfl (Fd (is := [6, 7, 8, 57, 60]) rfl (Ea (En rfl rfl) (Ea (Ee rfl) (Eh rfl (Eh rfl (Eh rfl ?_)))))))))))
 refine s_gN rfl (s_gN rfl (s_gN rfl (s_gN rfl (Eh rfl (Ea (En rfl rfl) (Ea (Ee rfl) (Ed (Ec (Eb [2] rfl (Ej (Eo rfl rfl ?_)))))))))))
 rotate_left
 intro h2
 try rw [nnp] at h2
 refine Eh rfl (Eh rfl (Eh rfl (Eh rfl (Ea (En rfl rfl) (Ea (Ee rfl) (Eh rfl (Eh rfl (Eh rfl (Fd (is := [3, 4, 6, 7, 8, 10, 43, 46]) rfl ?_)))))))))
 iterate 8 refine s_gN rfl ?_
 refine Eh rfl (Ea (En rfl rfl) (Ea (Ee rfl) (Eh rfl (Eh rfl (Eh rfl (Fd (is := [6, 7, 8, 57, 60]) rfl (Ea (En rfl rfl) (Ea (Ee rfl) (Eh rfl (Eh rfl (Eh rfl ?_)))))))))))
 refine s_gN rfl (s_gN rfl (s_gN rfl (s_gN rfl (Eh rfl (Ea (En rfl rfl) (Ea (Ee rfl) (Ed (Ec (Eb [2] rfl (Ej (Eo rfl rfl ?_)))))))))))
 rotate_left
 all_goals
  first | rfl | exact decide_eq_true (hRt (by assumption)) | (exfalso; exact absurd (hXr (by assumption)) (by assumption)) | (exfalso; subst hb1; simp at *; done) | (exfalso; subst hb1; clear hX hS; simp_all; done)
end Go.Proofs.YtoppcdecolponaaGreatDoor.AL
