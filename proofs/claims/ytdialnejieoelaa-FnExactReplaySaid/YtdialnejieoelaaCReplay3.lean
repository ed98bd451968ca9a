/- What functions do with plain data, each by the form of its code. Printed by program. -/
import Derived.Test.YtdialnejieoelaaCReplay2
namespace Go.Proofs.Ytdialnejieoelaa.AL
open Go
set_option linter.unusedVariables false
set_option linter.unusedSimpArgs false
set_option maxRecDepth 4096
theorem ret_leafQ {res post e tl L v u p u'} (he : e = .normal ∨ e = .ret) (h1 : retV tl L res = some v) (h2 : fr L 6 v = some (u, p)) (h3 : ∀ e, e ∈ p → e.1 = e.2) (hw : Wk u u') (h : post u') : Ret res post e tl L := ⟨he, v, u, p, u', h1, h2, h3, hw, h⟩
theorem wk4 {a b c d a' b' c' d' : V} (h1 : Wk a a') (h2 : Wk b b') (h3 : Wk c c') (h4 : Wk d d') : Wk (.agg [a, b, c, d]) (.agg [a', b', c', d']) := .agg rfl (Wks.pt (l := [a, b, c, d]) (r := [a', b', c', d']) ⟨h1, h2, h3, h4, trivial⟩).2
theorem dev_small {d : Dev} (hs : d.small) (w : Bool) (a v : Int) : (devDo d w a v).1.small := by
 obtain ⟨h1, h2⟩ := hs
 unfold devDo
 (repeat' split) <;> first | exact ⟨h1, h2⟩ | exact ⟨by simpa using h1, h2⟩ | (refine ⟨h1, ?_⟩; simp only [List.length_append, List.length_cons, List.length_nil, List.length_drop]; omega)
theorem mod_small {m : Model} (hs : m.small) (w : Bool) (a z v : Int) : (modelDo m w a z v).1.small := by
 unfold modelDo
 (repeat' split) <;> first | exact hs | skip
 · refine ⟨?_, hs.2⟩
   unfold putN
   split
   · simp only [pset_len]; exact hs.1
   · exact hs.1
 · exact ⟨hs.1, dev_small hs.2 _ _ _⟩
def replayGo : List Done → Int → Model → Model × Int
 | [], _, m => (m, -1)
 | x :: xs, i, m => if x.resp = 1 then replayGo xs (i + 1) m else if (modelDo m x.write x.addr x.size x.value).2.2 = x.resp ∧ (modelDo m x.write x.addr x.size x.value).2.1 = x.value then replayGo xs (i + 1) (modelDo m x.write x.addr x.size x.value).1 else (m, i)
def replay (log : List Done) : Model × Int := replayGo log 0 model0
theorem rg_end {log : List Done} {i : Nat} {k : Int} {m : Model} (h : log.length ≤ i) : replayGo (log.drop i) k m = (m, -1) := by rw [List.drop_eq_nil_iff.2 h]; rfl
theorem drop_at {α : Type} {xs : List α} {i : Nat} {x : α} (h : xs[i]? = some x) : xs.drop i = x :: xs.drop (i + 1) := by
 obtain ⟨h1, h2⟩ := List.getElem?_eq_some_iff.1 h
 rw [List.drop_eq_getElem_cons h1, h2]
theorem rg_skip {log : List Done} {i : Nat} {k : Int} {m : Model} {x : Done} (hx : log[i]? = some x) (h : x.resp = 1) : replayGo (log.drop i) k m = replayGo (log.drop (i + 1)) (k + 1) m := by rw [drop_at hx, replayGo, if_pos h]
theorem rg_next {log : List Done} {i : Nat} {k : Int} {m : Model} {x : Done} (hx : log[i]? = some x) (h : ¬ x.resp = 1) (h2 : (modelDo m x.write x.addr x.size x.value).2.2 = x.resp) (h3 : (modelDo m x.write x.addr x.size x.value).2.1 = x.value) : replayGo (log.drop i) k m = replayGo (log.drop (i + 1)) (k + 1) (modelDo m x.write x.addr x.size x.value).1 := by rw [drop_at hx, replayGo, if_neg h, if_pos ⟨h2, h3⟩]
theorem rg_stop {log : List Done} {i : Nat} {k : Int} {m : Model} {x : Done} (hx : log[i]? = some x) (h : ¬ x.resp = 1) (h2 : ¬ ((modelDo m x.write x.addr x.size x.value).2.2 = x.resp ∧ (modelDo m x.write x.addr x.size x.value).2.1 = x.value)) : replayGo (log.drop i) k m = (m, k) := by rw [drop_at hx, replayGo, if_neg h, if_neg h2]
theorem model0_small : model0.small := by refine ⟨?_, ?_, ?_⟩ <;> simp [model0]
theorem c_202  : CV prg 202 [] (fun res => res = .agg model0.r) := by
 refine cv_in g202 (Eb [] rfl (Eg (Eh (Ea (o_new rfl rfl) (Ef (Ed (Eb [0] rfl (Eg (Eh (Ea (o_mk rfl rfl rfl rfl (by decide) rfl) (s_callG [] rfl rfl rfl rfl (by simp) (.inr rfl) cg_188 ?_)))))))))))
 rintro u L1 ⟨rfl, rfl⟩
 refine ⟨_, _, rfl, rfl, ?_⟩
 refine Ea (o_bd rfl rfl) (Ep (Eo rfl rfl rfl rfl rfl rfl rfl) (Ef (Ed (Eb [0] rfl (Ek ?_)))))
 · refine ret_leafQ (u' := .agg model0.r) (.inr rfl) rfl rfl (by simp) ?_ rfl
   refine wk4 ?_ (.refl _) (.refl _) (.nil _ _)
   rw [rep192]
   exact .refl _
theorem c_360 (log : List Done) (hl : log.length ≤ 1048576) : CV prg 360 [.sl 7 (log.map Done.r)] (fun res => res = .tup [.agg (replay log).1.r, .w (.int .i64 (replay log).2)]) := by
 refine cv_in g360 (Eb [0] rfl (Eg (Eh (Ea (o_new rfl rfl) (Ea (Ee rfl) (Ef (Ed (Eb [0, 2] rfl (Eg (Eh (Fc rfl rfl c_202 ?_)))))))))))
 refine Ea (o_new rfl rfl) (Ep (Eo rfl rfl rfl rfl rfl rfl rfl) (Ef (Ed (Eb [0, 2, 4] rfl (Eg (Eg (Eh (Ea (Ee rfl) (Ef (Ed (Eb [0, 2, 4, 5] rfl ?_)))))))))))
 refine S_block (S_loop (ι := Nat × Model) (fun p => p.1 ≤ log.length ∧ p.2.small ∧ replayGo (log.drop p.1) (p.1 : Int) p.2 = replay log) (fun p => [(5, .w (.int .i64 (p.1 : Int)))]) (fun p => [.cell [.w (.slice none 0 0), .w (.slice none 0 0), .w (.int .i64 0), .w (.slice none 0 0)], .cell p.2.r]) (fun p => log.length - p.1) 2 (0, model0) ⟨Nat.zero_le _, model0_small, rfl⟩ rfl (hasOf ⟨rfl, trivial⟩ rfl) rfl (fun _ _ => rfl) (fun _ _ => ⟨rfl, rfl⟩) ?_)
 rintro ⟨i, m⟩ hp
 obtain ⟨hi, hm, hR⟩ := hp
 simp only at hi hm hR
 obtain ⟨x0, hx0⟩ : ∃ x, i < log.length → log[i]? = some x := by
  by_cases h : i < log.length
  · exact ⟨log[i], fun _ => List.getElem?_eq_getElem h⟩
  · exact ⟨⟨0, 0, false, 0, 0, 0, 0⟩, fun h2 => absurd h2 h⟩
 refine Eb [0, 2, 4, 5] rfl ?_
 dsimp only
 refine Eg (Eg (Eh (Ea (Ee rfl) (Ea (Ee rfl) ?_))))
 first | refine Ea (o_lenM rfl) ?_ | refine Ea (o_len rfl) ?_
 refine Ea (o_lss rfl rfl) (Ef (Ed (Eb [0, 2, 4, 5, 13] rfl ?_)))
 first | refine Eu rfl ?_ ?_ | refine Et rfl ?_ ?_
 intro h1
 try rw [nnp] at h1
 refine Fb (Ed (Eb [0, 2, 4, 5] rfl (Eg (S_block (Eg (Eg (Eh (Ea (Ee rfl) (Ea (Ee rfl) (s_iaM rfl rfl (by omega) ?_))))))))))
 intro y2 e2
 simp only [Int.toNat_natCast] at e2; obtain rfl := Option.some.inj ((hx0 (by omega)).symm.trans e2)
 refine Ea (o_fa rfl) (Ea (o_ld rfl rfl) (Ea (o_eql rfl rfl) (Ef (Ed (Eb [0, 2, 4, 5, 21] rfl ?_)))))
 first | refine Eu rfl ?_ ?_ | refine Et rfl ?_ ?_
 intro h3
 try rw [nnp] at h3
 refine s_exit (q_seqX (q_blkH (Ed (Eb [0, 2, 4, 5] rfl (Eh (Ea (Ee rfl) ?_))))))
 first | refine Ea (o_addn rfl rfl (by omega)) ?_ | refine Ea (o_add rfl rfl) ?_
 refine Ea (Ee rfl) (Ef (q_loopN ?_))
 · have hi2 : i < log.length := by omega
   first | exact ⟨(i + 1, m), ⟨hi2, hm, (rg_skip (hx0 hi2) (by assumption)).symm.trans hR⟩, by simp only; omega, hasOf ⟨rfl, trivial⟩ rfl⟩ | exact ⟨(i + 1, (modelDo m x0.write x0.addr x0.size x0.value).1), ⟨hi2, mod_small hm _ _ _ _, (rg_next (hx0 hi2) (by assumption) (by first | assumption | (simp_all; done)) (by first | assumption | (simp_all; done))).symm.trans hR⟩, by simp only; omega, hasOf ⟨rfl, trivial⟩ rfl⟩
 intro h3
 try rw [nnp] at h3
 refine Fb (Ed (Eb [0, 2, 4, 5] rfl (Eg (Eh (Ea (Em rfl rfl rfl) (Ea (Ee rfl) (Ea (Ee rfl) (s_iaM rfl rfl (by omega) ?_))))))))
 intro y4 e4
 simp only [Int.toNat_natCast] at e4; obtain rfl := Option.some.inj ((hx0 (by omega)).symm.trans e4)
 refine Ea (o_fa rfl) (Ea (o_ld rfl rfl) (Ea (Ee rfl) (Ea (Ee rfl) (s_iaM rfl rfl (by omega) ?_))))
 intro y5 e5
 simp only [Int.toNat_natCast] at e5; obtain rfl := Option.some.inj ((hx0 (by omega)).symm.trans e5)
 refine Ea (o_fa rfl) (Ea (o_ld rfl rfl) (Ea (Ee rfl) (Ea (Ee rfl) (s_iaM rfl rfl (by omega) ?_))))
 intro y6 e6
 simp only [Int.toNat_natCast] at e6; obtain rfl := Option.some.inj ((hx0 (by omega)).symm.trans e6)
 refine s_keepO (is := [0, 2, 4, 5, 23, 28, 33, 36]) rfl (Ea (o_fa rfl) (Ea (o_ld rfl rfl) (Ea (Ee rfl) (Ea (Ee rfl) (s_iaM rfl rfl (by omega) ?_)))))
 intro y7 e7
 simp only [Int.toNat_natCast] at e7; obtain rfl := Option.some.inj ((hx0 (by omega)).symm.trans e7)
 refine Ea (o_fa rfl) (Ea (o_ld rfl rfl) ?_)
 first | refine Fc rfl rfl (c_377 m x0.write x0.addr x0.size x0.value hm) ?_ | refine s_callL rfl rfl (by simp) (c_377 m x0.write x0.addr x0.size x0.value hm) rfl ?_
 refine Ea (Ee rfl) (Ea (o_ext rfl rfl) (Ea (o_ext rfl rfl) (Ea (o_ext rfl rfl) (s_newH rfl rfl (h_stn rfl rfl rfl rfl rfl (h_op (Ee rfl) rfl (h_bar rfl (Ea (Ee rfl) (Ef (Ed (Eb [0, 2, 4, 5, 6, 7, 8] rfl ?_)))))))))))
 refine Eg (Eg (Eh (Ea (Ee rfl) (Ea (Ee rfl) (Ea (Ee rfl) (s_iaM rfl rfl (by omega) ?_))))))
 intro y8 e8
 simp only [Int.toNat_natCast] at e8; obtain rfl := Option.some.inj ((hx0 (by omega)).symm.trans e8)
 refine Ea (o_fa rfl) (Ea (o_ld rfl rfl) (Ea (o_neq rfl rfl) (Ea (Ee rfl) ?_)))
 first | refine s_gDF rfl ?_ ?_ | refine s_gB rfl ?_ ?_
 intro h9
 try rw [nnp] at h9
 refine Ea (Ee rfl) (Ez rfl (Ea (Ee rfl) (Ez rfl (Ea (Ee rfl) (Ez rfl (s_iaM rfl rfl (by omega) ?_))))))
 intro y10 e10
 simp only [Int.toNat_natCast] at e10; obtain rfl := Option.some.inj ((hx0 (by omega)).symm.trans e10)
 refine Ez rfl (Ea (o_fa rfl) (Ez rfl (Ea (o_ld rfl rfl) (s_keepO (is := [0, 2, 4, 5, 6, 55, 56, 57, 58, 59, 60, 61]) rfl (Ez rfl (Ea (o_neq rfl rfl) (Ea (Ej rfl rfl) (Ef (Ed (Eb [0, 2, 4, 5, 6, 56, 57, 58, 59, 60, 61, 62, 63] rfl ?_))))))))))
 first | refine Eu rfl ?_ ?_ | refine Et rfl ?_ ?_
 intro h11
 try rw [nnp] at h11
 refine Eg (Eh (Ea (Em rfl rfl rfl) (Ea (Ee rfl) (Ep (Eo rfl rfl rfl rfl rfl rfl rfl) (Ea (Ee rfl) (Ef (Ed (Eb [2, 3] rfl (Ek (Ev (Ff ?_)))))))))))
 refine Ev (q_loopR (Ff (Ev (ret_leafR rfl rfl ?_))))
 rotate_left
 intro h11
 try rw [nnp] at h11
 refine Fb (Ed (Eb [0, 2, 4, 5, 6, 56, 57, 58, 59, 60, 61, 62] rfl (Eh (Ea (Em rfl rfl rfl) (Ep (Eo rfl rfl rfl rfl rfl rfl rfl) (Ef (Fg (Ed (Eb [0, 2, 4, 5, 56, 57, 58, 59, 60, 61, 62] rfl (Eh (Ea (Ee rfl) ?_)))))))))))
 first | refine Ea (o_addn rfl rfl (by omega)) ?_ | refine Ea (o_add rfl rfl) ?_
 refine Ea (Ee rfl) (Ef (q_loopN ?_))
 · have hi2 : i < log.length := by omega
   first | exact ⟨(i + 1, m), ⟨hi2, hm, (rg_skip (hx0 hi2) (by assumption)).symm.trans hR⟩, by simp only; omega, hasOf ⟨rfl, trivial⟩ rfl⟩ | exact ⟨(i + 1, (modelDo m x0.write x0.addr x0.size x0.value).1), ⟨hi2, mod_small hm _ _ _ _, (rg_next (hx0 hi2) (by assumption) (by first | assumption | (simp_all; done)) (by first | assumption | (simp_all; done))).symm.trans hR⟩, by simp only; omega, hasOf ⟨rfl, trivial⟩ rfl⟩
 intro h9
 try rw [nnp] at h9
 iterate 6 refine Ei rfl ?_
 refine s_keepO (is := [0, 2, 4, 5, 6, 55, 56, 57, 58, 59, 60, 61]) rfl (Ei rfl (Ea (Er rfl rfl) (Ef (Ed (Eb [0, 2, 4, 5, 6, 56, 57, 58, 59, 60, 61, 62, 63] rfl (Fh rfl (Eg (Eh (Ea (Em rfl rfl rfl) (Ea (Ee rfl) (Ep (Eo rfl rfl rfl rfl rfl rfl rfl) ?_)))))))))))
 refine Ea (Ee rfl) (Ef (Ed (Eb [2, 3] rfl (Ek (Ev (Ff (Ev (q_loopR (Ff (Ev (ret_leafR rfl rfl ?_)))))))))))
 rotate_left
 intro h1
 try rw [nnp] at h1
 refine s_exit (q_seqX (q_loopX (q_blkH (Ed (Eb [2, 4] rfl (Eg (Eh (Ea (Em rfl rfl rfl) (Ep (Eo rfl rfl rfl rfl rfl rfl rfl) (Ea (Ee rfl) (Ef ?_)))))))))))
 refine Ed (Eb [2, 3] rfl (Ek (ret_leafR rfl rfl ?_)))
 rotate_left
 all_goals
  first | (rw [← hR, rg_stop (hx0 (by omega)) (by assumption) (by simp_all)]; rfl) | (rw [← hR, rg_end (by omega)]; rfl)
theorem cg_361 (log : List Done) (hl : log.length ≤ 1048576) : GV prg 361 [] [.sl 7 (log.map Done.r)] (fun u L1 => u = .tup [.agg [.ls 0 (replay log).1.ram.length, .ls 1 (replay log).1.dev.regs.length, .w (.int .i64 (replay log).1.dev.timer), .ls 2 (replay log).1.dev.fifo.length], .w (.int .i64 (replay log).2)] ∧ L1 = [.arr 1 ((replay log).1.ram.map iR), .arr 1 ((replay log).1.dev.regs.map iR), .arr 1 ((replay log).1.dev.fifo.map iR)]) := by
 refine gv_in g361 (Eb [0] rfl (Eg (Eh (Ea (o_new rfl rfl) (Ea (Ee rfl) (Ef (Ed (Eb [0, 2] rfl (Eg (Eh (s_callG [] rfl rfl rfl rfl (by simp) (.inl rfl) cg_378 ?_)))))))))))
 rintro u L1 ⟨rfl, rfl⟩
 refine ⟨_, _, rfl, rfl, ?_⟩
 refine Ea (o_new rfl rfl) (Ep (Eo rfl rfl rfl rfl rfl rfl rfl) (Ef (Ed (Eb [0, 2, 4] rfl (Eg (Eg (Eh (Ea (Ee rfl) ?_))))))))
 first | refine Ea (o_lenM rfl) ?_ | refine Ea (o_len rfl) ?_
 refine Ea (Ee rfl) (Ef (Ed (Eb [2, 4, 11, 12, 13] rfl (S_block (s_nilC 3 3 1 rfl rfl rfl rfl rfl (S_loopR (ι := Nat × Model) (fun p => p.1 ≤ log.length ∧ p.2.small ∧ replayGo (log.drop p.1) (p.1 : Int) p.2 = replay log) (fun p => [(13, .w (.int .i64 (p.1 : Int))), (2, .cp 0 0), (4, .cp 1 0)]) (fun p => [.cell [.w (.slice none 0 0), .w (.slice none 0 0), .w (.int .i64 0), .w (.slice none 0 0)], .cell [.ls 2 p.2.ram.length, .ls 3 p.2.dev.regs.length, .w (.int .i64 p.2.dev.timer), .ls 4 p.2.dev.fifo.length], .arr 1 (p.2.ram.map iR), .arr 1 (p.2.dev.regs.map iR), .arr 1 (p.2.dev.fifo.map iR)]) (fun p => log.length - p.1) (0, model0) ⟨Nat.zero_le _, model0_small, rfl⟩ [11, 12] rfl rfl rfl (hasR [0, 3, 1, 2, 4] (show (List.range 0 ++ [0, 3, 1, 2, 4]).Nodup by decide) rfl ⟨rfl, rfl, rfl, trivial⟩ rfl) ?_))))))
 rintro ⟨i, m⟩ hp
 obtain ⟨hi, hm, hR⟩ := hp
 simp only at hi hm hR
 obtain ⟨x0, hx0⟩ : ∃ x, i < log.length → log[i]? = some x := by
  by_cases h : i < log.length
  · exact ⟨log[i], fun _ => List.getElem?_eq_getElem h⟩
  · exact ⟨⟨0, 0, false, 0, 0, 0, 0⟩, fun h2 => absurd h2 h⟩
 refine Eb [2, 4, 11, 12, 13] rfl ?_
 dsimp only
 refine Eg (Eh (Ea (o_lss rfl rfl) (Ef (Ed (Eb [2, 4, 11, 12, 13, 14] rfl (Eg ?_))))))
 first | refine Eu rfl ?_ ?_ | refine Et rfl ?_ ?_
 intro h1
 try rw [nnp] at h1
 refine Fb (Ed (Eb [2, 4, 11, 12, 13] rfl (Eg (S_block (Eg (Eh (Ea (Ee rfl) (s_iaM rfl rfl (by omega) ?_))))))))
 intro y2 e2
 simp only [Int.toNat_natCast] at e2; obtain rfl := Option.some.inj ((hx0 (by omega)).symm.trans e2)
 refine Ea (o_ldn rfl rfl) (Ea (o_new rfl rfl) (Ea (Ee rfl) (Ep (Eo rfl rfl rfl rfl rfl rfl rfl) (Ef (Ed (Eb [2, 4, 5, 6, 11, 12, 13] rfl (Eg (Eg (Eh (Ea (Ew rfl) (Ea (Fd rfl rfl rfl) ?_)))))))))))
 refine Ea (o_eql rfl rfl) (Ef (Ed (Eb [2, 4, 5, 6, 11, 12, 13, 20] rfl ?_)))
 first | refine Eu rfl ?_ ?_ | refine Et rfl ?_ ?_
 intro h3
 try rw [nnp] at h3
 refine s_exit (q_seqX (q_blkH (Ed (Eb [2, 4, 11, 12, 13] rfl (Eh ?_)))))
 first | refine Ea (o_addn rfl rfl (by omega)) ?_ | refine Ea (o_add rfl rfl) ?_
 refine Ea (Ee rfl) (Ef (q_loopN ?_))
 · have hi2 : i < log.length := by omega
   first | exact ⟨(i + 1, m), ⟨hi2, hm, (rg_skip (hx0 hi2) (by assumption)).symm.trans hR⟩, by simp only; omega, hasR [0, 1, 2, 3, 4] (show (List.range 0 ++ [0, 1, 2, 3, 4]).Nodup by decide) rfl ⟨rfl, rfl, rfl, trivial⟩ rfl⟩ | exact ⟨(i + 1, (modelDo m x0.write x0.addr x0.size x0.value).1), ⟨hi2, mod_small hm _ _ _ _, (rg_next (hx0 hi2) (by assumption) (by first | assumption | (simp_all; done)) (by first | assumption | (simp_all; done))).symm.trans hR⟩, by simp only; omega, hasR [0, 1, 6, 7, 8] (show (List.range 0 ++ [0, 1, 6, 7, 8]).Nodup by decide) rfl ⟨rfl, rfl, rfl, trivial⟩ rfl⟩
 intro h3
 try rw [nnp] at h3
 refine Fb (Ed (Eb [2, 4, 5, 6, 11, 12, 13] rfl (Eg (Eh (Ea (Em rfl rfl rfl) (Ea (Ew rfl) (Ea (Fd rfl rfl rfl) (Ea (Ew rfl) (Ea (Fd rfl rfl rfl) (Ea (Ew rfl) (Ea (Fd rfl rfl rfl) ?_)))))))))))
 refine Ea (Ew rfl) (Ea (Fd rfl rfl rfl) (s_callGL rfl rfl (by simp) (cg_52 m x0.write x0.addr x0.size x0.value hm) ?_))
 rintro u L1 ⟨rfl, rfl⟩
 refine ⟨rfl, ?_, _, _, rfl, rfl, ?_⟩
 · intro lb hlb
   simp only [List.mem_cons, List.not_mem_nil, or_false] at hlb
   rcases hlb with rfl | rfl | rfl <;> exact words_map _ _ (fun y v hv => by simp [iR] at hv; exact ⟨_, hv⟩)
 refine Ea (Ee rfl) (Ea (o_ext rfl rfl) (Ea (o_ext rfl rfl) (Ea (o_ext rfl rfl) (s_keepO (is := [2, 4, 5, 6, 11, 12, 13, 32, 33, 34]) rfl (Ea (o_new rfl rfl) (Ep (Eo rfl rfl rfl rfl rfl rfl rfl) (Ea (Ee rfl) (Ea (Ee rfl) (Ef (Ed (Eb [2, 4, 5, 6, 7, 8, 9, 11, 12, 13] rfl ?_)))))))))))
 refine Eg (Eg (Eh (Ea (Ee rfl) (Ea (Ew rfl) (Ea (Fd rfl rfl rfl) (Ea (o_neq rfl rfl) (Ea (Ee rfl) ?_)))))))
 first | refine s_gDF rfl ?_ ?_ | refine s_gB rfl ?_ ?_
 intro h4
 try rw [nnp] at h4
 refine Ea (Ee rfl) (Ez rfl (Ea (Ew rfl) (Ez rfl (Ea (Fd rfl rfl rfl) (Ez rfl (Ea (o_neq rfl rfl) (Ea (Ej rfl rfl) (Ef (Ed (Eb [2, 4, 5, 7, 11, 12, 13, 40, 41, 42, 43, 44] rfl ?_))))))))))
 first | refine Eu rfl ?_ ?_ | refine Et rfl ?_ ?_
 intro h5
 try rw [nnp] at h5
 refine Eg (Eh (Ea (Em rfl rfl rfl) (Ea (Ee rfl) (Ep (Eo rfl rfl rfl rfl rfl rfl rfl) (Ea (Ee rfl) (Ef (Ed (Eb [2, 3] rfl (Ek (Ev (Ff ?_)))))))))))
 refine Ev (q_loopR (Ff (Ev ?_)))
 · refine Ec [2, 3, 4] (.inr rfl) rfl rfl rfl rfl (show (List.range 0 ++ [2, 3, 4]).Nodup by decide) ?_
   first | (rw [← hR, rg_stop (hx0 (by omega)) (by assumption) (by simp_all)]; exact ⟨rfl, rfl⟩) | (rw [← hR, rg_end (by omega)]; exact ⟨rfl, rfl⟩)
 intro h5
 try rw [nnp] at h5
 refine Fb (Ed (Eb [2, 4, 7, 11, 12, 13, 40, 41, 42, 43] rfl (Eh (Ea (Em rfl rfl rfl) (Ep (Eo rfl rfl rfl rfl rfl rfl rfl) (Ef (Fg (Ed (Eb [2, 4, 11, 12, 13, 40, 41, 42, 43] rfl (Eh ?_))))))))))
 first | refine Ea (o_addn rfl rfl (by omega)) ?_ | refine Ea (o_add rfl rfl) ?_
 refine Ea (Ee rfl) (Ef (q_loopN ?_))
 · have hi2 : i < log.length := by omega
   first | exact ⟨(i + 1, m), ⟨hi2, hm, (rg_skip (hx0 hi2) (by assumption)).symm.trans hR⟩, by simp only; omega, hasR [0, 1, 2, 3, 4] (show (List.range 0 ++ [0, 1, 2, 3, 4]).Nodup by decide) rfl ⟨rfl, rfl, rfl, trivial⟩ rfl⟩ | exact ⟨(i + 1, (modelDo m x0.write x0.addr x0.size x0.value).1), ⟨hi2, mod_small hm _ _ _ _, (rg_next (hx0 hi2) (by assumption) (by first | assumption | (simp_all; done)) (by first | assumption | (simp_all; done))).symm.trans hR⟩, by simp only; omega, hasR [0, 1, 6, 7, 8] (show (List.range 0 ++ [0, 1, 6, 7, 8]).Nodup by decide) rfl ⟨rfl, rfl, rfl, trivial⟩ rfl⟩
 intro h4
 try rw [nnp] at h4
 refine Ei rfl (Ei rfl (Ei rfl (Ei rfl (Ea (Er rfl rfl) (Ef (Ed (Eb [2, 4, 5, 7, 11, 12, 13, 40, 41, 42, 43, 44] rfl (Fh rfl (Eg (Eh (Ea (Em rfl rfl rfl) ?_)))))))))))
 refine Ea (Ee rfl) (Ep (Eo rfl rfl rfl rfl rfl rfl rfl) (Ea (Ee rfl) (Ef (Ed (Eb [2, 3] rfl (Ek (Ev (Ff (Ev (q_loopR (Ff ?_)))))))))))
 refine Ev ?_
 · refine Ec [2, 3, 4] (.inr rfl) rfl rfl rfl rfl (show (List.range 0 ++ [2, 3, 4]).Nodup by decide) ?_
   first | (rw [← hR, rg_stop (hx0 (by omega)) (by assumption) (by simp_all)]; exact ⟨rfl, rfl⟩) | (rw [← hR, rg_end (by omega)]; exact ⟨rfl, rfl⟩)
 intro h1
 try rw [nnp] at h1
 refine s_exit (q_seqX (q_loopX (q_blkH (Ed (Eb [2, 4] rfl (Eg (Eh (Ea (Em rfl rfl rfl) (Ep (Eo rfl rfl rfl rfl rfl rfl rfl) (Ea (Ee rfl) (Ef ?_)))))))))))
 refine Ed (Eb [2, 3] rfl (Ek ?_))
 · refine Ec [2, 3, 4] (.inr rfl) rfl rfl rfl rfl (show (List.range 0 ++ [2, 3, 4]).Nodup by decide) ?_
   first | (rw [← hR, rg_stop (hx0 (by omega)) (by assumption) (by simp_all)]; exact ⟨rfl, rfl⟩) | (rw [← hR, rg_end (by omega)]; exact ⟨rfl, rfl⟩)
theorem rg_small : ∀ (xs : List Done) (i : Int) (m : Model), m.small → (replayGo xs i m).1.small
 | [], _, _, h => h
 | x :: xs, i, m, h => by
   rw [replayGo]
   split
   · exact rg_small xs _ _ h
   · split
     · exact rg_small xs _ _ (mod_small h _ _ _ _)
     · exact h
theorem c_360y {x : List Done} {R k} (h : replay x = (R, k)) (hl : x.length ≤ 1048576) : CV prg 360 [.sl 7 (x.map Done.r)] (fun v => v = .tup [.agg R.r, .w (.int .i64 k)]) := by have := c_360 x hl; rwa [h] at this
theorem cg_361y {x : List Done} {R k} (h : replay x = (R, k)) (hl : x.length ≤ 1048576) : GV prg 361 [] [.sl 7 (x.map Done.r)] (fun u L1 => u = .tup [.agg [.ls 0 R.ram.length, .ls 1 R.dev.regs.length, .w (.int .i64 R.dev.timer), .ls 2 R.dev.fifo.length], .w (.int .i64 k)] ∧ L1 = [.arr 1 (R.ram.map iR), .arr 1 (R.dev.regs.map iR), .arr 1 (R.dev.fifo.map iR)]) := by have := cg_361 x hl; rwa [h] at this
theorem c_135y (m : Model) (hs : m.small) : CV prg 135 [.agg m.r, .agg m.r] (fun v => v = .w (.bool true)) := (c_135 m m hs).mono fun u h => by rw [h, decide_eq_true rfl]
theorem c_131y (x : List Done) (hl : x.length ≤ 1048576) : CV prg 131 [.sl 7 (x.map Done.r), .sl 7 (x.map Done.r)] (fun v => v = .w (.bool true)) := (c_131 x x hl).mono fun u h => by rw [h, decide_eq_true rfl]
theorem neg_false' {k : Int} (h : 0 ≤ k) : decide (k < 0) = false := decide_eq_false (by omega)
theorem c_347 (x : List Done) (hwx : x.length ≤ 140737488355328) : CV prg 347 [.sl 7 (x.map Done.r)] (fun res => res = .w (.bool true)) := by
 obtain ⟨R, k0, hR⟩ : ∃ R k0, replay x = (R, k0) := ⟨_, _, rfl⟩
 have hRs : R.small := by have := rg_small x 0 model0 model0_small; rwa [show replayGo x 0 model0 = (R, k0) from hR] at this
 refine cv_in g347 (Eb [0] rfl (Eg (Eh (Ea (Ee rfl) (Ef (Ed (Eb [0] rfl (Eg (Eh (Ea (Ee rfl) (Ef ?_)))))))))))
 refine Ed (Eb [0, 3] rfl (Eg (Eh (Ea (Ee rfl) (Ea (Ee rfl) (Fc rfl rfl (c_147 _ _ (by (try unfold room at *); omega) (by assumption)) (Ea (Ee rfl) (Ef (Ed (Eb [0, 3] rfl (Eg ?_)))))))))))
 refine Eg (Eh (Ea (Ee rfl) (Ea (o_lss rfl rfl) (Ef (Ed (Eb [0, 18] rfl ?_))))))
 first | refine Eu rfl ?_ ?_ | refine Et rfl ?_ ?_
 intro h1
 try rw [nnp] at h1
 try (have hlx : x.length ≤ 1048576 := by (try unfold room at *); omega)
 refine Eg (Eh (Ea (Ee rfl) (Ef (Ed (Eb [2] rfl (Ek (Ev (Fa rfl rfl ?_))))))))
 rotate_left
 intro h1
 try rw [nnp] at h1
 try (have hlx : x.length ≤ 1048576 := by (try unfold room at *); omega)
 refine Fb (Ed (Eb [0] rfl (Eg (Eh (Ea (Ee rfl) (Fc rfl rfl (c_162 x hlx) ?_))))))
 first | refine Fc rfl rfl (c_360y hR hlx) ?_ | refine s_callL rfl rfl (by simp) (c_360y hR hlx) rfl ?_
 refine Ea (Ee rfl) (Ea (o_ext rfl rfl) (Ea (o_ext rfl rfl) (Ea (o_new rfl rfl) (Ep (Eo rfl rfl rfl rfl rfl rfl rfl) (Ea (Ee rfl) (Ef (Ed (Eb [0, 4, 5] rfl (Eg (Eh (Ea (Ee rfl) ?_)))))))))))
 refine s_callG [] rfl rfl rfl rfl (by simp) (.inl rfl) (cg_162 x hlx) ?_
 rintro u L1 ⟨rfl, rfl⟩
 refine ⟨_, _, rfl, rfl, ?_⟩
 refine Ea (Ee rfl) (Ef (Ed (Eb [0, 4, 5, 6] rfl (Eg (Eh (Ea (Ee rfl) (s_callGL rfl rfl (by simp) (cg_361y hR hlx) ?_)))))))
 rintro u L1 ⟨rfl, rfl⟩
 refine ⟨rfl, ?_, _, _, rfl, rfl, ?_⟩
 · intro lb hlb
   simp only [List.mem_cons, List.not_mem_nil, or_false] at hlb
   rcases hlb with rfl | rfl | rfl <;> exact words_map _ _ (fun y v hv => by simp [iR] at hv; exact ⟨_, hv⟩)
 refine Ea (Ee rfl) (Ea (o_ext rfl rfl) (Ea (o_ext rfl rfl) (Ea (o_new rfl rfl) (Ep (Eo rfl rfl rfl rfl rfl rfl rfl) (Ea (Ee rfl) (Ef (Ed (Eb [0, 4, 5, 6, 7, 8] rfl (Eg (Eg (Eh ?_)))))))))))
 refine Ea (Em rfl rfl rfl) (Ea (Em rfl rfl rfl) ?_)
 first | refine Fc rfl rfl (c_135y R hRs) ?_ | refine s_callL rfl rfl (by simp) (c_135y R hRs) rfl ?_
 refine Ea (o_not rfl) (Ea (Ee rfl) (Ez rfl (Ea (Ee rfl) (Ez rfl (Ea (Ee rfl) (Ez rfl (Ea (o_neq rfl rfl) (Ea (Ej rfl rfl) (Ef (Ed (Eb [0, 4, 5, 6, 7, 8, 40] rfl ?_)))))))))))
 first | refine Eu rfl ?_ ?_ | refine Et rfl ?_ ?_
 · intro h2
   exfalso
   exact h2 rfl
 intro h2
 try rw [nnp] at h2
 try (have hlx : x.length ≤ 1048576 := by (try unfold room at *); omega)
 refine Fb (Ed (Eb [0, 4, 5, 6, 7, 8] rfl (Eg (Eg (Eh (Ea (Ee rfl) (Ea (Ee rfl) (Fc rfl rfl (c_162 x hlx) ?_))))))))
 first | refine Fc rfl rfl (c_131y x hlx) ?_ | refine s_callL rfl rfl (by simp) (c_131y x hlx) rfl ?_
 refine Ea (o_not rfl) (Ef (Ed (Eb [0, 4, 5, 6, 7, 8, 45] rfl (Fe rfl (Fb (Ed (Eb [0, 4, 5, 6, 7, 8] rfl (Eg (Eh (Ea (Ee rfl) (Ef ?_)))))))))))
 refine Ed (Eb [0, 4, 5, 6, 7, 8, 9] rfl (Eg (Eh (Ea (Ee rfl) (Ea (Ee rfl) (s_callG [1] rfl rfl rfl rfl (by simp) (.inl rfl) (cg_142 x 1 hlx (by omega)) ?_))))))
 rintro u L1 ⟨rfl, rfl⟩
 refine ⟨_, _, rfl, rfl, ?_⟩
 refine Ea (Ee rfl) (Ef (Ed (Eb [0, 4, 5, 7, 8, 9] rfl (Eg (Eg (Eh (Ea (Ee rfl) (Ea (o_lss rfl rfl) ?_))))))))
 rw [neg_false' (by omega)]
 refine Ea (Ee rfl) (Ez rfl (Ea (Em rfl rfl rfl) (Ez rfl (Ea (Em rfl rfl rfl) (Ez rfl ?_)))))
 first | refine Fc rfl rfl (c_135y R hRs) ?_ | refine s_callL rfl rfl (by simp) (c_135y R hRs) rfl ?_
 refine Ez rfl (Ea (o_not rfl) (Ea (Ej rfl rfl) (Ea (Ee rfl) (Ez rfl (Ea (Ee rfl) (Ez rfl (Ea (Ee rfl) (Ez rfl (Ea (o_neq rfl rfl) (Ea (Ej rfl rfl) (Ef ?_)))))))))))
 refine Ed (Eb [0, 4, 5, 7, 61] rfl ?_)
 first | refine Eu rfl ?_ ?_ | refine Et rfl ?_ ?_
 · intro h3
   exfalso
   exact h3 rfl
 intro h3
 try rw [nnp] at h3
 try (have hlx : x.length ≤ 1048576 := by (try unfold room at *); omega)
 refine Fb (Ed (Eb [0, 4, 5, 7] rfl (Eg (Eh (Ea (Ee rfl) (Ef (Ed (Eb [0, 4, 5, 7, 10] rfl (Eg (Eh (Ea (Em rfl rfl rfl) ?_)))))))))))
 refine Ea (Ee rfl) (s_callG [2, 3, 4] rfl rfl rfl rfl (by simp) (.inl rfl) (cg_362 R.ram R.dev.regs R.dev.fifo R.dev.timer 1 hRs.1 hRs.2.1 hRs.2.2 (by omega)) ?_)
 rintro u L1 ⟨rfl, rfl⟩
 refine ⟨_, _, rfl, rfl, ?_⟩
 refine Ea (Ee rfl) (Ef (Ed (Eb [0, 4, 5, 7, 10] rfl (Eg (Eh (Ea (Ee rfl) (Ef (Ed (Eb [0, 4, 5, 7, 10, 11] rfl (Eg (Eh ?_)))))))))))
 refine Ea (Em rfl rfl rfl) (Ea (Ee rfl) (s_callL rfl rfl (by simp) (c_363 R.ram.length R.dev.regs.length R.dev.fifo.length R.dev.timer 1 hRs.1 hRs.2.1 hRs.2.2 (by omega)) rfl (Ea (Ee rfl) (Ef (Ed (Eb [0, 4, 5, 7, 10, 11] rfl (Eg (Eg (Eh (Ea (Ee rfl) (Ea (o_lss rfl rfl) ?_)))))))))))
 refine Ef (Ed (Eb [0, 4, 5, 7, 10, 11, 69] rfl ?_))
 first | refine Eu rfl ?_ ?_ | refine Et rfl ?_ ?_
 · intro h4
   exfalso
   omega
 intro h4
 try rw [nnp] at h4
 try (have hlx : x.length ≤ 1048576 := by (try unfold room at *); omega)
 refine Fb (Ed (Eb [0, 4, 5, 7, 10, 11] rfl (Eg (Eg (Eh (Ea (Ee rfl) (Ea (Ee rfl) (Ea (o_neq rfl rfl) (Ef (Ed (Eb [0, 4, 5, 7, 10, 72] rfl ?_)))))))))))
 first | refine Eu rfl ?_ ?_ | refine Et rfl ?_ ?_
 · intro h5
   exfalso
   exact h5 rfl
 intro h5
 try rw [nnp] at h5
 try (have hlx : x.length ≤ 1048576 := by (try unfold room at *); omega)
 refine Fb (Ed (Eb [0, 4, 5, 7, 10] rfl (Eg (Eh (Ea (Ee rfl) (Fc rfl rfl (c_162 x hlx) (s_callG [] rfl rfl rfl rfl (by simp) (.inl rfl) (cg_361y hR hlx) ?_)))))))
 rintro u L1 ⟨rfl, rfl⟩
 refine ⟨_, _, rfl, rfl, ?_⟩
 refine Ea (Ee rfl) (Ea (o_ext rfl rfl) (Ea (o_ext rfl rfl) (Ea (o_new rfl rfl) (Ep (Eo rfl rfl rfl rfl rfl rfl rfl) (Ea (Ee rfl) (Ef (Ed (Eb [4, 5, 7, 10, 12, 13] rfl (Eg (Eg (Eh ?_)))))))))))
 refine Ea (Em rfl rfl rfl) (Ea (Em rfl rfl rfl) ?_)
 first | refine Fc rfl rfl (c_135y R hRs) ?_ | refine s_callL rfl rfl (by simp) (c_135y R hRs) rfl ?_
 refine Ea (o_not rfl) (Ea (Ee rfl) (Ez rfl (Ea (Ee rfl) (Ez rfl (Ea (Ee rfl) (Ez rfl (Ea (o_neq rfl rfl) (Ea (Ej rfl rfl) (Ef (Ed (Eb [7, 10, 87] rfl ?_)))))))))))
 first | refine Eu rfl ?_ ?_ | refine Et rfl ?_ ?_
 · intro h6
   exfalso
   exact h6 rfl
 intro h6
 try rw [nnp] at h6
 try (have hlx : x.length ≤ 1048576 := by (try unfold room at *); omega)
 refine Fb (Ed (Eb [7, 10] rfl (Eg (Eh (Ea (Ee rfl) (Ef (Ed (Eb [7, 10, 11] rfl (Eg (Eh (Ea (Em rfl rfl rfl) ?_)))))))))))
 refine Ea (Ee rfl) (s_callL rfl rfl (by simp) (c_363 R.ram.length R.dev.regs.length R.dev.fifo.length R.dev.timer 1 hRs.1 hRs.2.1 hRs.2.2 (by omega)) rfl (Ea (Ee rfl) (Ef (Ed (Eb [10, 11] rfl (Eg (Eg (Eh (Ea (Ee rfl) (Ea (o_lss rfl rfl) (Ef ?_)))))))))))
 refine Ed (Eb [10, 11, 92] rfl ?_)
 first | refine Eu rfl ?_ ?_ | refine Et rfl ?_ ?_
 · intro h7
   exfalso
   omega
 intro h7
 try rw [nnp] at h7
 try (have hlx : x.length ≤ 1048576 := by (try unfold room at *); omega)
 refine Fb (Ed (Eb [10, 11] rfl (Eg (Eg (Eh (Ea (Ee rfl) (Ea (Ee rfl) (Ea (o_neq rfl rfl) (Ef (Ed (Eb [95] rfl ?_)))))))))))
 first | refine Eu rfl ?_ ?_ | refine Et rfl ?_ ?_
 · intro h8
   exfalso
   exact h8 rfl
 intro h8
 try rw [nnp] at h8
 try (have hlx : x.length ≤ 1048576 := by (try unfold room at *); omega)
 refine Fb (Ed (Eb [] rfl (Eg (Eh (Ea (Ee rfl) (Ef (Ed (Eb [2] rfl (Ek (Fa rfl rfl ?_))))))))))
 rotate_left
 all_goals
  rfl
end Go.Proofs.Ytdialnejieoelaa.AL
