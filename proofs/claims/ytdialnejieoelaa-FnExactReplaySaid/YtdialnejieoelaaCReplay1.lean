/- What functions do with plain data, each by the form of its code. Printed by program. -/
import Derived.Test.YtdialnejieoelaaCReplay0
namespace Go.Proofs.Ytdialnejieoelaa.AL
open Go
set_option linter.unusedVariables false
set_option linter.unusedSimpArgs false
set_option maxRecDepth 4096
def sumQ : List Req → Int
 | [] => 0
 | r :: q => r.data.length + sumQ q
theorem sumQ_le (q : List Req) : sumQ q = (sumL Req.sz q : Nat) := by
 induction q with
 | nil => rfl
 | cons r q ih => rw [sumQ, sumL, ih]; simp [Req.sz]
def MB (k : Int) (m : Mst) : Prop := m.small ∧ m.queue.length ≤ 1048576 ∧ sumQ m.queue ≤ k
theorem MB.of {m : Mst} (h : m.sz ≤ 1048576) : MB (m.sz : Nat) m := ⟨Mst.small_of h, by unfold Mst.sz at h; omega, by rw [sumQ_le]; unfold Mst.sz; omega⟩
theorem MB.le {m : Mst} {k l : Int} (h : MB k m) (hk : k ≤ l) : MB l m := ⟨h.1, h.2.1, Int.le_trans h.2.2 hk⟩
theorem MB.q {m y : Mst} {k} (h : MB k m) (e : y.queue = m.queue) : MB k y := ⟨⟨by rw [e]; exact h.1.1, by rw [e]; exact h.1.2⟩, by rw [e]; exact h.2⟩
theorem sumQ_drop (q : List Req) : sumQ (q.drop 1) ≤ sumQ q := by
 cases q with
 | nil => exact Int.le_refl _
 | cons r q => simp only [List.drop_succ_cons, List.drop_zero, sumQ]; omega
theorem MB.drop {m y : Mst} {k} (h : MB k m) (e : y.queue = m.queue.drop 1) : MB k y :=
 ⟨⟨by rw [e, List.length_drop]; exact Nat.le_trans (Nat.sub_le _ _) h.1.1, by rw [e]; exact fun x hx => h.1.2 x (List.mem_of_mem_drop hx)⟩, by rw [e, List.length_drop]; exact Nat.le_trans (Nat.sub_le _ _) h.2.1, by rw [e]; exact Int.le_trans (sumQ_drop _) h.2.2⟩
theorem Vew.two {OL : Ob} {u u' w : V} (h : ∀ M', (∀ (i : Nat) D, OL[i]? = some D → sub D M') → ∀ x, RF M' u x → RF M' u' x) : Vew OL [u, w] [u', w] := fun M' hM' args hp => by
 obtain ⟨x, r, rfl, g1, g2⟩ := hp.uncons
 exact Pt.cons (h M' hM' x g1) g2
theorem cg_405 (d : Dev) (hs : d.small) : GV prg 405 [] [.agg d.r] (fun u L1 => u = .agg [.ls 0 d.regs.length, .w (.int .i64 d.timer), .ls 1 d.fifo.length] ∧ L1 = [.arr 1 (d.regs.map iR), .arr 1 (d.fifo.map iR)]) := by
 have hs1 := hs.1
 have hs2 := hs.2
 refine gv_in g405 (Eb [0] rfl (Eg (Eh (Ea (o_box rfl rfl rfl) (Ea (o_new rfl rfl) (Ef (Ed (Eb [1, 2] rfl (Eg (Eh (p_bs0 rfl ?_)))))))))))
 intro a1
 refine p_op (Ew rfl) (p_op (Fd rfl rfl rfl) (p_app rfl rfl rfl (by simp [roomy]; omega) ?_))
 intro a2
 refine p_op (Ew rfl) (p_op (Fd rfl rfl rfl) (p_bs rfl ?_))
 intro a3
 refine p_op (Ew rfl) (p_op (Fd rfl rfl rfl) (p_app rfl rfl rfl (by simp [roomy]; omega) ?_))
 intro a4
 refine p_bar [6, 12] rfl rfl ⟨rfl, rfl, trivial⟩ rfl (by decide) (Ea (o_bd rfl rfl) (Ep (Eo rfl rfl rfl rfl rfl rfl rfl) (Ef (Ed (Eb [2] rfl (Ek ?_))))))
 · refine Ec [2, 3] (.inr rfl) rfl rfl rfl rfl (show (List.range 0 ++ [2, 3]).Nodup by decide) ?_
   exact ⟨by simp, rfl⟩
theorem cg_97 (d : Dev) (hs : d.small) : GV prg 97 [] [.agg d.r] (fun u L1 => u = .agg [.ls 0 d.regs.length, .w (.int .i64 d.timer), .ls 1 d.fifo.length] ∧ L1 = [.arr 1 (d.regs.map iR), .arr 1 (d.fifo.map iR)]) := by
 have hs1 := hs.1
 have hs2 := hs.2
 refine gv_in g97 (Eb [0] rfl (Eg (Eh (Ea (o_box rfl rfl rfl) (Ea (o_new rfl rfl) (Ef (Ed (Eb [1, 2] rfl (Eg (Eh (Ea (Ew rfl) ?_)))))))))))
 refine Ea (Fd rfl rfl rfl) (s_callG [] rfl rfl rfl rfl (by simp) (.inr rfl) (cg_253 _ (by assumption)) ?_)
 rintro u L1 ⟨rfl, rfl⟩
 refine ⟨_, _, rfl, rfl, ?_⟩
 refine Ea (Ew rfl) (Ea (Fd rfl rfl rfl) (Ea (Ew rfl) (Ea (Fd rfl rfl rfl) (s_callG [] rfl rfl rfl rfl (by simp) (.inr rfl) (cg_253 _ (by assumption)) ?_))))
 rintro u L1 ⟨rfl, rfl⟩
 refine ⟨_, _, rfl, rfl, ?_⟩
 refine Ea (o_bd rfl rfl) (Ep (Eo rfl rfl rfl rfl rfl rfl rfl) (Ef (Ed (Eb [2] rfl (Ek ?_)))))
 · refine Ec [2, 3] (.inr rfl) rfl rfl rfl rfl (show (List.range 0 ++ [2, 3]).Nodup by decide) ?_
   exact ⟨by simp, rfl⟩
theorem cg_395 (m : Model) (hs : m.small) : GV prg 395 [] [.agg m.r] (fun u L1 => u = .agg [.ls 0 m.ram.length, .ls 1 m.dev.regs.length, .w (.int .i64 m.dev.timer), .ls 2 m.dev.fifo.length] ∧ L1 = [.arr 1 (m.ram.map iR), .arr 1 (m.dev.regs.map iR), .arr 1 (m.dev.fifo.map iR)]) := by
 have hs1 := hs.1
 have hs2 := hs.2.1
 have hs3 := hs.2.2
 refine gv_in g395 (Eb [0] rfl (Eg (Eh (Ea (o_box rfl rfl rfl) (Ea (o_new rfl rfl) (Ef (Ed (Eb [1, 2] rfl (Eg (Eh (p_bs0 rfl ?_)))))))))))
 intro a1
 refine p_op (Ew rfl) (p_op (Fd rfl rfl rfl) (p_app rfl rfl rfl (by simp [roomy]; omega) ?_))
 intro a2
 refine p_op (Ew rfl) (p_op (Em rfl rfl rfl) (p_bar [6] rfl rfl ⟨rfl, trivial⟩ rfl (by decide) (s_callG [] rfl rfl rfl rfl (by simp) (.inl rfl) (cg_405 m.dev hs.2) ?_)))
 rintro u L1 ⟨rfl, rfl⟩
 refine ⟨_, _, rfl, rfl, ?_⟩
 refine Ea (o_bd rfl rfl) (Ep (Eo rfl rfl rfl rfl rfl rfl rfl) (Ef (Ed (Eb [2] rfl (Ek ?_)))))
 · refine Ec [2, 3, 4] (.inr rfl) rfl rfl rfl rfl (show (List.range 0 ++ [2, 3, 4]).Nodup by decide) ?_
   exact ⟨by simp, rfl⟩
theorem cg_98 (m : Model) (hs : m.small) : GV prg 98 [] [.agg m.r] (fun u L1 => u = .agg [.ls 0 m.ram.length, .ls 1 m.dev.regs.length, .w (.int .i64 m.dev.timer), .ls 2 m.dev.fifo.length] ∧ L1 = [.arr 1 (m.ram.map iR), .arr 1 (m.dev.regs.map iR), .arr 1 (m.dev.fifo.map iR)]) := by
 have hs1 := hs.1
 have hs2 := hs.2.1
 have hs3 := hs.2.2
 refine gv_in g98 (Eb [0] rfl (Eg (Eh (Ea (o_box rfl rfl rfl) (Ea (o_new rfl rfl) (Ef (Ed (Eb [1, 2] rfl (Eg (Eh (Ea (Ew rfl) ?_)))))))))))
 refine Ea (Fd rfl rfl rfl) (s_callG [] rfl rfl rfl rfl (by simp) (.inr rfl) (cg_253 _ (by assumption)) ?_)
 rintro u L1 ⟨rfl, rfl⟩
 refine ⟨_, _, rfl, rfl, ?_⟩
 refine Ea (Ew rfl) (Ea (Em rfl rfl rfl) (s_callG [] rfl rfl rfl rfl (by simp) (.inl rfl) (cg_97 m.dev hs.2) ?_))
 rintro u L1 ⟨rfl, rfl⟩
 refine ⟨_, _, rfl, rfl, ?_⟩
 refine Ea (o_bd rfl rfl) (Ep (Eo rfl rfl rfl rfl rfl rfl rfl) (Ef (Ed (Eb [2] rfl (Ek ?_)))))
 · refine Ec [2, 3, 4] (.inr rfl) rfl rfl rfl rfl (show (List.range 0 ++ [2, 3, 4]).Nodup by decide) ?_
   exact ⟨by simp, rfl⟩
def devDo (d : Dev) (w : Bool) (a v : Int) : Dev × Int × Bool :=
 if (d.ok && (!w || wordB v) && decide (a.tmod 4 = 0)) = true then
  if 0 ≤ a ∧ a ≤ 12 then (if w = true then (⟨d.regs.set (a.tdiv 4).toNat v, d.timer, d.fifo⟩, v, true) else (d, (d.regs[(a.tdiv 4).toNat]?).getD 0, true))
  else if a = 16 then (if w = true then (⟨d.regs, v, d.fifo⟩, v, true) else (⟨d.regs, (d.timer + 1).tmod 4294967296, d.fifo⟩, d.timer, true))
  else if a = 20 then (if w = true then (if (d.fifo.length : Int) < 4 then (⟨d.regs, d.timer, d.fifo ++ [v]⟩, v, true) else (d, 0, false)) else (if 0 < (d.fifo.length : Int) then (⟨d.regs, d.timer, d.fifo.drop 1⟩, (d.fifo[0]?).getD 0, true) else (d, 0, false)))
  else (d, 0, false)
 else (d, 0, false)
theorem En {d : Dev} (h : d.ok = true) : (d.regs.length : Int) = 4 ∧ (d.fifo.length : Int) ≤ 4 ∧ 0 ≤ d.timer ∧ d.timer ≤ 4294967295 := by
 simp only [Dev.ok, Bool.and_eq_true, decide_eq_true_eq] at h
 have := inB_t h.2
 have e : limit 2 = 4294967296 := by decide
 omega
theorem tdiv4 {a : Int} (h : 0 ≤ a ∧ a ≤ 15) : IntKind.wrap .i64 (a.tdiv 4) = a.tdiv 4 ∧ 0 ≤ a.tdiv 4 ∧ a.tdiv 4 ≤ 3 := by
 have : 0 ≤ a.tdiv 4 ∧ a.tdiv 4 ≤ 3 := by rw [Int.tdiv_eq_ediv_of_nonneg h.1]; omega
 exact ⟨wrap_in _ (by omega), this⟩
theorem inB12 {a : Int} (h : inB a 0 12 = true) : 0 ≤ a ∧ a ≤ 12 := inB_t h
theorem inB12n {a : Int} (h : inB a 0 12 = false) : ¬ (0 ≤ a ∧ a ≤ 12) := by have := inB_f h; omega
theorem mod4 {a : Int} (h : a.tmod 4 = 0) (h2 : 0 ≤ a) (h3 : a < 16) : a ≤ 12 := by rw [Int.tmod_eq_emod_of_nonneg h2] at h; omega
theorem c_201w : CV prg 201 [.w (.int .i64 2)] (fun v => v = .w (.int .i64 4294967296)) := c_201 2
theorem c_51w : CV prg 51 [.w (.int .i64 2)] (fun v => v = .w (.int .i64 4294967296)) := c_51 2
theorem c_230w (v : Int) : CV prg 230 [.w (.int .i64 v), .w (.int .i64 0), .w (.int .i64 (4294967296 - 1))] (fun u => u = .w (.bool (wordB v))) := c_230 v 0 (4294967296 - 1)
theorem c_92w (v : Int) : CV prg 92 [.w (.int .i64 v), .w (.int .i64 2)] (fun u => u = .w (.bool (wordB v))) := c_92 v 2
theorem cg_399t (d : Dev) (a v : Int) (hs : d.small) : GV prg 399 [] [.agg d.r, .w (.bool true), .w (.int .i64 a), .w (.int .i64 v)] (fun u L1 => u = .tup [.agg [.ls 0 (devDo d true a v).1.regs.length, .w (.int .i64 (devDo d true a v).1.timer), .ls 1 (devDo d true a v).1.fifo.length], .w (.int .i64 (devDo d true a v).2.1), .w (.bool (devDo d true a v).2.2)] ∧ L1 = [.arr 1 ((devDo d true a v).1.regs.map iR), .arr 1 ((devDo d true a v).1.fifo.map iR)]) := by
 have hs1 := hs.1
 have hs2 := hs.2
 refine gv_in g399 (Eb [0, 1, 2, 3] rfl (Eg (Eh (Ea (o_box rfl rfl rfl) (Ea (o_new rfl rfl) (Ea (Ee rfl) (Ea (Ee rfl) (Ef (Ed (Eb [1, 2, 3, 4, 8] rfl (Eg ?_)))))))))))
 refine Eh (Ea (Em rfl rfl rfl) (s_callG [] rfl rfl rfl rfl (by simp) (.inl rfl) (cg_405 d hs) ?_))
 rintro u L1 ⟨rfl, rfl⟩
 refine ⟨_, _, rfl, rfl, ?_⟩
 refine Ea (o_new rfl rfl) (Ep (Eo rfl rfl rfl rfl rfl rfl rfl) (Ef (Ed (Eb [1, 2, 3, 4, 8, 11] rfl (Eg (Eg (Eh (Ea (Em rfl rfl rfl) ?_))))))))
 first | refine Fc rfl rfl (c_189 d hs) ?_ | refine s_callL rfl rfl (by simp) (c_189 d hs) rfl ?_
 refine Ea (o_not rfl) (Ea (Ee rfl) ?_)
 first | refine s_gDF rfl ?_ ?_ | refine s_gNDF rfl ?_ ?_ | refine s_gNF rfl ?_ ?_ | refine s_gB rfl ?_ ?_
 intro h1
 try rw [nnp] at h1
 try have h1' := En h1
 try have h1' := inB12 h1
 try have h1' := inB12n h1
 refine Ea (Ee rfl) (Ez rfl ?_)
 first | refine Ea (o_rem rfl rfl (by decide)) ?_ | refine Ea (o_rem rfl rfl (by omega)) ?_
 refine Ez rfl (Ea (o_neq rfl rfl) (Ea (Ej rfl rfl) (Ea (Ee rfl) ?_)))
 first | refine s_gDF rfl ?_ ?_ | refine s_gB rfl ?_ ?_
 intro h2
 try rw [nnp] at h2
 try have h2' := En h2
 try have h2' := inB12 h2
 try have h2' := inB12n h2
 refine Ea (Ee rfl) (Ez rfl (Ea (Ee rfl) (Ez rfl (Ea (Ee rfl) (Ez rfl (Fc rfl rfl c_201w (Ez rfl ?_)))))))
 first | refine Ea (o_subn rfl rfl (by omega)) ?_ | refine Ea (o_sub rfl rfl) ?_
 refine s_keepO (is := [1, 2, 3, 8, 11, 24, 26, 27, 29]) rfl (Ez rfl (Fc rfl rfl (c_230w _) (Ez rfl (Ea (o_not rfl) (Ez rfl (Ea (Er rfl rfl) (Ea (Ej rfl rfl) (Ef (Ed (Eb [1, 2, 3, 8, 11, 33] rfl ?_))))))))))
 first | refine Eu rfl ?_ ?_ | refine s_condN rfl ?_ ?_ | refine s_condNB rfl ?_ ?_ | refine Et rfl ?_ ?_
 intro h3
 try rw [nnp] at h3
 try have h3' := En h3
 try have h3' := inB12 h3
 try have h3' := inB12n h3
 refine Eg (Eh (Ea (Em rfl rfl rfl) (Ep (Eo rfl rfl rfl rfl rfl rfl rfl) (Ea (Ee rfl) (Ea (Ee rfl) (Ef (Ed (Eb [8, 9, 10] rfl (Ek (Ev ?_))))))))))
 · first | (exfalso; simp_all; done) | (refine Ec [2, 3] (.inr rfl) rfl rfl rfl rfl (show (List.range 0 ++ [2, 3]).Nodup by decide) ?_; (have e : devDo d true a v = (d, 0, false) := by unfold devDo; (repeat' split) <;> first | rfl | (simp_all; done) | (exfalso; simp_all; omega)); rw [e]; exact ⟨(by first | rfl | (simp [List.map_set, iR]; done) | (rw [List.take_of_length_le (by simp)]; simp; done)), (by first | rfl | (simp [List.map_set, iR]; done) | (rw [List.take_of_length_le (by simp)]; simp; done))⟩) | (refine Ec [2, 3] (.inr rfl) rfl rfl rfl rfl (show (List.range 0 ++ [2, 3]).Nodup by decide) ?_; (have e : devDo d true a v = (⟨d.regs.set (a.tdiv 4).toNat v, d.timer, d.fifo⟩, v, true) := by unfold devDo; (repeat' split) <;> first | rfl | (simp_all; done) | (exfalso; simp_all; omega)); rw [e]; exact ⟨(by first | rfl | (simp [List.map_set, iR]; done) | (rw [List.take_of_length_le (by simp)]; simp; done)), (by first | rfl | (simp [List.map_set, iR]; done) | (rw [List.take_of_length_le (by simp)]; simp; done))⟩) | (refine Ec [2, 3] (.inr rfl) rfl rfl rfl rfl (show (List.range 0 ++ [2, 3]).Nodup by decide) ?_; (have e : devDo d true a v = (⟨d.regs, v, d.fifo⟩, v, true) := by unfold devDo; (repeat' split) <;> first | rfl | (simp_all; done) | (exfalso; simp_all; omega)); rw [e]; exact ⟨(by first | rfl | (simp [List.map_set, iR]; done) | (rw [List.take_of_length_le (by simp)]; simp; done)), (by first | rfl | (simp [List.map_set, iR]; done) | (rw [List.take_of_length_le (by simp)]; simp; done))⟩) | (refine Ec [2, 3] (.inr rfl) rfl rfl rfl rfl (show (List.range 0 ++ [2, 3]).Nodup by decide) ?_; (have e : devDo d true a v = (⟨d.regs, d.timer, d.fifo ++ [v]⟩, v, true) := by unfold devDo; (repeat' split) <;> first | rfl | (simp_all; done) | (exfalso; simp_all; omega)); rw [e]; exact ⟨(by first | rfl | (simp [List.map_set, iR]; done) | (rw [List.take_of_length_le (by simp)]; simp; done)), (by first | rfl | (simp [List.map_set, iR]; done) | (rw [List.take_of_length_le (by simp)]; simp; done))⟩)
 intro h3
 try rw [nnp] at h3
 try have h3' := En h3
 try have h3' := inB12 h3
 try have h3' := inB12n h3
 refine Fb (Ed (Eb [1, 2, 3, 8, 11] rfl (Eg (S_block (Eg (Eh (Ea (Ee rfl) (Fc rfl rfl (c_230 _ _ _) (Ea (Ee rfl) ?_)))))))))
 first | refine s_gDT rfl ?_ ?_ | refine s_gNDT rfl ?_ ?_ | refine s_gNT rfl ?_ ?_ | refine s_gB rfl ?_ ?_
 intro h4
 try rw [nnp] at h4
 try have h4' := En h4
 try have h4' := inB12 h4
 try have h4' := inB12n h4
 refine Ea (Ee rfl) (Ea (Er rfl rfl) (Ea (Ee rfl) (Ef (Ed (Eb [1, 2, 3, 8, 11, 35] rfl (Fh rfl (Eg (Eh (Ea (Ew rfl) (Ea (Fd rfl rfl rfl) (Ea (Ee rfl) ?_)))))))))))
 first | refine Ea (o_quo rfl rfl (by decide)) ?_ | refine Ea (o_quo rfl rfl (by omega)) ?_
 rw [(tdiv4 (by omega)).1]
 have hq := tdiv4 (a := a) (by omega)
 obtain ⟨y, hy⟩ : ∃ y, d.regs[(a.tdiv 4).toNat]? = some y := ⟨_, List.getElem?_eq_getElem (by omega)⟩
 refine Ea (Ee rfl) (Ea (o_iaL rfl rfl (by simp) rfl (by (try simp only [List.length_map]); omega)) ?_)
 refine Ep (o_stA rfl rfl rfl rfl (by simp) (by rw [List.getElem?_map, hy]; rfl) rfl rfl) ?_
 refine Ef (Ed (Eb [3, 8, 11] rfl (Eg (Eh (Ea (Em rfl rfl rfl) (Ea (Ee rfl) (Ep (Eo rfl rfl rfl rfl rfl rfl rfl) (Ea (Ee rfl) (Ea (Ee rfl) (Ef (Ed ?_)))))))))))
 refine Eb [8, 9, 10] rfl (Ek (Ff (Ev ?_)))
 · first | (exfalso; simp_all; done) | (refine Ec [2, 3] (.inr rfl) rfl rfl rfl rfl (show (List.range 0 ++ [2, 3]).Nodup by decide) ?_; (have e : devDo d true a v = (d, 0, false) := by unfold devDo; (repeat' split) <;> first | rfl | (simp_all; done) | (exfalso; simp_all; omega)); rw [e]; exact ⟨(by first | rfl | (simp [List.map_set, iR]; done) | (rw [List.take_of_length_le (by simp)]; simp; done)), (by first | rfl | (simp [List.map_set, iR]; done) | (rw [List.take_of_length_le (by simp)]; simp; done))⟩) | (refine Ec [2, 3] (.inr rfl) rfl rfl rfl rfl (show (List.range 0 ++ [2, 3]).Nodup by decide) ?_; (have e : devDo d true a v = (⟨d.regs.set (a.tdiv 4).toNat v, d.timer, d.fifo⟩, v, true) := by unfold devDo; (repeat' split) <;> first | rfl | (simp_all; done) | (exfalso; simp_all; omega)); rw [e]; exact ⟨(by first | rfl | (simp [List.map_set, iR]; done) | (rw [List.take_of_length_le (by simp)]; simp; done)), (by first | rfl | (simp [List.map_set, iR]; done) | (rw [List.take_of_length_le (by simp)]; simp; done))⟩) | (refine Ec [2, 3] (.inr rfl) rfl rfl rfl rfl (show (List.range 0 ++ [2, 3]).Nodup by decide) ?_; (have e : devDo d true a v = (⟨d.regs, v, d.fifo⟩, v, true) := by unfold devDo; (repeat' split) <;> first | rfl | (simp_all; done) | (exfalso; simp_all; omega)); rw [e]; exact ⟨(by first | rfl | (simp [List.map_set, iR]; done) | (rw [List.take_of_length_le (by simp)]; simp; done)), (by first | rfl | (simp [List.map_set, iR]; done) | (rw [List.take_of_length_le (by simp)]; simp; done))⟩) | (refine Ec [2, 3] (.inr rfl) rfl rfl rfl rfl (show (List.range 0 ++ [2, 3]).Nodup by decide) ?_; (have e : devDo d true a v = (⟨d.regs, d.timer, d.fifo ++ [v]⟩, v, true) := by unfold devDo; (repeat' split) <;> first | rfl | (simp_all; done) | (exfalso; simp_all; omega)); rw [e]; exact ⟨(by first | rfl | (simp [List.map_set, iR]; done) | (rw [List.take_of_length_le (by simp)]; simp; done)), (by first | rfl | (simp [List.map_set, iR]; done) | (rw [List.take_of_length_le (by simp)]; simp; done))⟩)
 intro h4
 try rw [nnp] at h4
 try have h4' := En h4
 try have h4' := inB12 h4
 try have h4' := inB12n h4
 refine Ei rfl (Ea (Ej rfl rfl) (Ea (Ee rfl) (Ef (Ed (Eb [1, 2, 3, 8, 11, 35] rfl (Fe rfl (Eg (Eh (Ea (Ee rfl) (Fc rfl rfl (c_230 _ _ _) (Ea (Ee rfl) ?_)))))))))))
 refine Ef (Ed (Eb [1, 2, 3, 8, 11, 49] rfl ?_))
 first | refine Eu rfl ?_ ?_ | refine s_condN rfl ?_ ?_ | refine s_condNB rfl ?_ ?_ | refine Et rfl ?_ ?_
 intro h6
 try rw [nnp] at h6
 try have h6' := En h6
 try have h6' := inB12 h6
 try have h6' := inB12n h6
 refine Eg (s_rgH [1] rfl (h_op (Em rfl rfl rfl) rfl (h_op (Ew rfl) rfl (h_op (Fd rfl rfl rfl) rfl (h_op (Ee rfl) rfl ?_)))))
 first | refine h_op (o_quo rfl rfl (by decide)) rfl ?_ | refine h_op (o_quo rfl rfl (by omega)) rfl ?_
 rw [(tdiv4 (by omega)).1]
 have hq := tdiv4 (a := a) (by omega)
 obtain ⟨y, hy⟩ : ∃ y, d.regs[(a.tdiv 4).toNat]? = some y := ⟨_, List.getElem?_eq_getElem (by omega)⟩
 refine h_op (o_iaL rfl rfl (by simp) rfl (by (try simp only [List.length_map]); omega)) rfl ?_
 refine h_op (o_ldA rfl rfl (by simp) (by rw [List.getElem?_map, hy]; rfl) rfl) rfl ?_
 refine h_stn rfl rfl rfl rfl rfl (h_bar rfl (Ea (Ee rfl) (Ea (Ee rfl) (Ef (Ed (Eb [8, 9, 10] rfl (Ek (Ff (Ev ?_)))))))))
 · first | (exfalso; simp_all; done) | (refine Ec [2, 3] (.inr rfl) rfl rfl rfl rfl (show (List.range 0 ++ [2, 3]).Nodup by decide) ?_; (have e : devDo d true a v = (d, 0, false) := by unfold devDo; (repeat' split) <;> first | rfl | (simp_all; done) | (exfalso; simp_all; omega)); rw [e]; exact ⟨(by first | rfl | (simp [List.map_set, iR]; done) | (rw [List.take_of_length_le (by simp)]; simp; done)), (by first | rfl | (simp [List.map_set, iR]; done) | (rw [List.take_of_length_le (by simp)]; simp; done))⟩) | (refine Ec [2, 3] (.inr rfl) rfl rfl rfl rfl (show (List.range 0 ++ [2, 3]).Nodup by decide) ?_; (have e : devDo d true a v = (⟨d.regs.set (a.tdiv 4).toNat v, d.timer, d.fifo⟩, v, true) := by unfold devDo; (repeat' split) <;> first | rfl | (simp_all; done) | (exfalso; simp_all; omega)); rw [e]; exact ⟨(by first | rfl | (simp [List.map_set, iR]; done) | (rw [List.take_of_length_le (by simp)]; simp; done)), (by first | rfl | (simp [List.map_set, iR]; done) | (rw [List.take_of_length_le (by simp)]; simp; done))⟩) | (refine Ec [2, 3] (.inr rfl) rfl rfl rfl rfl (show (List.range 0 ++ [2, 3]).Nodup by decide) ?_; (have e : devDo d true a v = (⟨d.regs, v, d.fifo⟩, v, true) := by unfold devDo; (repeat' split) <;> first | rfl | (simp_all; done) | (exfalso; simp_all; omega)); rw [e]; exact ⟨(by first | rfl | (simp [List.map_set, iR]; done) | (rw [List.take_of_length_le (by simp)]; simp; done)), (by first | rfl | (simp [List.map_set, iR]; done) | (rw [List.take_of_length_le (by simp)]; simp; done))⟩) | (refine Ec [2, 3] (.inr rfl) rfl rfl rfl rfl (show (List.range 0 ++ [2, 3]).Nodup by decide) ?_; (have e : devDo d true a v = (⟨d.regs, d.timer, d.fifo ++ [v]⟩, v, true) := by unfold devDo; (repeat' split) <;> first | rfl | (simp_all; done) | (exfalso; simp_all; omega)); rw [e]; exact ⟨(by first | rfl | (simp [List.map_set, iR]; done) | (rw [List.take_of_length_le (by simp)]; simp; done)), (by first | rfl | (simp [List.map_set, iR]; done) | (rw [List.take_of_length_le (by simp)]; simp; done))⟩)
 intro h6
 try rw [nnp] at h6
 try have h6' := En h6
 try have h6' := inB12 h6
 try have h6' := inB12n h6
 refine Eg (Eh (Ea (Ee rfl) (Ea (o_eql rfl rfl) (Ea (Ee rfl) ?_))))
 first | refine s_gDT rfl ?_ ?_ | refine s_gB rfl ?_ ?_
 intro h8
 try rw [nnp] at h8
 try have h8' := En h8
 try have h8' := inB12 h8
 try have h8' := inB12n h8
 refine Ea (Ee rfl) (Ea (Er rfl rfl) (Ea (Ee rfl) (Ef (Ed (Eb [1, 2, 3, 8, 11, 59] rfl (Fh rfl (Eg (Eh (Ea (Ee rfl) (Ea (Ew rfl) (Ep (o_stC rfl rfl rfl rfl rfl rfl) ?_)))))))))))
 refine Ef (Ed (Eb [3, 8, 11] rfl (Eg (Eh (Ea (Em rfl rfl rfl) (Ea (Ee rfl) (Ep (Eo rfl rfl rfl rfl rfl rfl rfl) (Ea (Ee rfl) (Ea (Ee rfl) (Ef (Ed ?_)))))))))))
 refine Eb [8, 9, 10] rfl (Ek (Ff (Ev ?_)))
 · first | (exfalso; simp_all; done) | (refine Ec [2, 3] (.inr rfl) rfl rfl rfl rfl (show (List.range 0 ++ [2, 3]).Nodup by decide) ?_; (have e : devDo d true a v = (d, 0, false) := by unfold devDo; (repeat' split) <;> first | rfl | (simp_all; done) | (exfalso; simp_all; omega)); rw [e]; exact ⟨(by first | rfl | (simp [List.map_set, iR]; done) | (rw [List.take_of_length_le (by simp)]; simp; done)), (by first | rfl | (simp [List.map_set, iR]; done) | (rw [List.take_of_length_le (by simp)]; simp; done))⟩) | (refine Ec [2, 3] (.inr rfl) rfl rfl rfl rfl (show (List.range 0 ++ [2, 3]).Nodup by decide) ?_; (have e : devDo d true a v = (⟨d.regs.set (a.tdiv 4).toNat v, d.timer, d.fifo⟩, v, true) := by unfold devDo; (repeat' split) <;> first | rfl | (simp_all; done) | (exfalso; simp_all; omega)); rw [e]; exact ⟨(by first | rfl | (simp [List.map_set, iR]; done) | (rw [List.take_of_length_le (by simp)]; simp; done)), (by first | rfl | (simp [List.map_set, iR]; done) | (rw [List.take_of_length_le (by simp)]; simp; done))⟩) | (refine Ec [2, 3] (.inr rfl) rfl rfl rfl rfl (show (List.range 0 ++ [2, 3]).Nodup by decide) ?_; (have e : devDo d true a v = (⟨d.regs, v, d.fifo⟩, v, true) := by unfold devDo; (repeat' split) <;> first | rfl | (simp_all; done) | (exfalso; simp_all; omega)); rw [e]; exact ⟨(by first | rfl | (simp [List.map_set, iR]; done) | (rw [List.take_of_length_le (by simp)]; simp; done)), (by first | rfl | (simp [List.map_set, iR]; done) | (rw [List.take_of_length_le (by simp)]; simp; done))⟩) | (refine Ec [2, 3] (.inr rfl) rfl rfl rfl rfl (show (List.range 0 ++ [2, 3]).Nodup by decide) ?_; (have e : devDo d true a v = (⟨d.regs, d.timer, d.fifo ++ [v]⟩, v, true) := by unfold devDo; (repeat' split) <;> first | rfl | (simp_all; done) | (exfalso; simp_all; omega)); rw [e]; exact ⟨(by first | rfl | (simp [List.map_set, iR]; done) | (rw [List.take_of_length_le (by simp)]; simp; done)), (by first | rfl | (simp [List.map_set, iR]; done) | (rw [List.take_of_length_le (by simp)]; simp; done))⟩)
 intro h8
 try rw [nnp] at h8
 try have h8' := En h8
 try have h8' := inB12 h8
 try have h8' := inB12n h8
 refine Ei rfl (Ea (Ej rfl rfl) (Ea (Ee rfl) (Ef (Ed (Eb [1, 2, 3, 8, 11, 59] rfl (Fe rfl (Eg (Eh (Ea (Ee rfl) (Ea (o_eql rfl rfl) (Ea (Ee rfl) ?_)))))))))))
 refine Ef (Ed (Eb [1, 2, 3, 8, 11, 69] rfl ?_))
 first | refine Eu rfl ?_ ?_ | refine Et rfl ?_ ?_
 intro h9
 try rw [nnp] at h9
 try have h9' := En h9
 try have h9' := inB12 h9
 try have h9' := inB12n h9
 refine Eg (Eh (Ea (Ew rfl) (Ea (Fd rfl rfl rfl) (Ea (Ee rfl) (Ef (Ed (Eb [8, 11, 12] rfl (Eg (Eh (Ea (Ee rfl) ?_))))))))))
 first | refine Ea (o_addn rfl rfl (by omega)) ?_ | refine Ea (o_add rfl rfl) ?_
 refine Fc rfl rfl c_201w ?_
 first | refine Ea (o_rem rfl rfl (by decide)) ?_ | refine Ea (o_rem rfl rfl (by omega)) ?_
 refine Ea (Ew rfl) (Ep (o_stC rfl rfl rfl rfl rfl rfl) (Ef (Ed (Eb [8, 11, 12] rfl (Eg (Eh (Ea (Em rfl rfl rfl) (Ea (Ee rfl) (Ep (Eo rfl rfl rfl rfl rfl rfl rfl) (Ea (Ee rfl) (Ea (Ee rfl) ?_)))))))))))
 refine Ef (Ed (Eb [8, 9, 10] rfl (Ek (Ff (Ev ?_)))))
 · first | (exfalso; simp_all; done) | (refine Ec [2, 3] (.inr rfl) rfl rfl rfl rfl (show (List.range 0 ++ [2, 3]).Nodup by decide) ?_; (have e : devDo d true a v = (d, 0, false) := by unfold devDo; (repeat' split) <;> first | rfl | (simp_all; done) | (exfalso; simp_all; omega)); rw [e]; exact ⟨(by first | rfl | (simp [List.map_set, iR]; done) | (rw [List.take_of_length_le (by simp)]; simp; done)), (by first | rfl | (simp [List.map_set, iR]; done) | (rw [List.take_of_length_le (by simp)]; simp; done))⟩) | (refine Ec [2, 3] (.inr rfl) rfl rfl rfl rfl (show (List.range 0 ++ [2, 3]).Nodup by decide) ?_; (have e : devDo d true a v = (⟨d.regs.set (a.tdiv 4).toNat v, d.timer, d.fifo⟩, v, true) := by unfold devDo; (repeat' split) <;> first | rfl | (simp_all; done) | (exfalso; simp_all; omega)); rw [e]; exact ⟨(by first | rfl | (simp [List.map_set, iR]; done) | (rw [List.take_of_length_le (by simp)]; simp; done)), (by first | rfl | (simp [List.map_set, iR]; done) | (rw [List.take_of_length_le (by simp)]; simp; done))⟩) | (refine Ec [2, 3] (.inr rfl) rfl rfl rfl rfl (show (List.range 0 ++ [2, 3]).Nodup by decide) ?_; (have e : devDo d true a v = (⟨d.regs, v, d.fifo⟩, v, true) := by unfold devDo; (repeat' split) <;> first | rfl | (simp_all; done) | (exfalso; simp_all; omega)); rw [e]; exact ⟨(by first | rfl | (simp [List.map_set, iR]; done) | (rw [List.take_of_length_le (by simp)]; simp; done)), (by first | rfl | (simp [List.map_set, iR]; done) | (rw [List.take_of_length_le (by simp)]; simp; done))⟩) | (refine Ec [2, 3] (.inr rfl) rfl rfl rfl rfl (show (List.range 0 ++ [2, 3]).Nodup by decide) ?_; (have e : devDo d true a v = (⟨d.regs, d.timer, d.fifo ++ [v]⟩, v, true) := by unfold devDo; (repeat' split) <;> first | rfl | (simp_all; done) | (exfalso; simp_all; omega)); rw [e]; exact ⟨(by first | rfl | (simp [List.map_set, iR]; done) | (rw [List.take_of_length_le (by simp)]; simp; done)), (by first | rfl | (simp [List.map_set, iR]; done) | (rw [List.take_of_length_le (by simp)]; simp; done))⟩)
 intro h9
 try rw [nnp] at h9
 try have h9' := En h9
 try have h9' := inB12 h9
 try have h9' := inB12n h9
 refine Eg (Eh (Ea (Ee rfl) (Ea (o_eql rfl rfl) (Ea (Ee rfl) ?_))))
 first | refine s_gDT rfl ?_ ?_ | refine s_gB rfl ?_ ?_
 intro h10
 try rw [nnp] at h10
 try have h10' := En h10
 try have h10' := inB12 h10
 try have h10' := inB12n h10
 refine Ea (Ee rfl) (Ea (Er rfl rfl) (Ea (Ee rfl) (Ez rfl (Ea (Ew rfl) (Ez rfl (Ea (Fd rfl rfl rfl) (Ez rfl ?_)))))))
 first | refine Ea (o_lenM rfl) ?_ | refine Ea (o_len rfl) ?_ | refine Ea (o_lenL rfl rfl (by simp)) ?_ | refine Ea (o_lenN rfl) ?_
 refine Ez rfl (Ea (o_lss rfl rfl) (Ea (Er rfl rfl) (Ea (Ee rfl) (Ef (Ed (Eb [1, 2, 3, 8, 11, 81] rfl ?_))))))
 first | refine Eu rfl ?_ ?_ | refine Et rfl ?_ ?_
 intro h11
 try rw [nnp] at h11
 try have h11' := En h11
 try have h11' := inB12 h11
 try have h11' := inB12n h11
 refine Eg (Eh (Ea (Ew rfl) (Ea (Fd rfl rfl rfl) (Ea (Ee rfl) (Ea (o_bs rfl rfl rfl rfl) ?_)))))
 first | refine Ea (o_appL rfl rfl (by simp) rfl rfl rfl rfl (by simp [roomy]; omega)) ?_ | refine Ea (o_app rfl rfl (by simp) rfl rfl (by simp [roomy]; omega)) ?_
 refine Ea (Ew rfl) (Ep (o_stC rfl rfl rfl rfl rfl rfl) (Ef (Ed (Eb [3, 8, 11] rfl (Eg (Eh (Ea (Em rfl rfl rfl) (Ea (Ee rfl) (Ep (Eo rfl rfl rfl rfl rfl rfl rfl) (Ea (Ee rfl) (Ea (Ee rfl) ?_)))))))))))
 refine Ef (Ed (Eb [8, 9, 10] rfl (Ek (Ff (Ev ?_)))))
 · first | (exfalso; simp_all; done) | (refine Ec [2, 3] (.inr rfl) rfl rfl rfl rfl (show (List.range 0 ++ [2, 3]).Nodup by decide) ?_; (have e : devDo d true a v = (d, 0, false) := by unfold devDo; (repeat' split) <;> first | rfl | (simp_all; done) | (exfalso; simp_all; omega)); rw [e]; exact ⟨(by first | rfl | (simp [List.map_set, iR]; done) | (rw [List.take_of_length_le (by simp)]; simp; done)), (by first | rfl | (simp [List.map_set, iR]; done) | (rw [List.take_of_length_le (by simp)]; simp; done))⟩) | (refine Ec [2, 3] (.inr rfl) rfl rfl rfl rfl (show (List.range 0 ++ [2, 3]).Nodup by decide) ?_; (have e : devDo d true a v = (⟨d.regs.set (a.tdiv 4).toNat v, d.timer, d.fifo⟩, v, true) := by unfold devDo; (repeat' split) <;> first | rfl | (simp_all; done) | (exfalso; simp_all; omega)); rw [e]; exact ⟨(by first | rfl | (simp [List.map_set, iR]; done) | (rw [List.take_of_length_le (by simp)]; simp; done)), (by first | rfl | (simp [List.map_set, iR]; done) | (rw [List.take_of_length_le (by simp)]; simp; done))⟩) | (refine Ec [2, 3] (.inr rfl) rfl rfl rfl rfl (show (List.range 0 ++ [2, 3]).Nodup by decide) ?_; (have e : devDo d true a v = (⟨d.regs, v, d.fifo⟩, v, true) := by unfold devDo; (repeat' split) <;> first | rfl | (simp_all; done) | (exfalso; simp_all; omega)); rw [e]; exact ⟨(by first | rfl | (simp [List.map_set, iR]; done) | (rw [List.take_of_length_le (by simp)]; simp; done)), (by first | rfl | (simp [List.map_set, iR]; done) | (rw [List.take_of_length_le (by simp)]; simp; done))⟩) | (refine Ec [2, 3] (.inr rfl) rfl rfl rfl rfl (show (List.range 0 ++ [2, 3]).Nodup by decide) ?_; (have e : devDo d true a v = (⟨d.regs, d.timer, d.fifo ++ [v]⟩, v, true) := by unfold devDo; (repeat' split) <;> first | rfl | (simp_all; done) | (exfalso; simp_all; omega)); rw [e]; exact ⟨(by first | rfl | (simp [List.map_set, iR]; done) | (rw [List.take_of_length_le (by simp)]; simp; done)), (by first | rfl | (simp [List.map_set, iR]; done) | (rw [List.take_of_length_le (by simp)]; simp; done))⟩)
 intro h11
 try rw [nnp] at h11
 try have h11' := En h11
 try have h11' := inB12 h11
 try have h11' := inB12n h11
 refine Eg (Eh (Ea (Ee rfl) (Ea (o_eql rfl rfl) (Ea (Ee rfl) ?_))))
 first | refine s_gDT rfl ?_ ?_ | refine s_gB rfl ?_ ?_
 intro h12
 try rw [nnp] at h12
 try have h12' := En h12
 try have h12' := inB12 h12
 try have h12' := inB12n h12
 refine Ea (Ee rfl) (Ez rfl (Ea (o_not rfl) (Ea (Er rfl rfl) (Ea (Ee rfl) (Ei rfl (Ei rfl (Ei rfl (Ei rfl (Ea (Ej rfl rfl) (Ea (Ee rfl) (Ef ?_)))))))))))
 refine Ed (Eb [8, 11, 101] rfl (Fe rfl (Fb (Fg (Ed (Eb [8, 11] rfl (Eg (Eh (Ea (Em rfl rfl rfl) (Ep (Eo rfl rfl rfl rfl rfl rfl rfl) (Ea (Ee rfl) ?_)))))))))))
 refine Ea (Ee rfl) (Ef (Ed (Eb [8, 9, 10] rfl (Ek ?_))))
 · first | (exfalso; simp_all; done) | (refine Ec [2, 3] (.inr rfl) rfl rfl rfl rfl (show (List.range 0 ++ [2, 3]).Nodup by decide) ?_; (have e : devDo d true a v = (d, 0, false) := by unfold devDo; (repeat' split) <;> first | rfl | (simp_all; done) | (exfalso; simp_all; omega)); rw [e]; exact ⟨(by first | rfl | (simp [List.map_set, iR]; done) | (rw [List.take_of_length_le (by simp)]; simp; done)), (by first | rfl | (simp [List.map_set, iR]; done) | (rw [List.take_of_length_le (by simp)]; simp; done))⟩) | (refine Ec [2, 3] (.inr rfl) rfl rfl rfl rfl (show (List.range 0 ++ [2, 3]).Nodup by decide) ?_; (have e : devDo d true a v = (⟨d.regs.set (a.tdiv 4).toNat v, d.timer, d.fifo⟩, v, true) := by unfold devDo; (repeat' split) <;> first | rfl | (simp_all; done) | (exfalso; simp_all; omega)); rw [e]; exact ⟨(by first | rfl | (simp [List.map_set, iR]; done) | (rw [List.take_of_length_le (by simp)]; simp; done)), (by first | rfl | (simp [List.map_set, iR]; done) | (rw [List.take_of_length_le (by simp)]; simp; done))⟩) | (refine Ec [2, 3] (.inr rfl) rfl rfl rfl rfl (show (List.range 0 ++ [2, 3]).Nodup by decide) ?_; (have e : devDo d true a v = (⟨d.regs, v, d.fifo⟩, v, true) := by unfold devDo; (repeat' split) <;> first | rfl | (simp_all; done) | (exfalso; simp_all; omega)); rw [e]; exact ⟨(by first | rfl | (simp [List.map_set, iR]; done) | (rw [List.take_of_length_le (by simp)]; simp; done)), (by first | rfl | (simp [List.map_set, iR]; done) | (rw [List.take_of_length_le (by simp)]; simp; done))⟩) | (refine Ec [2, 3] (.inr rfl) rfl rfl rfl rfl (show (List.range 0 ++ [2, 3]).Nodup by decide) ?_; (have e : devDo d true a v = (⟨d.regs, d.timer, d.fifo ++ [v]⟩, v, true) := by unfold devDo; (repeat' split) <;> first | rfl | (simp_all; done) | (exfalso; simp_all; omega)); rw [e]; exact ⟨(by first | rfl | (simp [List.map_set, iR]; done) | (rw [List.take_of_length_le (by simp)]; simp; done)), (by first | rfl | (simp [List.map_set, iR]; done) | (rw [List.take_of_length_le (by simp)]; simp; done))⟩)
 intro h12
 try rw [nnp] at h12
 try have h12' := En h12
 try have h12' := inB12 h12
 try have h12' := inB12n h12
 refine Ei rfl (Ei rfl (Ea (Ej rfl rfl) (Ea (Ee rfl) (Ei rfl (Ei rfl (Ei rfl (Ei rfl (Ea (Ej rfl rfl) (Ea (Ee rfl) (Ef (Ed ?_)))))))))))
 refine Eb [8, 11, 101] rfl (Fe rfl (Fb (Fg (Ed (Eb [8, 11] rfl (Eg (Eh (Ea (Em rfl rfl rfl) (Ep (Eo rfl rfl rfl rfl rfl rfl rfl) (Ea (Ee rfl) (Ea (Ee rfl) ?_)))))))))))
 refine Ef (Ed (Eb [8, 9, 10] rfl (Ek ?_)))
 · first | (exfalso; simp_all; done) | (refine Ec [2, 3] (.inr rfl) rfl rfl rfl rfl (show (List.range 0 ++ [2, 3]).Nodup by decide) ?_; (have e : devDo d true a v = (d, 0, false) := by unfold devDo; (repeat' split) <;> first | rfl | (simp_all; done) | (exfalso; simp_all; omega)); rw [e]; exact ⟨(by first | rfl | (simp [List.map_set, iR]; done) | (rw [List.take_of_length_le (by simp)]; simp; done)), (by first | rfl | (simp [List.map_set, iR]; done) | (rw [List.take_of_length_le (by simp)]; simp; done))⟩) | (refine Ec [2, 3] (.inr rfl) rfl rfl rfl rfl (show (List.range 0 ++ [2, 3]).Nodup by decide) ?_; (have e : devDo d true a v = (⟨d.regs.set (a.tdiv 4).toNat v, d.timer, d.fifo⟩, v, true) := by unfold devDo; (repeat' split) <;> first | rfl | (simp_all; done) | (exfalso; simp_all; omega)); rw [e]; exact ⟨(by first | rfl | (simp [List.map_set, iR]; done) | (rw [List.take_of_length_le (by simp)]; simp; done)), (by first | rfl | (simp [List.map_set, iR]; done) | (rw [List.take_of_length_le (by simp)]; simp; done))⟩) | (refine Ec [2, 3] (.inr rfl) rfl rfl rfl rfl (show (List.range 0 ++ [2, 3]).Nodup by decide) ?_; (have e : devDo d true a v = (⟨d.regs, v, d.fifo⟩, v, true) := by unfold devDo; (repeat' split) <;> first | rfl | (simp_all; done) | (exfalso; simp_all; omega)); rw [e]; exact ⟨(by first | rfl | (simp [List.map_set, iR]; done) | (rw [List.take_of_length_le (by simp)]; simp; done)), (by first | rfl | (simp [List.map_set, iR]; done) | (rw [List.take_of_length_le (by simp)]; simp; done))⟩) | (refine Ec [2, 3] (.inr rfl) rfl rfl rfl rfl (show (List.range 0 ++ [2, 3]).Nodup by decide) ?_; (have e : devDo d true a v = (⟨d.regs, d.timer, d.fifo ++ [v]⟩, v, true) := by unfold devDo; (repeat' split) <;> first | rfl | (simp_all; done) | (exfalso; simp_all; omega)); rw [e]; exact ⟨(by first | rfl | (simp [List.map_set, iR]; done) | (rw [List.take_of_length_le (by simp)]; simp; done)), (by first | rfl | (simp [List.map_set, iR]; done) | (rw [List.take_of_length_le (by simp)]; simp; done))⟩)
 intro h10
 try rw [nnp] at h10
 try have h10' := En h10
 try have h10' := inB12 h10
 try have h10' := inB12n h10
 refine Ei rfl (Ea (Ej rfl rfl) (Ea (Ee rfl) (Ei rfl (Ei rfl (Ei rfl (Ei rfl (Ea (Ej rfl rfl) (Ea (Ee rfl) (Ef (Ed (Eb [1, 2, 3, 8, 11, 81] rfl ?_)))))))))))
 refine Fe rfl (Eg (Eh (Ea (Ee rfl) (Ea (o_eql rfl rfl) (Ea (Ee rfl) ?_)))))
 first | refine s_gDT rfl ?_ ?_ | refine s_gB rfl ?_ ?_
 intro h13
 try rw [nnp] at h13
 try have h13' := En h13
 try have h13' := inB12 h13
 try have h13' := inB12n h13
 refine Ea (Ee rfl) (Ez rfl (Ea (o_not rfl) (Ea (Er rfl rfl) (Ea (Ee rfl) (Ei rfl (Ei rfl (Ei rfl (Ei rfl (Ea (Ej rfl rfl) (Ea (Ee rfl) (Ef ?_)))))))))))
 refine Ed (Eb [8, 11, 101] rfl (Fe rfl (Fb (Fg (Ed (Eb [8, 11] rfl (Eg (Eh (Ea (Em rfl rfl rfl) (Ep (Eo rfl rfl rfl rfl rfl rfl rfl) (Ea (Ee rfl) ?_)))))))))))
 refine Ea (Ee rfl) (Ef (Ed (Eb [8, 9, 10] rfl (Ek ?_))))
 · first | (exfalso; simp_all; done) | (refine Ec [2, 3] (.inr rfl) rfl rfl rfl rfl (show (List.range 0 ++ [2, 3]).Nodup by decide) ?_; (have e : devDo d true a v = (d, 0, false) := by unfold devDo; (repeat' split) <;> first | rfl | (simp_all; done) | (exfalso; simp_all; omega)); rw [e]; exact ⟨(by first | rfl | (simp [List.map_set, iR]; done) | (rw [List.take_of_length_le (by simp)]; simp; done)), (by first | rfl | (simp [List.map_set, iR]; done) | (rw [List.take_of_length_le (by simp)]; simp; done))⟩) | (refine Ec [2, 3] (.inr rfl) rfl rfl rfl rfl (show (List.range 0 ++ [2, 3]).Nodup by decide) ?_; (have e : devDo d true a v = (⟨d.regs.set (a.tdiv 4).toNat v, d.timer, d.fifo⟩, v, true) := by unfold devDo; (repeat' split) <;> first | rfl | (simp_all; done) | (exfalso; simp_all; omega)); rw [e]; exact ⟨(by first | rfl | (simp [List.map_set, iR]; done) | (rw [List.take_of_length_le (by simp)]; simp; done)), (by first | rfl | (simp [List.map_set, iR]; done) | (rw [List.take_of_length_le (by simp)]; simp; done))⟩) | (refine Ec [2, 3] (.inr rfl) rfl rfl rfl rfl (show (List.range 0 ++ [2, 3]).Nodup by decide) ?_; (have e : devDo d true a v = (⟨d.regs, v, d.fifo⟩, v, true) := by unfold devDo; (repeat' split) <;> first | rfl | (simp_all; done) | (exfalso; simp_all; omega)); rw [e]; exact ⟨(by first | rfl | (simp [List.map_set, iR]; done) | (rw [List.take_of_length_le (by simp)]; simp; done)), (by first | rfl | (simp [List.map_set, iR]; done) | (rw [List.take_of_length_le (by simp)]; simp; done))⟩) | (refine Ec [2, 3] (.inr rfl) rfl rfl rfl rfl (show (List.range 0 ++ [2, 3]).Nodup by decide) ?_; (have e : devDo d true a v = (⟨d.regs, d.timer, d.fifo ++ [v]⟩, v, true) := by unfold devDo; (repeat' split) <;> first | rfl | (simp_all; done) | (exfalso; simp_all; omega)); rw [e]; exact ⟨(by first | rfl | (simp [List.map_set, iR]; done) | (rw [List.take_of_length_le (by simp)]; simp; done)), (by first | rfl | (simp [List.map_set, iR]; done) | (rw [List.take_of_length_le (by simp)]; simp; done))⟩)
 intro h13
 try rw [nnp] at h13
 try have h13' := En h13
 try have h13' := inB12 h13
 try have h13' := inB12n h13
 refine Ei rfl (Ei rfl (Ea (Ej rfl rfl) (Ea (Ee rfl) (Ei rfl (Ei rfl (Ei rfl (Ei rfl (Ea (Ej rfl rfl) (Ea (Ee rfl) (Ef (Ed ?_)))))))))))
 refine Eb [8, 11, 101] rfl (Fe rfl (Fb (Fg (Ed (Eb [8, 11] rfl (Eg (Eh (Ea (Em rfl rfl rfl) (Ep (Eo rfl rfl rfl rfl rfl rfl rfl) (Ea (Ee rfl) (Ea (Ee rfl) ?_)))))))))))
 refine Ef (Ed (Eb [8, 9, 10] rfl (Ek ?_)))
 · first | (exfalso; simp_all; done) | (refine Ec [2, 3] (.inr rfl) rfl rfl rfl rfl (show (List.range 0 ++ [2, 3]).Nodup by decide) ?_; (have e : devDo d true a v = (d, 0, false) := by unfold devDo; (repeat' split) <;> first | rfl | (simp_all; done) | (exfalso; simp_all; omega)); rw [e]; exact ⟨(by first | rfl | (simp [List.map_set, iR]; done) | (rw [List.take_of_length_le (by simp)]; simp; done)), (by first | rfl | (simp [List.map_set, iR]; done) | (rw [List.take_of_length_le (by simp)]; simp; done))⟩) | (refine Ec [2, 3] (.inr rfl) rfl rfl rfl rfl (show (List.range 0 ++ [2, 3]).Nodup by decide) ?_; (have e : devDo d true a v = (⟨d.regs.set (a.tdiv 4).toNat v, d.timer, d.fifo⟩, v, true) := by unfold devDo; (repeat' split) <;> first | rfl | (simp_all; done) | (exfalso; simp_all; omega)); rw [e]; exact ⟨(by first | rfl | (simp [List.map_set, iR]; done) | (rw [List.take_of_length_le (by simp)]; simp; done)), (by first | rfl | (simp [List.map_set, iR]; done) | (rw [List.take_of_length_le (by simp)]; simp; done))⟩) | (refine Ec [2, 3] (.inr rfl) rfl rfl rfl rfl (show (List.range 0 ++ [2, 3]).Nodup by decide) ?_; (have e : devDo d true a v = (⟨d.regs, v, d.fifo⟩, v, true) := by unfold devDo; (repeat' split) <;> first | rfl | (simp_all; done) | (exfalso; simp_all; omega)); rw [e]; exact ⟨(by first | rfl | (simp [List.map_set, iR]; done) | (rw [List.take_of_length_le (by simp)]; simp; done)), (by first | rfl | (simp [List.map_set, iR]; done) | (rw [List.take_of_length_le (by simp)]; simp; done))⟩) | (refine Ec [2, 3] (.inr rfl) rfl rfl rfl rfl (show (List.range 0 ++ [2, 3]).Nodup by decide) ?_; (have e : devDo d true a v = (⟨d.regs, d.timer, d.fifo ++ [v]⟩, v, true) := by unfold devDo; (repeat' split) <;> first | rfl | (simp_all; done) | (exfalso; simp_all; omega)); rw [e]; exact ⟨(by first | rfl | (simp [List.map_set, iR]; done) | (rw [List.take_of_length_le (by simp)]; simp; done)), (by first | rfl | (simp [List.map_set, iR]; done) | (rw [List.take_of_length_le (by simp)]; simp; done))⟩)
 intro h2
 try rw [nnp] at h2
 try have h2' := En h2
 try have h2' := inB12 h2
 try have h2' := inB12n h2
 refine Ei rfl (Ei rfl (s_gN rfl (s_gN rfl (s_gN rfl (s_keepO (is := [1, 2, 3, 8, 11, 24, 26, 27, 29]) rfl (s_gN rfl (s_gN rfl (Ei rfl (Ea (Er rfl rfl) (Ef (Ed ?_)))))))))))
 refine Eb [1, 2, 3, 8, 11, 33] rfl (Fh rfl (Eg (Eh (Ea (Em rfl rfl rfl) (Ep (Eo rfl rfl rfl rfl rfl rfl rfl) (Ea (Ee rfl) (Ea (Ee rfl) (Ef (Ed (Eb [8, 9, 10] rfl (Ek ?_)))))))))))
 refine Ev ?_
 · first | (exfalso; simp_all; done) | (refine Ec [2, 3] (.inr rfl) rfl rfl rfl rfl (show (List.range 0 ++ [2, 3]).Nodup by decide) ?_; (have e : devDo d true a v = (d, 0, false) := by unfold devDo; (repeat' split) <;> first | rfl | (simp_all; done) | (exfalso; simp_all; omega)); rw [e]; exact ⟨(by first | rfl | (simp [List.map_set, iR]; done) | (rw [List.take_of_length_le (by simp)]; simp; done)), (by first | rfl | (simp [List.map_set, iR]; done) | (rw [List.take_of_length_le (by simp)]; simp; done))⟩) | (refine Ec [2, 3] (.inr rfl) rfl rfl rfl rfl (show (List.range 0 ++ [2, 3]).Nodup by decide) ?_; (have e : devDo d true a v = (⟨d.regs.set (a.tdiv 4).toNat v, d.timer, d.fifo⟩, v, true) := by unfold devDo; (repeat' split) <;> first | rfl | (simp_all; done) | (exfalso; simp_all; omega)); rw [e]; exact ⟨(by first | rfl | (simp [List.map_set, iR]; done) | (rw [List.take_of_length_le (by simp)]; simp; done)), (by first | rfl | (simp [List.map_set, iR]; done) | (rw [List.take_of_length_le (by simp)]; simp; done))⟩) | (refine Ec [2, 3] (.inr rfl) rfl rfl rfl rfl (show (List.range 0 ++ [2, 3]).Nodup by decide) ?_; (have e : devDo d true a v = (⟨d.regs, v, d.fifo⟩, v, true) := by unfold devDo; (repeat' split) <;> first | rfl | (simp_all; done) | (exfalso; simp_all; omega)); rw [e]; exact ⟨(by first | rfl | (simp [List.map_set, iR]; done) | (rw [List.take_of_length_le (by simp)]; simp; done)), (by first | rfl | (simp [List.map_set, iR]; done) | (rw [List.take_of_length_le (by simp)]; simp; done))⟩) | (refine Ec [2, 3] (.inr rfl) rfl rfl rfl rfl (show (List.range 0 ++ [2, 3]).Nodup by decide) ?_; (have e : devDo d true a v = (⟨d.regs, d.timer, d.fifo ++ [v]⟩, v, true) := by unfold devDo; (repeat' split) <;> first | rfl | (simp_all; done) | (exfalso; simp_all; omega)); rw [e]; exact ⟨(by first | rfl | (simp [List.map_set, iR]; done) | (rw [List.take_of_length_le (by simp)]; simp; done)), (by first | rfl | (simp [List.map_set, iR]; done) | (rw [List.take_of_length_le (by simp)]; simp; done))⟩)
 intro h1
 try rw [nnp] at h1
 try have h1' := En h1
 try have h1' := inB12 h1
 try have h1' := inB12n h1
 refine Ei rfl (Ei rfl (Ei rfl (Ea (Er rfl rfl) (Ea (Ee rfl) (Ei rfl (Ei rfl (s_gN rfl (s_gN rfl (s_gN rfl (s_keepO (is := [1, 2, 3, 8, 11, 24, 26, 27, 29]) rfl (s_gN rfl ?_)))))))))))
 refine s_gN rfl (Ei rfl (Ea (Er rfl rfl) (Ef (Ed (Eb [1, 2, 3, 8, 11, 33] rfl (Fh rfl (Eg (Eh (Ea (Em rfl rfl rfl) (Ep (Eo rfl rfl rfl rfl rfl rfl rfl) (Ea (Ee rfl) ?_)))))))))))
 refine Ea (Ee rfl) (Ef (Ed (Eb [8, 9, 10] rfl (Ek (Ev ?_)))))
 · first | (exfalso; simp_all; done) | (refine Ec [2, 3] (.inr rfl) rfl rfl rfl rfl (show (List.range 0 ++ [2, 3]).Nodup by decide) ?_; (have e : devDo d true a v = (d, 0, false) := by unfold devDo; (repeat' split) <;> first | rfl | (simp_all; done) | (exfalso; simp_all; omega)); rw [e]; exact ⟨(by first | rfl | (simp [List.map_set, iR]; done) | (rw [List.take_of_length_le (by simp)]; simp; done)), (by first | rfl | (simp [List.map_set, iR]; done) | (rw [List.take_of_length_le (by simp)]; simp; done))⟩) | (refine Ec [2, 3] (.inr rfl) rfl rfl rfl rfl (show (List.range 0 ++ [2, 3]).Nodup by decide) ?_; (have e : devDo d true a v = (⟨d.regs.set (a.tdiv 4).toNat v, d.timer, d.fifo⟩, v, true) := by unfold devDo; (repeat' split) <;> first | rfl | (simp_all; done) | (exfalso; simp_all; omega)); rw [e]; exact ⟨(by first | rfl | (simp [List.map_set, iR]; done) | (rw [List.take_of_length_le (by simp)]; simp; done)), (by first | rfl | (simp [List.map_set, iR]; done) | (rw [List.take_of_length_le (by simp)]; simp; done))⟩) | (refine Ec [2, 3] (.inr rfl) rfl rfl rfl rfl (show (List.range 0 ++ [2, 3]).Nodup by decide) ?_; (have e : devDo d true a v = (⟨d.regs, v, d.fifo⟩, v, true) := by unfold devDo; (repeat' split) <;> first | rfl | (simp_all; done) | (exfalso; simp_all; omega)); rw [e]; exact ⟨(by first | rfl | (simp [List.map_set, iR]; done) | (rw [List.take_of_length_le (by simp)]; simp; done)), (by first | rfl | (simp [List.map_set, iR]; done) | (rw [List.take_of_length_le (by simp)]; simp; done))⟩) | (refine Ec [2, 3] (.inr rfl) rfl rfl rfl rfl (show (List.range 0 ++ [2, 3]).Nodup by decide) ?_; (have e : devDo d true a v = (⟨d.regs, d.timer, d.fifo ++ [v]⟩, v, true) := by unfold devDo; (repeat' split) <;> first | rfl | (simp_all; done) | (exfalso; simp_all; omega)); rw [e]; exact ⟨(by first | rfl | (simp [List.map_set, iR]; done) | (rw [List.take_of_length_le (by simp)]; simp; done)), (by first | rfl | (simp [List.map_set, iR]; done) | (rw [List.take_of_length_le (by simp)]; simp; done))⟩)
theorem cg_399f (d : Dev) (a v : Int) (hs : d.small) : GV prg 399 [] [.agg d.r, .w (.bool false), .w (.int .i64 a), .w (.int .i64 v)] (fun u L1 => u = .tup [.agg [.ls 0 (devDo d false a v).1.regs.length, .w (.int .i64 (devDo d false a v).1.timer), .ls 1 (devDo d false a v).1.fifo.length], .w (.int .i64 (devDo d false a v).2.1), .w (.bool (devDo d false a v).2.2)] ∧ L1 = [.arr 1 ((devDo d false a v).1.regs.map iR), .arr 1 ((devDo d false a v).1.fifo.map iR)]) := by
 have hs1 := hs.1
 have hs2 := hs.2
 refine gv_in g399 (Eb [0, 1, 2, 3] rfl (Eg (Eh (Ea (o_box rfl rfl rfl) (Ea (o_new rfl rfl) (Ea (Ee rfl) (Ea (Ee rfl) (Ef (Ed (Eb [1, 2, 3, 4, 8] rfl (Eg ?_)))))))))))
 refine Eh (Ea (Em rfl rfl rfl) (s_callG [] rfl rfl rfl rfl (by simp) (.inl rfl) (cg_405 d hs) ?_))
 rintro u L1 ⟨rfl, rfl⟩
 refine ⟨_, _, rfl, rfl, ?_⟩
 refine Ea (o_new rfl rfl) (Ep (Eo rfl rfl rfl rfl rfl rfl rfl) (Ef (Ed (Eb [1, 2, 3, 4, 8, 11] rfl (Eg (Eg (Eh (Ea (Em rfl rfl rfl) ?_))))))))
 first | refine Fc rfl rfl (c_189 d hs) ?_ | refine s_callL rfl rfl (by simp) (c_189 d hs) rfl ?_
 refine Ea (o_not rfl) (Ea (Ee rfl) ?_)
 first | refine s_gDF rfl ?_ ?_ | refine s_gNDF rfl ?_ ?_ | refine s_gNF rfl ?_ ?_ | refine s_gB rfl ?_ ?_
 intro h1
 try rw [nnp] at h1
 try have h1' := En h1
 try have h1' := inB12 h1
 try have h1' := inB12n h1
 refine Ea (Ee rfl) (Ez rfl ?_)
 first | refine Ea (o_rem rfl rfl (by decide)) ?_ | refine Ea (o_rem rfl rfl (by omega)) ?_
 refine Ez rfl (Ea (o_neq rfl rfl) (Ea (Ej rfl rfl) (Ea (Ee rfl) ?_)))
 first | refine s_gDF rfl ?_ ?_ | refine s_gB rfl ?_ ?_
 intro h2
 try rw [nnp] at h2
 try have h2' := En h2
 try have h2' := inB12 h2
 try have h2' := inB12n h2
 refine Ea (Ee rfl) (Ez rfl (Ea (Ee rfl) (Ei rfl (Ei rfl (Ei rfl (s_keepO (is := [1, 2, 3, 8, 11, 24, 26, 27, 29]) rfl (Ei rfl (Ei rfl (Ez rfl (Ea (Ej rfl rfl) (Ea (Ej rfl rfl) ?_)))))))))))
 refine Ef (Ed (Eb [1, 2, 3, 8, 11, 33] rfl (Fe rfl (Fb (Ed (Eb [1, 2, 3, 8, 11] rfl (Eg (S_block (Eg (Eh (Ea (Ee rfl) ?_)))))))))))
 refine Fc rfl rfl (c_230 _ _ _) (Ea (Ee rfl) ?_)
 first | refine s_gDT rfl ?_ ?_ | refine s_gNDT rfl ?_ ?_ | refine s_gNT rfl ?_ ?_ | refine s_gB rfl ?_ ?_
 intro h3
 try rw [nnp] at h3
 try have h3' := En h3
 try have h3' := inB12 h3
 try have h3' := inB12n h3
 refine Ea (Ee rfl) (Ea (Er rfl rfl) (Ea (Ee rfl) (Ef (Ed (Eb [1, 2, 3, 8, 11, 35] rfl (Fe rfl (Eg (Eh (Ea (Ee rfl) (Fc rfl rfl (c_230 _ _ _) (Ea (Ee rfl) ?_)))))))))))
 refine Ef (Ed (Eb [1, 2, 3, 8, 11, 49] rfl ?_))
 first | refine Eu rfl ?_ ?_ | refine s_condN rfl ?_ ?_ | refine s_condNB rfl ?_ ?_ | refine Et rfl ?_ ?_
 intro h4
 try rw [nnp] at h4
 try have h4' := En h4
 try have h4' := inB12 h4
 try have h4' := inB12n h4
 refine Eg (s_rgH [1] rfl (h_op (Em rfl rfl rfl) rfl (h_op (Ew rfl) rfl (h_op (Fd rfl rfl rfl) rfl (h_op (Ee rfl) rfl ?_)))))
 first | refine h_op (o_quo rfl rfl (by decide)) rfl ?_ | refine h_op (o_quo rfl rfl (by omega)) rfl ?_
 rw [(tdiv4 (by omega)).1]
 have hq := tdiv4 (a := a) (by omega)
 obtain ⟨y, hy⟩ : ∃ y, d.regs[(a.tdiv 4).toNat]? = some y := ⟨_, List.getElem?_eq_getElem (by omega)⟩
 refine h_op (o_iaL rfl rfl (by simp) rfl (by (try simp only [List.length_map]); omega)) rfl ?_
 refine h_op (o_ldA rfl rfl (by simp) (by rw [List.getElem?_map, hy]; rfl) rfl) rfl ?_
 refine h_stn rfl rfl rfl rfl rfl (h_bar rfl (Ea (Ee rfl) (Ea (Ee rfl) (Ef (Ed (Eb [8, 9, 10] rfl (Ek (Ff (Ev ?_)))))))))
 · first | (exfalso; simp_all; done) | (refine Ec [2, 3] (.inr rfl) rfl rfl rfl rfl (show (List.range 0 ++ [2, 3]).Nodup by decide) ?_; (have e : devDo d false a v = (d, 0, false) := by unfold devDo; (repeat' split) <;> first | rfl | (simp_all; done) | (exfalso; simp_all; omega)); rw [e]; exact ⟨(by first | rfl | (simp [List.map_set, iR]; done) | (rw [List.take_of_length_le (by simp)]; simp; done)), (by first | rfl | (simp [List.map_set, iR]; done) | (rw [List.take_of_length_le (by simp)]; simp; done))⟩) | (refine Ec [2, 3] (.inr rfl) rfl rfl rfl rfl (show (List.range 0 ++ [2, 3]).Nodup by decide) ?_; (have e : devDo d false a v = (d, y, true) := by unfold devDo; (repeat' split) <;> first | rfl | (simp_all; done) | (exfalso; simp_all; omega)); rw [e]; exact ⟨(by first | rfl | (simp [List.map_set, iR]; done) | (rw [List.take_of_length_le (by simp)]; simp; done)), (by first | rfl | (simp [List.map_set, iR]; done) | (rw [List.take_of_length_le (by simp)]; simp; done))⟩) | (refine Ec [2, 3] (.inr rfl) rfl rfl rfl rfl (show (List.range 0 ++ [2, 3]).Nodup by decide) ?_; (have e : devDo d false a v = (⟨d.regs, (d.timer + 1).tmod 4294967296, d.fifo⟩, d.timer, true) := by unfold devDo; (repeat' split) <;> first | rfl | (simp_all; done) | (exfalso; simp_all; omega)); rw [e]; exact ⟨(by first | rfl | (simp [List.map_set, iR]; done) | (rw [List.take_of_length_le (by simp)]; simp; done)), (by first | rfl | (simp [List.map_set, iR]; done) | (rw [List.take_of_length_le (by simp)]; simp; done))⟩) | (refine Ec [2, 5] (.inr rfl) rfl rfl rfl rfl (show (List.range 0 ++ [2, 5]).Nodup by decide) ?_; (have e : devDo d false a v = (⟨d.regs, d.timer, d.fifo.drop 1⟩, y, true) := by unfold devDo; (repeat' split) <;> first | rfl | (simp_all; done) | (exfalso; simp_all; omega)); rw [e]; exact ⟨(by first | rfl | (simp [List.map_set, iR]; done) | (rw [List.take_of_length_le (by simp)]; simp; done)), (by first | rfl | (simp [List.map_set, iR]; done) | (rw [List.take_of_length_le (by simp)]; simp; done))⟩)
 intro h4
 try rw [nnp] at h4
 try have h4' := En h4
 try have h4' := inB12 h4
 try have h4' := inB12n h4
 refine Eg (Eh (Ea (Ee rfl) (Ea (o_eql rfl rfl) (Ea (Ee rfl) ?_))))
 first | refine s_gDT rfl ?_ ?_ | refine s_gB rfl ?_ ?_
 intro h6
 try rw [nnp] at h6
 try have h6' := En h6
 try have h6' := inB12 h6
 try have h6' := inB12n h6
 refine Ea (Ee rfl) (Ea (Er rfl rfl) (Ea (Ee rfl) (Ef (Ed (Eb [1, 2, 3, 8, 11, 59] rfl (Fe rfl (Eg (Eh (Ea (Ee rfl) (Ea (o_eql rfl rfl) (Ea (Ee rfl) ?_)))))))))))
 refine Ef (Ed (Eb [1, 2, 3, 8, 11, 69] rfl ?_))
 first | refine Eu rfl ?_ ?_ | refine Et rfl ?_ ?_
 intro h7
 try rw [nnp] at h7
 try have h7' := En h7
 try have h7' := inB12 h7
 try have h7' := inB12n h7
 refine Eg (Eh (Ea (Ew rfl) (Ea (Fd rfl rfl rfl) (Ea (Ee rfl) (Ef (Ed (Eb [8, 11, 12] rfl (Eg (Eh (Ea (Ee rfl) ?_))))))))))
 first | refine Ea (o_addn rfl rfl (by omega)) ?_ | refine Ea (o_add rfl rfl) ?_
 refine Fc rfl rfl c_201w ?_
 first | refine Ea (o_rem rfl rfl (by decide)) ?_ | refine Ea (o_rem rfl rfl (by omega)) ?_
 refine Ea (Ew rfl) (Ep (o_stC rfl rfl rfl rfl rfl rfl) (Ef (Ed (Eb [8, 11, 12] rfl (Eg (Eh (Ea (Em rfl rfl rfl) (Ea (Ee rfl) (Ep (Eo rfl rfl rfl rfl rfl rfl rfl) (Ea (Ee rfl) (Ea (Ee rfl) ?_)))))))))))
 refine Ef (Ed (Eb [8, 9, 10] rfl (Ek (Ff (Ev ?_)))))
 · first | (exfalso; simp_all; done) | (refine Ec [2, 3] (.inr rfl) rfl rfl rfl rfl (show (List.range 0 ++ [2, 3]).Nodup by decide) ?_; (have e : devDo d false a v = (d, 0, false) := by unfold devDo; (repeat' split) <;> first | rfl | (simp_all; done) | (exfalso; simp_all; omega)); rw [e]; exact ⟨(by first | rfl | (simp [List.map_set, iR]; done) | (rw [List.take_of_length_le (by simp)]; simp; done)), (by first | rfl | (simp [List.map_set, iR]; done) | (rw [List.take_of_length_le (by simp)]; simp; done))⟩) | (refine Ec [2, 3] (.inr rfl) rfl rfl rfl rfl (show (List.range 0 ++ [2, 3]).Nodup by decide) ?_; (have e : devDo d false a v = (d, y, true) := by unfold devDo; (repeat' split) <;> first | rfl | (simp_all; done) | (exfalso; simp_all; omega)); rw [e]; exact ⟨(by first | rfl | (simp [List.map_set, iR]; done) | (rw [List.take_of_length_le (by simp)]; simp; done)), (by first | rfl | (simp [List.map_set, iR]; done) | (rw [List.take_of_length_le (by simp)]; simp; done))⟩) | (refine Ec [2, 3] (.inr rfl) rfl rfl rfl rfl (show (List.range 0 ++ [2, 3]).Nodup by decide) ?_; (have e : devDo d false a v = (⟨d.regs, (d.timer + 1).tmod 4294967296, d.fifo⟩, d.timer, true) := by unfold devDo; (repeat' split) <;> first | rfl | (simp_all; done) | (exfalso; simp_all; omega)); rw [e]; exact ⟨(by first | rfl | (simp [List.map_set, iR]; done) | (rw [List.take_of_length_le (by simp)]; simp; done)), (by first | rfl | (simp [List.map_set, iR]; done) | (rw [List.take_of_length_le (by simp)]; simp; done))⟩) | (refine Ec [2, 5] (.inr rfl) rfl rfl rfl rfl (show (List.range 0 ++ [2, 5]).Nodup by decide) ?_; (have e : devDo d false a v = (⟨d.regs, d.timer, d.fifo.drop 1⟩, y, true) := by unfold devDo; (repeat' split) <;> first | rfl | (simp_all; done) | (exfalso; simp_all; omega)); rw [e]; exact ⟨(by first | rfl | (simp [List.map_set, iR]; done) | (rw [List.take_of_length_le (by simp)]; simp; done)), (by first | rfl | (simp [List.map_set, iR]; done) | (rw [List.take_of_length_le (by simp)]; simp; done))⟩)
 intro h7
 try rw [nnp] at h7
 try have h7' := En h7
 try have h7' := inB12 h7
 try have h7' := inB12n h7
 refine Eg (Eh (Ea (Ee rfl) (Ea (o_eql rfl rfl) (Ea (Ee rfl) ?_))))
 first | refine s_gDT rfl ?_ ?_ | refine s_gB rfl ?_ ?_
 intro h8
 try rw [nnp] at h8
 try have h8' := En h8
 try have h8' := inB12 h8
 try have h8' := inB12n h8
 refine Ea (Ee rfl) (Ea (Er rfl rfl) (Ea (Ee rfl) (Ei rfl (Ei rfl (Ei rfl (Ei rfl (Ea (Ej rfl rfl) (Ea (Ee rfl) (Ef (Ed (Eb [1, 2, 3, 8, 11, 81] rfl ?_)))))))))))
 refine Fe rfl (Eg (Eh (Ea (Ee rfl) (Ea (o_eql rfl rfl) (Ea (Ee rfl) ?_)))))
 first | refine s_gDT rfl ?_ ?_ | refine s_gB rfl ?_ ?_
 intro h9
 try rw [nnp] at h9
 try have h9' := En h9
 try have h9' := inB12 h9
 try have h9' := inB12n h9
 refine Ea (Ee rfl) (Ez rfl (Ea (o_not rfl) (Ea (Er rfl rfl) (Ea (Ee rfl) (Ez rfl (Ea (Ew rfl) (Ez rfl (Ea (Fd rfl rfl rfl) (Ez rfl ?_)))))))))
 first | refine Ea (o_lenM rfl) ?_ | refine Ea (o_len rfl) ?_ | refine Ea (o_lenL rfl rfl (by simp)) ?_ | refine Ea (o_lenN rfl) ?_
 refine Ez rfl (Ea (o_gtr rfl rfl) (Ea (Er rfl rfl) (Ea (Ee rfl) (Ef (Ed (Eb [8, 11, 101] rfl ?_))))))
 first | refine Eu rfl ?_ ?_ | refine Et rfl ?_ ?_
 intro h10
 try rw [nnp] at h10
 try have h10' := En h10
 try have h10' := inB12 h10
 try have h10' := inB12n h10
 refine Eg (Eh ?_)
 obtain ⟨y, hy⟩ : ∃ y, d.fifo[Int.toNat 0]? = some y := ⟨_, List.getElem?_eq_getElem (by omega)⟩
 refine Ea (Ew rfl) (Ea (Fd rfl rfl rfl) (Ea (o_iaL rfl rfl (by simp) rfl (by (try simp only [List.length_map]); omega)) ?_))
 refine Ea (o_ldA rfl rfl (by simp) (by rw [List.getElem?_map, hy]; rfl) rfl) ?_
 refine Ea (Ee rfl) (Ef (Ed (Eb [8, 11, 13] rfl (Eg (Eh (Ea (Ew rfl) (Ea (Fd rfl rfl rfl) (s_cut rfl rfl (by simp) rfl rfl (by simp; omega) rfl rfl (Ea (Ew rfl) (Ep (o_stC rfl rfl rfl rfl rfl rfl) (Ef ?_)))))))))))
 refine Ed (Eb [8, 11, 13] rfl (Eg (Eh (Ea (Em rfl rfl rfl) (Ea (Ee rfl) (Ep (Eo rfl rfl rfl rfl rfl rfl rfl) (Ea (Ee rfl) (Ea (Ee rfl) (Ef (Ed (Eb [8, 9, 10] rfl ?_)))))))))))
 refine Ek (Ff (Ev ?_))
 · first | (exfalso; simp_all; done) | (refine Ec [2, 3] (.inr rfl) rfl rfl rfl rfl (show (List.range 0 ++ [2, 3]).Nodup by decide) ?_; (have e : devDo d false a v = (d, 0, false) := by unfold devDo; (repeat' split) <;> first | rfl | (simp_all; done) | (exfalso; simp_all; omega)); rw [e]; exact ⟨(by first | rfl | (simp [List.map_set, iR]; done) | (rw [List.take_of_length_le (by simp)]; simp; done)), (by first | rfl | (simp [List.map_set, iR]; done) | (rw [List.take_of_length_le (by simp)]; simp; done))⟩) | (refine Ec [2, 3] (.inr rfl) rfl rfl rfl rfl (show (List.range 0 ++ [2, 3]).Nodup by decide) ?_; (have e : devDo d false a v = (d, y, true) := by unfold devDo; (repeat' split) <;> first | rfl | (simp_all; done) | (exfalso; simp_all; omega)); rw [e]; exact ⟨(by first | rfl | (simp [List.map_set, iR]; done) | (rw [List.take_of_length_le (by simp)]; simp; done)), (by first | rfl | (simp [List.map_set, iR]; done) | (rw [List.take_of_length_le (by simp)]; simp; done))⟩) | (refine Ec [2, 3] (.inr rfl) rfl rfl rfl rfl (show (List.range 0 ++ [2, 3]).Nodup by decide) ?_; (have e : devDo d false a v = (⟨d.regs, (d.timer + 1).tmod 4294967296, d.fifo⟩, d.timer, true) := by unfold devDo; (repeat' split) <;> first | rfl | (simp_all; done) | (exfalso; simp_all; omega)); rw [e]; exact ⟨(by first | rfl | (simp [List.map_set, iR]; done) | (rw [List.take_of_length_le (by simp)]; simp; done)), (by first | rfl | (simp [List.map_set, iR]; done) | (rw [List.take_of_length_le (by simp)]; simp; done))⟩) | (refine Ec [2, 5] (.inr rfl) rfl rfl rfl rfl (show (List.range 0 ++ [2, 5]).Nodup by decide) ?_; (have e : devDo d false a v = (⟨d.regs, d.timer, d.fifo.drop 1⟩, y, true) := by unfold devDo; (repeat' split) <;> first | rfl | (simp_all; done) | (exfalso; simp_all; omega)); rw [e]; exact ⟨(by first | rfl | (simp [List.map_set, iR]; done) | (rw [List.take_of_length_le (by simp)]; simp; done)), (by first | rfl | (simp [List.map_set, iR]; done) | (rw [List.take_of_length_le (by simp)]; simp; done))⟩)
 intro h10
 try rw [nnp] at h10
 try have h10' := En h10
 try have h10' := inB12 h10
 try have h10' := inB12n h10
 refine Fb (Fg (Ed (Eb [8, 11] rfl (Eg (Eh (Ea (Em rfl rfl rfl) (Ep (Eo rfl rfl rfl rfl rfl rfl rfl) (Ea (Ee rfl) (Ea (Ee rfl) (Ef (Ed ?_)))))))))))
 refine Eb [8, 9, 10] rfl (Ek ?_)
 · first | (exfalso; simp_all; done) | (refine Ec [2, 3] (.inr rfl) rfl rfl rfl rfl (show (List.range 0 ++ [2, 3]).Nodup by decide) ?_; (have e : devDo d false a v = (d, 0, false) := by unfold devDo; (repeat' split) <;> first | rfl | (simp_all; done) | (exfalso; simp_all; omega)); rw [e]; exact ⟨(by first | rfl | (simp [List.map_set, iR]; done) | (rw [List.take_of_length_le (by simp)]; simp; done)), (by first | rfl | (simp [List.map_set, iR]; done) | (rw [List.take_of_length_le (by simp)]; simp; done))⟩) | (refine Ec [2, 3] (.inr rfl) rfl rfl rfl rfl (show (List.range 0 ++ [2, 3]).Nodup by decide) ?_; (have e : devDo d false a v = (d, y, true) := by unfold devDo; (repeat' split) <;> first | rfl | (simp_all; done) | (exfalso; simp_all; omega)); rw [e]; exact ⟨(by first | rfl | (simp [List.map_set, iR]; done) | (rw [List.take_of_length_le (by simp)]; simp; done)), (by first | rfl | (simp [List.map_set, iR]; done) | (rw [List.take_of_length_le (by simp)]; simp; done))⟩) | (refine Ec [2, 3] (.inr rfl) rfl rfl rfl rfl (show (List.range 0 ++ [2, 3]).Nodup by decide) ?_; (have e : devDo d false a v = (⟨d.regs, (d.timer + 1).tmod 4294967296, d.fifo⟩, d.timer, true) := by unfold devDo; (repeat' split) <;> first | rfl | (simp_all; done) | (exfalso; simp_all; omega)); rw [e]; exact ⟨(by first | rfl | (simp [List.map_set, iR]; done) | (rw [List.take_of_length_le (by simp)]; simp; done)), (by first | rfl | (simp [List.map_set, iR]; done) | (rw [List.take_of_length_le (by simp)]; simp; done))⟩) | (refine Ec [2, 5] (.inr rfl) rfl rfl rfl rfl (show (List.range 0 ++ [2, 5]).Nodup by decide) ?_; (have e : devDo d false a v = (⟨d.regs, d.timer, d.fifo.drop 1⟩, y, true) := by unfold devDo; (repeat' split) <;> first | rfl | (simp_all; done) | (exfalso; simp_all; omega)); rw [e]; exact ⟨(by first | rfl | (simp [List.map_set, iR]; done) | (rw [List.take_of_length_le (by simp)]; simp; done)), (by first | rfl | (simp [List.map_set, iR]; done) | (rw [List.take_of_length_le (by simp)]; simp; done))⟩)
 intro h9
 try rw [nnp] at h9
 try have h9' := En h9
 try have h9' := inB12 h9
 try have h9' := inB12n h9
 refine Ei rfl (Ei rfl (Ea (Ej rfl rfl) (Ea (Ee rfl) (Ei rfl (Ei rfl (Ei rfl (Ei rfl (Ea (Ej rfl rfl) (Ea (Ee rfl) (Ef (Ed ?_)))))))))))
 refine Eb [8, 11, 101] rfl (Fe rfl (Fb (Fg (Ed (Eb [8, 11] rfl (Eg (Eh (Ea (Em rfl rfl rfl) (Ep (Eo rfl rfl rfl rfl rfl rfl rfl) (Ea (Ee rfl) (Ea (Ee rfl) ?_)))))))))))
 refine Ef (Ed (Eb [8, 9, 10] rfl (Ek ?_)))
 · first | (exfalso; simp_all; done) | (refine Ec [2, 3] (.inr rfl) rfl rfl rfl rfl (show (List.range 0 ++ [2, 3]).Nodup by decide) ?_; (have e : devDo d false a v = (d, 0, false) := by unfold devDo; (repeat' split) <;> first | rfl | (simp_all; done) | (exfalso; simp_all; omega)); rw [e]; exact ⟨(by first | rfl | (simp [List.map_set, iR]; done) | (rw [List.take_of_length_le (by simp)]; simp; done)), (by first | rfl | (simp [List.map_set, iR]; done) | (rw [List.take_of_length_le (by simp)]; simp; done))⟩) | (refine Ec [2, 3] (.inr rfl) rfl rfl rfl rfl (show (List.range 0 ++ [2, 3]).Nodup by decide) ?_; (have e : devDo d false a v = (d, y, true) := by unfold devDo; (repeat' split) <;> first | rfl | (simp_all; done) | (exfalso; simp_all; omega)); rw [e]; exact ⟨(by first | rfl | (simp [List.map_set, iR]; done) | (rw [List.take_of_length_le (by simp)]; simp; done)), (by first | rfl | (simp [List.map_set, iR]; done) | (rw [List.take_of_length_le (by simp)]; simp; done))⟩) | (refine Ec [2, 3] (.inr rfl) rfl rfl rfl rfl (show (List.range 0 ++ [2, 3]).Nodup by decide) ?_; (have e : devDo d false a v = (⟨d.regs, (d.timer + 1).tmod 4294967296, d.fifo⟩, d.timer, true) := by unfold devDo; (repeat' split) <;> first | rfl | (simp_all; done) | (exfalso; simp_all; omega)); rw [e]; exact ⟨(by first | rfl | (simp [List.map_set, iR]; done) | (rw [List.take_of_length_le (by simp)]; simp; done)), (by first | rfl | (simp [List.map_set, iR]; done) | (rw [List.take_of_length_le (by simp)]; simp; done))⟩) | (refine Ec [2, 5] (.inr rfl) rfl rfl rfl rfl (show (List.range 0 ++ [2, 5]).Nodup by decide) ?_; (have e : devDo d false a v = (⟨d.regs, d.timer, d.fifo.drop 1⟩, y, true) := by unfold devDo; (repeat' split) <;> first | rfl | (simp_all; done) | (exfalso; simp_all; omega)); rw [e]; exact ⟨(by first | rfl | (simp [List.map_set, iR]; done) | (rw [List.take_of_length_le (by simp)]; simp; done)), (by first | rfl | (simp [List.map_set, iR]; done) | (rw [List.take_of_length_le (by simp)]; simp; done))⟩)
 intro h8
 try rw [nnp] at h8
 try have h8' := En h8
 try have h8' := inB12 h8
 try have h8' := inB12n h8
 refine Ei rfl (Ea (Ej rfl rfl) (Ea (Ee rfl) (Ei rfl (Ei rfl (Ei rfl (Ei rfl (Ea (Ej rfl rfl) (Ea (Ee rfl) (Ef (Ed (Eb [1, 2, 3, 8, 11, 81] rfl ?_)))))))))))
 refine Fe rfl (Eg (Eh (Ea (Ee rfl) (Ea (o_eql rfl rfl) (Ea (Ee rfl) ?_)))))
 first | refine s_gDT rfl ?_ ?_ | refine s_gB rfl ?_ ?_
 intro h12
 try rw [nnp] at h12
 try have h12' := En h12
 try have h12' := inB12 h12
 try have h12' := inB12n h12
 refine Ea (Ee rfl) (Ez rfl (Ea (o_not rfl) (Ea (Er rfl rfl) (Ea (Ee rfl) (Ez rfl (Ea (Ew rfl) (Ez rfl (Ea (Fd rfl rfl rfl) (Ez rfl ?_)))))))))
 first | refine Ea (o_lenM rfl) ?_ | refine Ea (o_len rfl) ?_ | refine Ea (o_lenL rfl rfl (by simp)) ?_ | refine Ea (o_lenN rfl) ?_
 refine Ez rfl (Ea (o_gtr rfl rfl) (Ea (Er rfl rfl) (Ea (Ee rfl) (Ef (Ed (Eb [8, 11, 101] rfl ?_))))))
 first | refine Eu rfl ?_ ?_ | refine Et rfl ?_ ?_
 intro h13
 try rw [nnp] at h13
 try have h13' := En h13
 try have h13' := inB12 h13
 try have h13' := inB12n h13
 refine Eg (Eh ?_)
 obtain ⟨y, hy⟩ : ∃ y, d.fifo[Int.toNat 0]? = some y := ⟨_, List.getElem?_eq_getElem (by omega)⟩
 refine Ea (Ew rfl) (Ea (Fd rfl rfl rfl) (Ea (o_iaL rfl rfl (by simp) rfl (by (try simp only [List.length_map]); omega)) ?_))
 refine Ea (o_ldA rfl rfl (by simp) (by rw [List.getElem?_map, hy]; rfl) rfl) ?_
 refine Ea (Ee rfl) (Ef (Ed (Eb [8, 11, 13] rfl (Eg (Eh (Ea (Ew rfl) (Ea (Fd rfl rfl rfl) (s_cut rfl rfl (by simp) rfl rfl (by simp; omega) rfl rfl (Ea (Ew rfl) (Ep (o_stC rfl rfl rfl rfl rfl rfl) (Ef ?_)))))))))))
 refine Ed (Eb [8, 11, 13] rfl (Eg (Eh (Ea (Em rfl rfl rfl) (Ea (Ee rfl) (Ep (Eo rfl rfl rfl rfl rfl rfl rfl) (Ea (Ee rfl) (Ea (Ee rfl) (Ef (Ed (Eb [8, 9, 10] rfl ?_)))))))))))
 refine Ek (Ff (Ev ?_))
 · first | (exfalso; simp_all; done) | (refine Ec [2, 3] (.inr rfl) rfl rfl rfl rfl (show (List.range 0 ++ [2, 3]).Nodup by decide) ?_; (have e : devDo d false a v = (d, 0, false) := by unfold devDo; (repeat' split) <;> first | rfl | (simp_all; done) | (exfalso; simp_all; omega)); rw [e]; exact ⟨(by first | rfl | (simp [List.map_set, iR]; done) | (rw [List.take_of_length_le (by simp)]; simp; done)), (by first | rfl | (simp [List.map_set, iR]; done) | (rw [List.take_of_length_le (by simp)]; simp; done))⟩) | (refine Ec [2, 3] (.inr rfl) rfl rfl rfl rfl (show (List.range 0 ++ [2, 3]).Nodup by decide) ?_; (have e : devDo d false a v = (d, y, true) := by unfold devDo; (repeat' split) <;> first | rfl | (simp_all; done) | (exfalso; simp_all; omega)); rw [e]; exact ⟨(by first | rfl | (simp [List.map_set, iR]; done) | (rw [List.take_of_length_le (by simp)]; simp; done)), (by first | rfl | (simp [List.map_set, iR]; done) | (rw [List.take_of_length_le (by simp)]; simp; done))⟩) | (refine Ec [2, 3] (.inr rfl) rfl rfl rfl rfl (show (List.range 0 ++ [2, 3]).Nodup by decide) ?_; (have e : devDo d false a v = (⟨d.regs, (d.timer + 1).tmod 4294967296, d.fifo⟩, d.timer, true) := by unfold devDo; (repeat' split) <;> first | rfl | (simp_all; done) | (exfalso; simp_all; omega)); rw [e]; exact ⟨(by first | rfl | (simp [List.map_set, iR]; done) | (rw [List.take_of_length_le (by simp)]; simp; done)), (by first | rfl | (simp [List.map_set, iR]; done) | (rw [List.take_of_length_le (by simp)]; simp; done))⟩) | (refine Ec [2, 5] (.inr rfl) rfl rfl rfl rfl (show (List.range 0 ++ [2, 5]).Nodup by decide) ?_; (have e : devDo d false a v = (⟨d.regs, d.timer, d.fifo.drop 1⟩, y, true) := by unfold devDo; (repeat' split) <;> first | rfl | (simp_all; done) | (exfalso; simp_all; omega)); rw [e]; exact ⟨(by first | rfl | (simp [List.map_set, iR]; done) | (rw [List.take_of_length_le (by simp)]; simp; done)), (by first | rfl | (simp [List.map_set, iR]; done) | (rw [List.take_of_length_le (by simp)]; simp; done))⟩)
 intro h13
 try rw [nnp] at h13
 try have h13' := En h13
 try have h13' := inB12 h13
 try have h13' := inB12n h13
 refine Fb (Fg (Ed (Eb [8, 11] rfl (Eg (Eh (Ea (Em rfl rfl rfl) (Ep (Eo rfl rfl rfl rfl rfl rfl rfl) (Ea (Ee rfl) (Ea (Ee rfl) (Ef (Ed ?_)))))))))))
 refine Eb [8, 9, 10] rfl (Ek ?_)
 · first | (exfalso; simp_all; done) | (refine Ec [2, 3] (.inr rfl) rfl rfl rfl rfl (show (List.range 0 ++ [2, 3]).Nodup by decide) ?_; (have e : devDo d false a v = (d, 0, false) := by unfold devDo; (repeat' split) <;> first | rfl | (simp_all; done) | (exfalso; simp_all; omega)); rw [e]; exact ⟨(by first | rfl | (simp [List.map_set, iR]; done) | (rw [List.take_of_length_le (by simp)]; simp; done)), (by first | rfl | (simp [List.map_set, iR]; done) | (rw [List.take_of_length_le (by simp)]; simp; done))⟩) | (refine Ec [2, 3] (.inr rfl) rfl rfl rfl rfl (show (List.range 0 ++ [2, 3]).Nodup by decide) ?_; (have e : devDo d false a v = (d, y, true) := by unfold devDo; (repeat' split) <;> first | rfl | (simp_all; done) | (exfalso; simp_all; omega)); rw [e]; exact ⟨(by first | rfl | (simp [List.map_set, iR]; done) | (rw [List.take_of_length_le (by simp)]; simp; done)), (by first | rfl | (simp [List.map_set, iR]; done) | (rw [List.take_of_length_le (by simp)]; simp; done))⟩) | (refine Ec [2, 3] (.inr rfl) rfl rfl rfl rfl (show (List.range 0 ++ [2, 3]).Nodup by decide) ?_; (have e : devDo d false a v = (⟨d.regs, (d.timer + 1).tmod 4294967296, d.fifo⟩, d.timer, true) := by unfold devDo; (repeat' split) <;> first | rfl | (simp_all; done) | (exfalso; simp_all; omega)); rw [e]; exact ⟨(by first | rfl | (simp [List.map_set, iR]; done) | (rw [List.take_of_length_le (by simp)]; simp; done)), (by first | rfl | (simp [List.map_set, iR]; done) | (rw [List.take_of_length_le (by simp)]; simp; done))⟩) | (refine Ec [2, 5] (.inr rfl) rfl rfl rfl rfl (show (List.range 0 ++ [2, 5]).Nodup by decide) ?_; (have e : devDo d false a v = (⟨d.regs, d.timer, d.fifo.drop 1⟩, y, true) := by unfold devDo; (repeat' split) <;> first | rfl | (simp_all; done) | (exfalso; simp_all; omega)); rw [e]; exact ⟨(by first | rfl | (simp [List.map_set, iR]; done) | (rw [List.take_of_length_le (by simp)]; simp; done)), (by first | rfl | (simp [List.map_set, iR]; done) | (rw [List.take_of_length_le (by simp)]; simp; done))⟩)
 intro h12
 try rw [nnp] at h12
 try have h12' := En h12
 try have h12' := inB12 h12
 try have h12' := inB12n h12
 refine Ei rfl (Ei rfl (Ea (Ej rfl rfl) (Ea (Ee rfl) (Ei rfl (Ei rfl (Ei rfl (Ei rfl (Ea (Ej rfl rfl) (Ea (Ee rfl) (Ef (Ed ?_)))))))))))
 refine Eb [8, 11, 101] rfl (Fe rfl (Fb (Fg (Ed (Eb [8, 11] rfl (Eg (Eh (Ea (Em rfl rfl rfl) (Ep (Eo rfl rfl rfl rfl rfl rfl rfl) (Ea (Ee rfl) (Ea (Ee rfl) ?_)))))))))))
 refine Ef (Ed (Eb [8, 9, 10] rfl (Ek ?_)))
 · first | (exfalso; simp_all; done) | (refine Ec [2, 3] (.inr rfl) rfl rfl rfl rfl (show (List.range 0 ++ [2, 3]).Nodup by decide) ?_; (have e : devDo d false a v = (d, 0, false) := by unfold devDo; (repeat' split) <;> first | rfl | (simp_all; done) | (exfalso; simp_all; omega)); rw [e]; exact ⟨(by first | rfl | (simp [List.map_set, iR]; done) | (rw [List.take_of_length_le (by simp)]; simp; done)), (by first | rfl | (simp [List.map_set, iR]; done) | (rw [List.take_of_length_le (by simp)]; simp; done))⟩) | (refine Ec [2, 3] (.inr rfl) rfl rfl rfl rfl (show (List.range 0 ++ [2, 3]).Nodup by decide) ?_; (have e : devDo d false a v = (d, y, true) := by unfold devDo; (repeat' split) <;> first | rfl | (simp_all; done) | (exfalso; simp_all; omega)); rw [e]; exact ⟨(by first | rfl | (simp [List.map_set, iR]; done) | (rw [List.take_of_length_le (by simp)]; simp; done)), (by first | rfl | (simp [List.map_set, iR]; done) | (rw [List.take_of_length_le (by simp)]; simp; done))⟩) | (refine Ec [2, 3] (.inr rfl) rfl rfl rfl rfl (show (List.range 0 ++ [2, 3]).Nodup by decide) ?_; (have e : devDo d false a v = (⟨d.regs, (d.timer + 1).tmod 4294967296, d.fifo⟩, d.timer, true) := by unfold devDo; (repeat' split) <;> first | rfl | (simp_all; done) | (exfalso; simp_all; omega)); rw [e]; exact ⟨(by first | rfl | (simp [List.map_set, iR]; done) | (rw [List.take_of_length_le (by simp)]; simp; done)), (by first | rfl | (simp [List.map_set, iR]; done) | (rw [List.take_of_length_le (by simp)]; simp; done))⟩) | (refine Ec [2, 5] (.inr rfl) rfl rfl rfl rfl (show (List.range 0 ++ [2, 5]).Nodup by decide) ?_; (have e : devDo d false a v = (⟨d.regs, d.timer, d.fifo.drop 1⟩, y, true) := by unfold devDo; (repeat' split) <;> first | rfl | (simp_all; done) | (exfalso; simp_all; omega)); rw [e]; exact ⟨(by first | rfl | (simp [List.map_set, iR]; done) | (rw [List.take_of_length_le (by simp)]; simp; done)), (by first | rfl | (simp [List.map_set, iR]; done) | (rw [List.take_of_length_le (by simp)]; simp; done))⟩)
 intro h6
 try rw [nnp] at h6
 try have h6' := En h6
 try have h6' := inB12 h6
 try have h6' := inB12n h6
 refine Ei rfl (Ea (Ej rfl rfl) (Ea (Ee rfl) (Ef (Ed (Eb [1, 2, 3, 8, 11, 59] rfl (Fe rfl (Eg (Eh (Ea (Ee rfl) (Ea (o_eql rfl rfl) (Ea (Ee rfl) ?_)))))))))))
 refine Ef (Ed (Eb [1, 2, 3, 8, 11, 69] rfl ?_))
 first | refine Eu rfl ?_ ?_ | refine Et rfl ?_ ?_
 intro h15
 try rw [nnp] at h15
 try have h15' := En h15
 try have h15' := inB12 h15
 try have h15' := inB12n h15
 refine Eg (Eh (Ea (Ew rfl) (Ea (Fd rfl rfl rfl) (Ea (Ee rfl) (Ef (Ed (Eb [8, 11, 12] rfl (Eg (Eh (Ea (Ee rfl) ?_))))))))))
 first | refine Ea (o_addn rfl rfl (by omega)) ?_ | refine Ea (o_add rfl rfl) ?_
 refine Fc rfl rfl c_201w ?_
 first | refine Ea (o_rem rfl rfl (by decide)) ?_ | refine Ea (o_rem rfl rfl (by omega)) ?_
 refine Ea (Ew rfl) (Ep (o_stC rfl rfl rfl rfl rfl rfl) (Ef (Ed (Eb [8, 11, 12] rfl (Eg (Eh (Ea (Em rfl rfl rfl) (Ea (Ee rfl) (Ep (Eo rfl rfl rfl rfl rfl rfl rfl) (Ea (Ee rfl) (Ea (Ee rfl) ?_)))))))))))
 refine Ef (Ed (Eb [8, 9, 10] rfl (Ek (Ff (Ev ?_)))))
 · first | (exfalso; simp_all; done) | (refine Ec [2, 3] (.inr rfl) rfl rfl rfl rfl (show (List.range 0 ++ [2, 3]).Nodup by decide) ?_; (have e : devDo d false a v = (d, 0, false) := by unfold devDo; (repeat' split) <;> first | rfl | (simp_all; done) | (exfalso; simp_all; omega)); rw [e]; exact ⟨(by first | rfl | (simp [List.map_set, iR]; done) | (rw [List.take_of_length_le (by simp)]; simp; done)), (by first | rfl | (simp [List.map_set, iR]; done) | (rw [List.take_of_length_le (by simp)]; simp; done))⟩) | (refine Ec [2, 3] (.inr rfl) rfl rfl rfl rfl (show (List.range 0 ++ [2, 3]).Nodup by decide) ?_; (have e : devDo d false a v = (d, y, true) := by unfold devDo; (repeat' split) <;> first | rfl | (simp_all; done) | (exfalso; simp_all; omega)); rw [e]; exact ⟨(by first | rfl | (simp [List.map_set, iR]; done) | (rw [List.take_of_length_le (by simp)]; simp; done)), (by first | rfl | (simp [List.map_set, iR]; done) | (rw [List.take_of_length_le (by simp)]; simp; done))⟩) | (refine Ec [2, 3] (.inr rfl) rfl rfl rfl rfl (show (List.range 0 ++ [2, 3]).Nodup by decide) ?_; (have e : devDo d false a v = (⟨d.regs, (d.timer + 1).tmod 4294967296, d.fifo⟩, d.timer, true) := by unfold devDo; (repeat' split) <;> first | rfl | (simp_all; done) | (exfalso; simp_all; omega)); rw [e]; exact ⟨(by first | rfl | (simp [List.map_set, iR]; done) | (rw [List.take_of_length_le (by simp)]; simp; done)), (by first | rfl | (simp [List.map_set, iR]; done) | (rw [List.take_of_length_le (by simp)]; simp; done))⟩) | (refine Ec [2, 5] (.inr rfl) rfl rfl rfl rfl (show (List.range 0 ++ [2, 5]).Nodup by decide) ?_; (have e : devDo d false a v = (⟨d.regs, d.timer, d.fifo.drop 1⟩, y, true) := by unfold devDo; (repeat' split) <;> first | rfl | (simp_all; done) | (exfalso; simp_all; omega)); rw [e]; exact ⟨(by first | rfl | (simp [List.map_set, iR]; done) | (rw [List.take_of_length_le (by simp)]; simp; done)), (by first | rfl | (simp [List.map_set, iR]; done) | (rw [List.take_of_length_le (by simp)]; simp; done))⟩)
 intro h15
 try rw [nnp] at h15
 try have h15' := En h15
 try have h15' := inB12 h15
 try have h15' := inB12n h15
 refine Eg (Eh (Ea (Ee rfl) (Ea (o_eql rfl rfl) (Ea (Ee rfl) ?_))))
 first | refine s_gDT rfl ?_ ?_ | refine s_gB rfl ?_ ?_
 intro h16
 try rw [nnp] at h16
 try have h16' := En h16
 try have h16' := inB12 h16
 try have h16' := inB12n h16
 refine Ea (Ee rfl) (Ea (Er rfl rfl) (Ea (Ee rfl) (Ei rfl (Ei rfl (Ei rfl (Ei rfl (Ea (Ej rfl rfl) (Ea (Ee rfl) (Ef (Ed (Eb [1, 2, 3, 8, 11, 81] rfl ?_)))))))))))
 refine Fe rfl (Eg (Eh (Ea (Ee rfl) (Ea (o_eql rfl rfl) (Ea (Ee rfl) ?_)))))
 first | refine s_gDT rfl ?_ ?_ | refine s_gB rfl ?_ ?_
 intro h17
 try rw [nnp] at h17
 try have h17' := En h17
 try have h17' := inB12 h17
 try have h17' := inB12n h17
 refine Ea (Ee rfl) (Ez rfl (Ea (o_not rfl) (Ea (Er rfl rfl) (Ea (Ee rfl) (Ez rfl (Ea (Ew rfl) (Ez rfl (Ea (Fd rfl rfl rfl) (Ez rfl ?_)))))))))
 first | refine Ea (o_lenM rfl) ?_ | refine Ea (o_len rfl) ?_ | refine Ea (o_lenL rfl rfl (by simp)) ?_ | refine Ea (o_lenN rfl) ?_
 refine Ez rfl (Ea (o_gtr rfl rfl) (Ea (Er rfl rfl) (Ea (Ee rfl) (Ef (Ed (Eb [8, 11, 101] rfl ?_))))))
 first | refine Eu rfl ?_ ?_ | refine Et rfl ?_ ?_
 intro h18
 try rw [nnp] at h18
 try have h18' := En h18
 try have h18' := inB12 h18
 try have h18' := inB12n h18
 refine Eg (Eh ?_)
 obtain ⟨y, hy⟩ : ∃ y, d.fifo[Int.toNat 0]? = some y := ⟨_, List.getElem?_eq_getElem (by omega)⟩
 refine Ea (Ew rfl) (Ea (Fd rfl rfl rfl) (Ea (o_iaL rfl rfl (by simp) rfl (by (try simp only [List.length_map]); omega)) ?_))
 refine Ea (o_ldA rfl rfl (by simp) (by rw [List.getElem?_map, hy]; rfl) rfl) ?_
 refine Ea (Ee rfl) (Ef (Ed (Eb [8, 11, 13] rfl (Eg (Eh (Ea (Ew rfl) (Ea (Fd rfl rfl rfl) (s_cut rfl rfl (by simp) rfl rfl (by simp; omega) rfl rfl (Ea (Ew rfl) (Ep (o_stC rfl rfl rfl rfl rfl rfl) (Ef ?_)))))))))))
 refine Ed (Eb [8, 11, 13] rfl (Eg (Eh (Ea (Em rfl rfl rfl) (Ea (Ee rfl) (Ep (Eo rfl rfl rfl rfl rfl rfl rfl) (Ea (Ee rfl) (Ea (Ee rfl) (Ef (Ed (Eb [8, 9, 10] rfl ?_)))))))))))
 refine Ek (Ff (Ev ?_))
 · first | (exfalso; simp_all; done) | (refine Ec [2, 3] (.inr rfl) rfl rfl rfl rfl (show (List.range 0 ++ [2, 3]).Nodup by decide) ?_; (have e : devDo d false a v = (d, 0, false) := by unfold devDo; (repeat' split) <;> first | rfl | (simp_all; done) | (exfalso; simp_all; omega)); rw [e]; exact ⟨(by first | rfl | (simp [List.map_set, iR]; done) | (rw [List.take_of_length_le (by simp)]; simp; done)), (by first | rfl | (simp [List.map_set, iR]; done) | (rw [List.take_of_length_le (by simp)]; simp; done))⟩) | (refine Ec [2, 3] (.inr rfl) rfl rfl rfl rfl (show (List.range 0 ++ [2, 3]).Nodup by decide) ?_; (have e : devDo d false a v = (d, y, true) := by unfold devDo; (repeat' split) <;> first | rfl | (simp_all; done) | (exfalso; simp_all; omega)); rw [e]; exact ⟨(by first | rfl | (simp [List.map_set, iR]; done) | (rw [List.take_of_length_le (by simp)]; simp; done)), (by first | rfl | (simp [List.map_set, iR]; done) | (rw [List.take_of_length_le (by simp)]; simp; done))⟩) | (refine Ec [2, 3] (.inr rfl) rfl rfl rfl rfl (show (List.range 0 ++ [2, 3]).Nodup by decide) ?_; (have e : devDo d false a v = (⟨d.regs, (d.timer + 1).tmod 4294967296, d.fifo⟩, d.timer, true) := by unfold devDo; (repeat' split) <;> first | rfl | (simp_all; done) | (exfalso; simp_all; omega)); rw [e]; exact ⟨(by first | rfl | (simp [List.map_set, iR]; done) | (rw [List.take_of_length_le (by simp)]; simp; done)), (by first | rfl | (simp [List.map_set, iR]; done) | (rw [List.take_of_length_le (by simp)]; simp; done))⟩) | (refine Ec [2, 5] (.inr rfl) rfl rfl rfl rfl (show (List.range 0 ++ [2, 5]).Nodup by decide) ?_; (have e : devDo d false a v = (⟨d.regs, d.timer, d.fifo.drop 1⟩, y, true) := by unfold devDo; (repeat' split) <;> first | rfl | (simp_all; done) | (exfalso; simp_all; omega)); rw [e]; exact ⟨(by first | rfl | (simp [List.map_set, iR]; done) | (rw [List.take_of_length_le (by simp)]; simp; done)), (by first | rfl | (simp [List.map_set, iR]; done) | (rw [List.take_of_length_le (by simp)]; simp; done))⟩)
 intro h18
 try rw [nnp] at h18
 try have h18' := En h18
 try have h18' := inB12 h18
 try have h18' := inB12n h18
 refine Fb (Fg (Ed (Eb [8, 11] rfl (Eg (Eh (Ea (Em rfl rfl rfl) (Ep (Eo rfl rfl rfl rfl rfl rfl rfl) (Ea (Ee rfl) (Ea (Ee rfl) (Ef (Ed ?_)))))))))))
 refine Eb [8, 9, 10] rfl (Ek ?_)
 · first | (exfalso; simp_all; done) | (refine Ec [2, 3] (.inr rfl) rfl rfl rfl rfl (show (List.range 0 ++ [2, 3]).Nodup by decide) ?_; (have e : devDo d false a v = (d, 0, false) := by unfold devDo; (repeat' split) <;> first | rfl | (simp_all; done) | (exfalso; simp_all; omega)); rw [e]; exact ⟨(by first | rfl | (simp [List.map_set, iR]; done) | (rw [List.take_of_length_le (by simp)]; simp; done)), (by first | rfl | (simp [List.map_set, iR]; done) | (rw [List.take_of_length_le (by simp)]; simp; done))⟩) | (refine Ec [2, 3] (.inr rfl) rfl rfl rfl rfl (show (List.range 0 ++ [2, 3]).Nodup by decide) ?_; (have e : devDo d false a v = (d, y, true) := by unfold devDo; (repeat' split) <;> first | rfl | (simp_all; done) | (exfalso; simp_all; omega)); rw [e]; exact ⟨(by first | rfl | (simp [List.map_set, iR]; done) | (rw [List.take_of_length_le (by simp)]; simp; done)), (by first | rfl | (simp [List.map_set, iR]; done) | (rw [List.take_of_length_le (by simp)]; simp; done))⟩) | (refine Ec [2, 3] (.inr rfl) rfl rfl rfl rfl (show (List.range 0 ++ [2, 3]).Nodup by decide) ?_; (have e : devDo d false a v = (⟨d.regs, (d.timer + 1).tmod 4294967296, d.fifo⟩, d.timer, true) := by unfold devDo; (repeat' split) <;> first | rfl | (simp_all; done) | (exfalso; simp_all; omega)); rw [e]; exact ⟨(by first | rfl | (simp [List.map_set, iR]; done) | (rw [List.take_of_length_le (by simp)]; simp; done)), (by first | rfl | (simp [List.map_set, iR]; done) | (rw [List.take_of_length_le (by simp)]; simp; done))⟩) | (refine Ec [2, 5] (.inr rfl) rfl rfl rfl rfl (show (List.range 0 ++ [2, 5]).Nodup by decide) ?_; (have e : devDo d false a v = (⟨d.regs, d.timer, d.fifo.drop 1⟩, y, true) := by unfold devDo; (repeat' split) <;> first | rfl | (simp_all; done) | (exfalso; simp_all; omega)); rw [e]; exact ⟨(by first | rfl | (simp [List.map_set, iR]; done) | (rw [List.take_of_length_le (by simp)]; simp; done)), (by first | rfl | (simp [List.map_set, iR]; done) | (rw [List.take_of_length_le (by simp)]; simp; done))⟩)
 intro h17
 try rw [nnp] at h17
 try have h17' := En h17
 try have h17' := inB12 h17
 try have h17' := inB12n h17
 refine Ei rfl (Ei rfl (Ea (Ej rfl rfl) (Ea (Ee rfl) (Ei rfl (Ei rfl (Ei rfl (Ei rfl (Ea (Ej rfl rfl) (Ea (Ee rfl) (Ef (Ed ?_)))))))))))
 refine Eb [8, 11, 101] rfl (Fe rfl (Fb (Fg (Ed (Eb [8, 11] rfl (Eg (Eh (Ea (Em rfl rfl rfl) (Ep (Eo rfl rfl rfl rfl rfl rfl rfl) (Ea (Ee rfl) (Ea (Ee rfl) ?_)))))))))))
 refine Ef (Ed (Eb [8, 9, 10] rfl (Ek ?_)))
 · first | (exfalso; simp_all; done) | (refine Ec [2, 3] (.inr rfl) rfl rfl rfl rfl (show (List.range 0 ++ [2, 3]).Nodup by decide) ?_; (have e : devDo d false a v = (d, 0, false) := by unfold devDo; (repeat' split) <;> first | rfl | (simp_all; done) | (exfalso; simp_all; omega)); rw [e]; exact ⟨(by first | rfl | (simp [List.map_set, iR]; done) | (rw [List.take_of_length_le (by simp)]; simp; done)), (by first | rfl | (simp [List.map_set, iR]; done) | (rw [List.take_of_length_le (by simp)]; simp; done))⟩) | (refine Ec [2, 3] (.inr rfl) rfl rfl rfl rfl (show (List.range 0 ++ [2, 3]).Nodup by decide) ?_; (have e : devDo d false a v = (d, y, true) := by unfold devDo; (repeat' split) <;> first | rfl | (simp_all; done) | (exfalso; simp_all; omega)); rw [e]; exact ⟨(by first | rfl | (simp [List.map_set, iR]; done) | (rw [List.take_of_length_le (by simp)]; simp; done)), (by first | rfl | (simp [List.map_set, iR]; done) | (rw [List.take_of_length_le (by simp)]; simp; done))⟩) | (refine Ec [2, 3] (.inr rfl) rfl rfl rfl rfl (show (List.range 0 ++ [2, 3]).Nodup by decide) ?_; (have e : devDo d false a v = (⟨d.regs, (d.timer + 1).tmod 4294967296, d.fifo⟩, d.timer, true) := by unfold devDo; (repeat' split) <;> first | rfl | (simp_all; done) | (exfalso; simp_all; omega)); rw [e]; exact ⟨(by first | rfl | (simp [List.map_set, iR]; done) | (rw [List.take_of_length_le (by simp)]; simp; done)), (by first | rfl | (simp [List.map_set, iR]; done) | (rw [List.take_of_length_le (by simp)]; simp; done))⟩) | (refine Ec [2, 5] (.inr rfl) rfl rfl rfl rfl (show (List.range 0 ++ [2, 5]).Nodup by decide) ?_; (have e : devDo d false a v = (⟨d.regs, d.timer, d.fifo.drop 1⟩, y, true) := by unfold devDo; (repeat' split) <;> first | rfl | (simp_all; done) | (exfalso; simp_all; omega)); rw [e]; exact ⟨(by first | rfl | (simp [List.map_set, iR]; done) | (rw [List.take_of_length_le (by simp)]; simp; done)), (by first | rfl | (simp [List.map_set, iR]; done) | (rw [List.take_of_length_le (by simp)]; simp; done))⟩)
 intro h16
 try rw [nnp] at h16
 try have h16' := En h16
 try have h16' := inB12 h16
 try have h16' := inB12n h16
 refine Ei rfl (Ea (Ej rfl rfl) (Ea (Ee rfl) (Ei rfl (Ei rfl (Ei rfl (Ei rfl (Ea (Ej rfl rfl) (Ea (Ee rfl) (Ef (Ed (Eb [1, 2, 3, 8, 11, 81] rfl ?_)))))))))))
 refine Fe rfl (Eg (Eh (Ea (Ee rfl) (Ea (o_eql rfl rfl) (Ea (Ee rfl) ?_)))))
 first | refine s_gDT rfl ?_ ?_ | refine s_gB rfl ?_ ?_
 intro h20
 try rw [nnp] at h20
 try have h20' := En h20
 try have h20' := inB12 h20
 try have h20' := inB12n h20
 refine Ea (Ee rfl) (Ez rfl (Ea (o_not rfl) (Ea (Er rfl rfl) (Ea (Ee rfl) (Ez rfl (Ea (Ew rfl) (Ez rfl (Ea (Fd rfl rfl rfl) (Ez rfl ?_)))))))))
 first | refine Ea (o_lenM rfl) ?_ | refine Ea (o_len rfl) ?_ | refine Ea (o_lenL rfl rfl (by simp)) ?_ | refine Ea (o_lenN rfl) ?_
 refine Ez rfl (Ea (o_gtr rfl rfl) (Ea (Er rfl rfl) (Ea (Ee rfl) (Ef (Ed (Eb [8, 11, 101] rfl ?_))))))
 first | refine Eu rfl ?_ ?_ | refine Et rfl ?_ ?_
 intro h21
 try rw [nnp] at h21
 try have h21' := En h21
 try have h21' := inB12 h21
 try have h21' := inB12n h21
 refine Eg (Eh ?_)
 obtain ⟨y, hy⟩ : ∃ y, d.fifo[Int.toNat 0]? = some y := ⟨_, List.getElem?_eq_getElem (by omega)⟩
 refine Ea (Ew rfl) (Ea (Fd rfl rfl rfl) (Ea (o_iaL rfl rfl (by simp) rfl (by (try simp only [List.length_map]); omega)) ?_))
 refine Ea (o_ldA rfl rfl (by simp) (by rw [List.getElem?_map, hy]; rfl) rfl) ?_
 refine Ea (Ee rfl) (Ef (Ed (Eb [8, 11, 13] rfl (Eg (Eh (Ea (Ew rfl) (Ea (Fd rfl rfl rfl) (s_cut rfl rfl (by simp) rfl rfl (by simp; omega) rfl rfl (Ea (Ew rfl) (Ep (o_stC rfl rfl rfl rfl rfl rfl) (Ef ?_)))))))))))
 refine Ed (Eb [8, 11, 13] rfl (Eg (Eh (Ea (Em rfl rfl rfl) (Ea (Ee rfl) (Ep (Eo rfl rfl rfl rfl rfl rfl rfl) (Ea (Ee rfl) (Ea (Ee rfl) (Ef (Ed (Eb [8, 9, 10] rfl ?_)))))))))))
 refine Ek (Ff (Ev ?_))
 · first | (exfalso; simp_all; done) | (refine Ec [2, 3] (.inr rfl) rfl rfl rfl rfl (show (List.range 0 ++ [2, 3]).Nodup by decide) ?_; (have e : devDo d false a v = (d, 0, false) := by unfold devDo; (repeat' split) <;> first | rfl | (simp_all; done) | (exfalso; simp_all; omega)); rw [e]; exact ⟨(by first | rfl | (simp [List.map_set, iR]; done) | (rw [List.take_of_length_le (by simp)]; simp; done)), (by first | rfl | (simp [List.map_set, iR]; done) | (rw [List.take_of_length_le (by simp)]; simp; done))⟩) | (refine Ec [2, 3] (.inr rfl) rfl rfl rfl rfl (show (List.range 0 ++ [2, 3]).Nodup by decide) ?_; (have e : devDo d false a v = (d, y, true) := by unfold devDo; (repeat' split) <;> first | rfl | (simp_all; done) | (exfalso; simp_all; omega)); rw [e]; exact ⟨(by first | rfl | (simp [List.map_set, iR]; done) | (rw [List.take_of_length_le (by simp)]; simp; done)), (by first | rfl | (simp [List.map_set, iR]; done) | (rw [List.take_of_length_le (by simp)]; simp; done))⟩) | (refine Ec [2, 3] (.inr rfl) rfl rfl rfl rfl (show (List.range 0 ++ [2, 3]).Nodup by decide) ?_; (have e : devDo d false a v = (⟨d.regs, (d.timer + 1).tmod 4294967296, d.fifo⟩, d.timer, true) := by unfold devDo; (repeat' split) <;> first | rfl | (simp_all; done) | (exfalso; simp_all; omega)); rw [e]; exact ⟨(by first | rfl | (simp [List.map_set, iR]; done) | (rw [List.take_of_length_le (by simp)]; simp; done)), (by first | rfl | (simp [List.map_set, iR]; done) | (rw [List.take_of_length_le (by simp)]; simp; done))⟩) | (refine Ec [2, 5] (.inr rfl) rfl rfl rfl rfl (show (List.range 0 ++ [2, 5]).Nodup by decide) ?_; (have e : devDo d false a v = (⟨d.regs, d.timer, d.fifo.drop 1⟩, y, true) := by unfold devDo; (repeat' split) <;> first | rfl | (simp_all; done) | (exfalso; simp_all; omega)); rw [e]; exact ⟨(by first | rfl | (simp [List.map_set, iR]; done) | (rw [List.take_of_length_le (by simp)]; simp; done)), (by first | rfl | (simp [List.map_set, iR]; done) | (rw [List.take_of_length_le (by simp)]; simp; done))⟩)
 intro h21
 try rw [nnp] at h21
 try have h21' := En h21
 try have h21' := inB12 h21
 try have h21' := inB12n h21
 refine Fb (Fg (Ed (Eb [8, 11] rfl (Eg (Eh (Ea (Em rfl rfl rfl) (Ep (Eo rfl rfl rfl rfl rfl rfl rfl) (Ea (Ee rfl) (Ea (Ee rfl) (Ef (Ed ?_)))))))))))
 refine Eb [8, 9, 10] rfl (Ek ?_)
 · first | (exfalso; simp_all; done) | (refine Ec [2, 3] (.inr rfl) rfl rfl rfl rfl (show (List.range 0 ++ [2, 3]).Nodup by decide) ?_; (have e : devDo d false a v = (d, 0, false) := by unfold devDo; (repeat' split) <;> first | rfl | (simp_all; done) | (exfalso; simp_all; omega)); rw [e]; exact ⟨(by first | rfl | (simp [List.map_set, iR]; done) | (rw [List.take_of_length_le (by simp)]; simp; done)), (by first | rfl | (simp [List.map_set, iR]; done) | (rw [List.take_of_length_le (by simp)]; simp; done))⟩) | (refine Ec [2, 3] (.inr rfl) rfl rfl rfl rfl (show (List.range 0 ++ [2, 3]).Nodup by decide) ?_; (have e : devDo d false a v = (d, y, true) := by unfold devDo; (repeat' split) <;> first | rfl | (simp_all; done) | (exfalso; simp_all; omega)); rw [e]; exact ⟨(by first | rfl | (simp [List.map_set, iR]; done) | (rw [List.take_of_length_le (by simp)]; simp; done)), (by first | rfl | (simp [List.map_set, iR]; done) | (rw [List.take_of_length_le (by simp)]; simp; done))⟩) | (refine Ec [2, 3] (.inr rfl) rfl rfl rfl rfl (show (List.range 0 ++ [2, 3]).Nodup by decide) ?_; (have e : devDo d false a v = (⟨d.regs, (d.timer + 1).tmod 4294967296, d.fifo⟩, d.timer, true) := by unfold devDo; (repeat' split) <;> first | rfl | (simp_all; done) | (exfalso; simp_all; omega)); rw [e]; exact ⟨(by first | rfl | (simp [List.map_set, iR]; done) | (rw [List.take_of_length_le (by simp)]; simp; done)), (by first | rfl | (simp [List.map_set, iR]; done) | (rw [List.take_of_length_le (by simp)]; simp; done))⟩) | (refine Ec [2, 5] (.inr rfl) rfl rfl rfl rfl (show (List.range 0 ++ [2, 5]).Nodup by decide) ?_; (have e : devDo d false a v = (⟨d.regs, d.timer, d.fifo.drop 1⟩, y, true) := by unfold devDo; (repeat' split) <;> first | rfl | (simp_all; done) | (exfalso; simp_all; omega)); rw [e]; exact ⟨(by first | rfl | (simp [List.map_set, iR]; done) | (rw [List.take_of_length_le (by simp)]; simp; done)), (by first | rfl | (simp [List.map_set, iR]; done) | (rw [List.take_of_length_le (by simp)]; simp; done))⟩)
 intro h20
 try rw [nnp] at h20
 try have h20' := En h20
 try have h20' := inB12 h20
 try have h20' := inB12n h20
 refine Ei rfl (Ei rfl (Ea (Ej rfl rfl) (Ea (Ee rfl) (Ei rfl (Ei rfl (Ei rfl (Ei rfl (Ea (Ej rfl rfl) (Ea (Ee rfl) (Ef (Ed ?_)))))))))))
 refine Eb [8, 11, 101] rfl (Fe rfl (Fb (Fg (Ed (Eb [8, 11] rfl (Eg (Eh (Ea (Em rfl rfl rfl) (Ep (Eo rfl rfl rfl rfl rfl rfl rfl) (Ea (Ee rfl) (Ea (Ee rfl) ?_)))))))))))
 refine Ef (Ed (Eb [8, 9, 10] rfl (Ek ?_)))
 · first | (exfalso; simp_all; done) | (refine Ec [2, 3] (.inr rfl) rfl rfl rfl rfl (show (List.range 0 ++ [2, 3]).Nodup by decide) ?_; (have e : devDo d false a v = (d, 0, false) := by unfold devDo; (repeat' split) <;> first | rfl | (simp_all; done) | (exfalso; simp_all; omega)); rw [e]; exact ⟨(by first | rfl | (simp [List.map_set, iR]; done) | (rw [List.take_of_length_le (by simp)]; simp; done)), (by first | rfl | (simp [List.map_set, iR]; done) | (rw [List.take_of_length_le (by simp)]; simp; done))⟩) | (refine Ec [2, 3] (.inr rfl) rfl rfl rfl rfl (show (List.range 0 ++ [2, 3]).Nodup by decide) ?_; (have e : devDo d false a v = (d, y, true) := by unfold devDo; (repeat' split) <;> first | rfl | (simp_all; done) | (exfalso; simp_all; omega)); rw [e]; exact ⟨(by first | rfl | (simp [List.map_set, iR]; done) | (rw [List.take_of_length_le (by simp)]; simp; done)), (by first | rfl | (simp [List.map_set, iR]; done) | (rw [List.take_of_length_le (by simp)]; simp; done))⟩) | (refine Ec [2, 3] (.inr rfl) rfl rfl rfl rfl (show (List.range 0 ++ [2, 3]).Nodup by decide) ?_; (have e : devDo d false a v = (⟨d.regs, (d.timer + 1).tmod 4294967296, d.fifo⟩, d.timer, true) := by unfold devDo; (repeat' split) <;> first | rfl | (simp_all; done) | (exfalso; simp_all; omega)); rw [e]; exact ⟨(by first | rfl | (simp [List.map_set, iR]; done) | (rw [List.take_of_length_le (by simp)]; simp; done)), (by first | rfl | (simp [List.map_set, iR]; done) | (rw [List.take_of_length_le (by simp)]; simp; done))⟩) | (refine Ec [2, 5] (.inr rfl) rfl rfl rfl rfl (show (List.range 0 ++ [2, 5]).Nodup by decide) ?_; (have e : devDo d false a v = (⟨d.regs, d.timer, d.fifo.drop 1⟩, y, true) := by unfold devDo; (repeat' split) <;> first | rfl | (simp_all; done) | (exfalso; simp_all; omega)); rw [e]; exact ⟨(by first | rfl | (simp [List.map_set, iR]; done) | (rw [List.take_of_length_le (by simp)]; simp; done)), (by first | rfl | (simp [List.map_set, iR]; done) | (rw [List.take_of_length_le (by simp)]; simp; done))⟩)
 intro h3
 try rw [nnp] at h3
 try have h3' := En h3
 try have h3' := inB12 h3
 try have h3' := inB12n h3
 refine Ei rfl (Ea (Ej rfl rfl) (Ea (Ee rfl) (Ef (Ed (Eb [1, 2, 3, 8, 11, 35] rfl (Fe rfl (Eg (Eh (Ea (Ee rfl) (Fc rfl rfl (c_230 _ _ _) (Ea (Ee rfl) ?_)))))))))))
 refine Ef (Ed (Eb [1, 2, 3, 8, 11, 49] rfl ?_))
 first | refine Eu rfl ?_ ?_ | refine s_condN rfl ?_ ?_ | refine s_condNB rfl ?_ ?_ | refine Et rfl ?_ ?_
 intro h23
 try rw [nnp] at h23
 try have h23' := En h23
 try have h23' := inB12 h23
 try have h23' := inB12n h23
 refine Eg (s_rgH [1] rfl (h_op (Em rfl rfl rfl) rfl (h_op (Ew rfl) rfl (h_op (Fd rfl rfl rfl) rfl (h_op (Ee rfl) rfl ?_)))))
 first | refine h_op (o_quo rfl rfl (by decide)) rfl ?_ | refine h_op (o_quo rfl rfl (by omega)) rfl ?_
 rw [(tdiv4 (by omega)).1]
 have hq := tdiv4 (a := a) (by omega)
 obtain ⟨y, hy⟩ : ∃ y, d.regs[(a.tdiv 4).toNat]? = some y := ⟨_, List.getElem?_eq_getElem (by omega)⟩
 refine h_op (o_iaL rfl rfl (by simp) rfl (by (try simp only [List.length_map]); omega)) rfl ?_
 refine h_op (o_ldA rfl rfl (by simp) (by rw [List.getElem?_map, hy]; rfl) rfl) rfl ?_
 refine h_stn rfl rfl rfl rfl rfl (h_bar rfl (Ea (Ee rfl) (Ea (Ee rfl) (Ef (Ed (Eb [8, 9, 10] rfl (Ek (Ff (Ev ?_)))))))))
 · first | (exfalso; simp_all; done) | (refine Ec [2, 3] (.inr rfl) rfl rfl rfl rfl (show (List.range 0 ++ [2, 3]).Nodup by decide) ?_; (have e : devDo d false a v = (d, 0, false) := by unfold devDo; (repeat' split) <;> first | rfl | (simp_all; done) | (exfalso; simp_all; omega)); rw [e]; exact ⟨(by first | rfl | (simp [List.map_set, iR]; done) | (rw [List.take_of_length_le (by simp)]; simp; done)), (by first | rfl | (simp [List.map_set, iR]; done) | (rw [List.take_of_length_le (by simp)]; simp; done))⟩) | (refine Ec [2, 3] (.inr rfl) rfl rfl rfl rfl (show (List.range 0 ++ [2, 3]).Nodup by decide) ?_; (have e : devDo d false a v = (d, y, true) := by unfold devDo; (repeat' split) <;> first | rfl | (simp_all; done) | (exfalso; simp_all; omega)); rw [e]; exact ⟨(by first | rfl | (simp [List.map_set, iR]; done) | (rw [List.take_of_length_le (by simp)]; simp; done)), (by first | rfl | (simp [List.map_set, iR]; done) | (rw [List.take_of_length_le (by simp)]; simp; done))⟩) | (refine Ec [2, 3] (.inr rfl) rfl rfl rfl rfl (show (List.range 0 ++ [2, 3]).Nodup by decide) ?_; (have e : devDo d false a v = (⟨d.regs, (d.timer + 1).tmod 4294967296, d.fifo⟩, d.timer, true) := by unfold devDo; (repeat' split) <;> first | rfl | (simp_all; done) | (exfalso; simp_all; omega)); rw [e]; exact ⟨(by first | rfl | (simp [List.map_set, iR]; done) | (rw [List.take_of_length_le (by simp)]; simp; done)), (by first | rfl | (simp [List.map_set, iR]; done) | (rw [List.take_of_length_le (by simp)]; simp; done))⟩) | (refine Ec [2, 5] (.inr rfl) rfl rfl rfl rfl (show (List.range 0 ++ [2, 5]).Nodup by decide) ?_; (have e : devDo d false a v = (⟨d.regs, d.timer, d.fifo.drop 1⟩, y, true) := by unfold devDo; (repeat' split) <;> first | rfl | (simp_all; done) | (exfalso; simp_all; omega)); rw [e]; exact ⟨(by first | rfl | (simp [List.map_set, iR]; done) | (rw [List.take_of_length_le (by simp)]; simp; done)), (by first | rfl | (simp [List.map_set, iR]; done) | (rw [List.take_of_length_le (by simp)]; simp; done))⟩)
 intro h23
 try rw [nnp] at h23
 try have h23' := En h23
 try have h23' := inB12 h23
 try have h23' := inB12n h23
 refine Eg (Eh (Ea (Ee rfl) (Ea (o_eql rfl rfl) (Ea (Ee rfl) ?_))))
 first | refine s_gDT rfl ?_ ?_ | refine s_gB rfl ?_ ?_
 intro h25
 try rw [nnp] at h25
 try have h25' := En h25
 try have h25' := inB12 h25
 try have h25' := inB12n h25
 refine Ea (Ee rfl) (Ea (Er rfl rfl) (Ea (Ee rfl) (Ef (Ed (Eb [1, 2, 3, 8, 11, 59] rfl (Fe rfl (Eg (Eh (Ea (Ee rfl) (Ea (o_eql rfl rfl) (Ea (Ee rfl) ?_)))))))))))
 refine Ef (Ed (Eb [1, 2, 3, 8, 11, 69] rfl ?_))
 first | refine Eu rfl ?_ ?_ | refine Et rfl ?_ ?_
 intro h26
 try rw [nnp] at h26
 try have h26' := En h26
 try have h26' := inB12 h26
 try have h26' := inB12n h26
 refine Eg (Eh (Ea (Ew rfl) (Ea (Fd rfl rfl rfl) (Ea (Ee rfl) (Ef (Ed (Eb [8, 11, 12] rfl (Eg (Eh (Ea (Ee rfl) ?_))))))))))
 first | refine Ea (o_addn rfl rfl (by omega)) ?_ | refine Ea (o_add rfl rfl) ?_
 refine Fc rfl rfl c_201w ?_
 first | refine Ea (o_rem rfl rfl (by decide)) ?_ | refine Ea (o_rem rfl rfl (by omega)) ?_
 refine Ea (Ew rfl) (Ep (o_stC rfl rfl rfl rfl rfl rfl) (Ef (Ed (Eb [8, 11, 12] rfl (Eg (Eh (Ea (Em rfl rfl rfl) (Ea (Ee rfl) (Ep (Eo rfl rfl rfl rfl rfl rfl rfl) (Ea (Ee rfl) (Ea (Ee rfl) ?_)))))))))))
 refine Ef (Ed (Eb [8, 9, 10] rfl (Ek (Ff (Ev ?_)))))
 · first | (exfalso; simp_all; done) | (refine Ec [2, 3] (.inr rfl) rfl rfl rfl rfl (show (List.range 0 ++ [2, 3]).Nodup by decide) ?_; (have e : devDo d false a v = (d, 0, false) := by unfold devDo; (repeat' split) <;> first | rfl | (simp_all; done) | (exfalso; simp_all; omega)); rw [e]; exact ⟨(by first | rfl | (simp [List.map_set, iR]; done) | (rw [List.take_of_length_le (by simp)]; simp; done)), (by first | rfl | (simp [List.map_set, iR]; done) | (rw [List.take_of_length_le (by simp)]; simp; done))⟩) | (refine Ec [2, 3] (.inr rfl) rfl rfl rfl rfl (show (List.range 0 ++ [2, 3]).Nodup by decide) ?_; (have e : devDo d false a v = (d, y, true) := by unfold devDo; (repeat' split) <;> first | rfl | (simp_all; done) | (exfalso; simp_all; omega)); rw [e]; exact ⟨(by first | rfl | (simp [List.map_set, iR]; done) | (rw [List.take_of_length_le (by simp)]; simp; done)), (by first | rfl | (simp [List.map_set, iR]; done) | (rw [List.take_of_length_le (by simp)]; simp; done))⟩) | (refine Ec [2, 3] (.inr rfl) rfl rfl rfl rfl (show (List.range 0 ++ [2, 3]).Nodup by decide) ?_; (have e : devDo d false a v = (⟨d.regs, (d.timer + 1).tmod 4294967296, d.fifo⟩, d.timer, true) := by unfold devDo; (repeat' split) <;> first | rfl | (simp_all; done) | (exfalso; simp_all; omega)); rw [e]; exact ⟨(by first | rfl | (simp [List.map_set, iR]; done) | (rw [List.take_of_length_le (by simp)]; simp; done)), (by first | rfl | (simp [List.map_set, iR]; done) | (rw [List.take_of_length_le (by simp)]; simp; done))⟩) | (refine Ec [2, 5] (.inr rfl) rfl rfl rfl rfl (show (List.range 0 ++ [2, 5]).Nodup by decide) ?_; (have e : devDo d false a v = (⟨d.regs, d.timer, d.fifo.drop 1⟩, y, true) := by unfold devDo; (repeat' split) <;> first | rfl | (simp_all; done) | (exfalso; simp_all; omega)); rw [e]; exact ⟨(by first | rfl | (simp [List.map_set, iR]; done) | (rw [List.take_of_length_le (by simp)]; simp; done)), (by first | rfl | (simp [List.map_set, iR]; done) | (rw [List.take_of_length_le (by simp)]; simp; done))⟩)
 intro h26
 try rw [nnp] at h26
 try have h26' := En h26
 try have h26' := inB12 h26
 try have h26' := inB12n h26
 refine Eg (Eh (Ea (Ee rfl) (Ea (o_eql rfl rfl) (Ea (Ee rfl) ?_))))
 first | refine s_gDT rfl ?_ ?_ | refine s_gB rfl ?_ ?_
 intro h27
 try rw [nnp] at h27
 try have h27' := En h27
 try have h27' := inB12 h27
 try have h27' := inB12n h27
 refine Ea (Ee rfl) (Ea (Er rfl rfl) (Ea (Ee rfl) (Ei rfl (Ei rfl (Ei rfl (Ei rfl (Ea (Ej rfl rfl) (Ea (Ee rfl) (Ef (Ed (Eb [1, 2, 3, 8, 11, 81] rfl ?_)))))))))))
 refine Fe rfl (Eg (Eh (Ea (Ee rfl) (Ea (o_eql rfl rfl) (Ea (Ee rfl) ?_)))))
 first | refine s_gDT rfl ?_ ?_ | refine s_gB rfl ?_ ?_
 intro h28
 try rw [nnp] at h28
 try have h28' := En h28
 try have h28' := inB12 h28
 try have h28' := inB12n h28
 refine Ea (Ee rfl) (Ez rfl (Ea (o_not rfl) (Ea (Er rfl rfl) (Ea (Ee rfl) (Ez rfl (Ea (Ew rfl) (Ez rfl (Ea (Fd rfl rfl rfl) (Ez rfl ?_)))))))))
 first | refine Ea (o_lenM rfl) ?_ | refine Ea (o_len rfl) ?_ | refine Ea (o_lenL rfl rfl (by simp)) ?_ | refine Ea (o_lenN rfl) ?_
 refine Ez rfl (Ea (o_gtr rfl rfl) (Ea (Er rfl rfl) (Ea (Ee rfl) (Ef (Ed (Eb [8, 11, 101] rfl ?_))))))
 first | refine Eu rfl ?_ ?_ | refine Et rfl ?_ ?_
 intro h29
 try rw [nnp] at h29
 try have h29' := En h29
 try have h29' := inB12 h29
 try have h29' := inB12n h29
 refine Eg (Eh ?_)
 obtain ⟨y, hy⟩ : ∃ y, d.fifo[Int.toNat 0]? = some y := ⟨_, List.getElem?_eq_getElem (by omega)⟩
 refine Ea (Ew rfl) (Ea (Fd rfl rfl rfl) (Ea (o_iaL rfl rfl (by simp) rfl (by (try simp only [List.length_map]); omega)) ?_))
 refine Ea (o_ldA rfl rfl (by simp) (by rw [List.getElem?_map, hy]; rfl) rfl) ?_
 refine Ea (Ee rfl) (Ef (Ed (Eb [8, 11, 13] rfl (Eg (Eh (Ea (Ew rfl) (Ea (Fd rfl rfl rfl) (s_cut rfl rfl (by simp) rfl rfl (by simp; omega) rfl rfl (Ea (Ew rfl) (Ep (o_stC rfl rfl rfl rfl rfl rfl) (Ef ?_)))))))))))
 refine Ed (Eb [8, 11, 13] rfl (Eg (Eh (Ea (Em rfl rfl rfl) (Ea (Ee rfl) (Ep (Eo rfl rfl rfl rfl rfl rfl rfl) (Ea (Ee rfl) (Ea (Ee rfl) (Ef (Ed (Eb [8, 9, 10] rfl ?_)))))))))))
 refine Ek (Ff (Ev ?_))
 · first | (exfalso; simp_all; done) | (refine Ec [2, 3] (.inr rfl) rfl rfl rfl rfl (show (List.range 0 ++ [2, 3]).Nodup by decide) ?_; (have e : devDo d false a v = (d, 0, false) := by unfold devDo; (repeat' split) <;> first | rfl | (simp_all; done) | (exfalso; simp_all; omega)); rw [e]; exact ⟨(by first | rfl | (simp [List.map_set, iR]; done) | (rw [List.take_of_length_le (by simp)]; simp; done)), (by first | rfl | (simp [List.map_set, iR]; done) | (rw [List.take_of_length_le (by simp)]; simp; done))⟩) | (refine Ec [2, 3] (.inr rfl) rfl rfl rfl rfl (show (List.range 0 ++ [2, 3]).Nodup by decide) ?_; (have e : devDo d false a v = (d, y, true) := by unfold devDo; (repeat' split) <;> first | rfl | (simp_all; done) | (exfalso; simp_all; omega)); rw [e]; exact ⟨(by first | rfl | (simp [List.map_set, iR]; done) | (rw [List.take_of_length_le (by simp)]; simp; done)), (by first | rfl | (simp [List.map_set, iR]; done) | (rw [List.take_of_length_le (by simp)]; simp; done))⟩) | (refine Ec [2, 3] (.inr rfl) rfl rfl rfl rfl (show (List.range 0 ++ [2, 3]).Nodup by decide) ?_; (have e : devDo d false a v = (⟨d.regs, (d.timer + 1).tmod 4294967296, d.fifo⟩, d.timer, true) := by unfold devDo; (repeat' split) <;> first | rfl | (simp_all; done) | (exfalso; simp_all; omega)); rw [e]; exact ⟨(by first | rfl | (simp [List.map_set, iR]; done) | (rw [List.take_of_length_le (by simp)]; simp; done)), (by first | rfl | (simp [List.map_set, iR]; done) | (rw [List.take_of_length_le (by simp)]; simp; done))⟩) | (refine Ec [2, 5] (.inr rfl) rfl rfl rfl rfl (show (List.range 0 ++ [2, 5]).Nodup by decide) ?_; (have e : devDo d false a v = (⟨d.regs, d.timer, d.fifo.drop 1⟩, y, true) := by unfold devDo; (repeat' split) <;> first | rfl | (simp_all; done) | (exfalso; simp_all; omega)); rw [e]; exact ⟨(by first | rfl | (simp [List.map_set, iR]; done) | (rw [List.take_of_length_le (by simp)]; simp; done)), (by first | rfl | (simp [List.map_set, iR]; done) | (rw [List.take_of_length_le (by simp)]; simp; done))⟩)
 intro h29
 try rw [nnp] at h29
 try have h29' := En h29
 try have h29' := inB12 h29
 try have h29' := inB12n h29
 refine Fb (Fg (Ed (Eb [8, 11] rfl (Eg (Eh (Ea (Em rfl rfl rfl) (Ep (Eo rfl rfl rfl rfl rfl rfl rfl) (Ea (Ee rfl) (Ea (Ee rfl) (Ef (Ed ?_)))))))))))
 refine Eb [8, 9, 10] rfl (Ek ?_)
 · first | (exfalso; simp_all; done) | (refine Ec [2, 3] (.inr rfl) rfl rfl rfl rfl (show (List.range 0 ++ [2, 3]).Nodup by decide) ?_; (have e : devDo d false a v = (d, 0, false) := by unfold devDo; (repeat' split) <;> first | rfl | (simp_all; done) | (exfalso; simp_all; omega)); rw [e]; exact ⟨(by first | rfl | (simp [List.map_set, iR]; done) | (rw [List.take_of_length_le (by simp)]; simp; done)), (by first | rfl | (simp [List.map_set, iR]; done) | (rw [List.take_of_length_le (by simp)]; simp; done))⟩) | (refine Ec [2, 3] (.inr rfl) rfl rfl rfl rfl (show (List.range 0 ++ [2, 3]).Nodup by decide) ?_; (have e : devDo d false a v = (d, y, true) := by unfold devDo; (repeat' split) <;> first | rfl | (simp_all; done) | (exfalso; simp_all; omega)); rw [e]; exact ⟨(by first | rfl | (simp [List.map_set, iR]; done) | (rw [List.take_of_length_le (by simp)]; simp; done)), (by first | rfl | (simp [List.map_set, iR]; done) | (rw [List.take_of_length_le (by simp)]; simp; done))⟩) | (refine Ec [2, 3] (.inr rfl) rfl rfl rfl rfl (show (List.range 0 ++ [2, 3]).Nodup by decide) ?_; (have e : devDo d false a v = (⟨d.regs, (d.timer + 1).tmod 4294967296, d.fifo⟩, d.timer, true) := by unfold devDo; (repeat' split) <;> first | rfl | (simp_all; done) | (exfalso; simp_all; omega)); rw [e]; exact ⟨(by first | rfl | (simp [List.map_set, iR]; done) | (rw [List.take_of_length_le (by simp)]; simp; done)), (by first | rfl | (simp [List.map_set, iR]; done) | (rw [List.take_of_length_le (by simp)]; simp; done))⟩) | (refine Ec [2, 5] (.inr rfl) rfl rfl rfl rfl (show (List.range 0 ++ [2, 5]).Nodup by decide) ?_; (have e : devDo d false a v = (⟨d.regs, d.timer, d.fifo.drop 1⟩, y, true) := by unfold devDo; (repeat' split) <;> first | rfl | (simp_all; done) | (exfalso; simp_all; omega)); rw [e]; exact ⟨(by first | rfl | (simp [List.map_set, iR]; done) | (rw [List.take_of_length_le (by simp)]; simp; done)), (by first | rfl | (simp [List.map_set, iR]; done) | (rw [List.take_of_length_le (by simp)]; simp; done))⟩)
 intro h28
 try rw [nnp] at h28
 try have h28' := En h28
 try have h28' := inB12 h28
 try have h28' := inB12n h28
 refine Ei rfl (Ei rfl (Ea (Ej rfl rfl) (Ea (Ee rfl) (Ei rfl (Ei rfl (Ei rfl (Ei rfl (Ea (Ej rfl rfl) (Ea (Ee rfl) (Ef (Ed ?_)))))))))))
 refine Eb [8, 11, 101] rfl (Fe rfl (Fb (Fg (Ed (Eb [8, 11] rfl (Eg (Eh (Ea (Em rfl rfl rfl) (Ep (Eo rfl rfl rfl rfl rfl rfl rfl) (Ea (Ee rfl) (Ea (Ee rfl) ?_)))))))))))
 refine Ef (Ed (Eb [8, 9, 10] rfl (Ek ?_)))
 · first | (exfalso; simp_all; done) | (refine Ec [2, 3] (.inr rfl) rfl rfl rfl rfl (show (List.range 0 ++ [2, 3]).Nodup by decide) ?_; (have e : devDo d false a v = (d, 0, false) := by unfold devDo; (repeat' split) <;> first | rfl | (simp_all; done) | (exfalso; simp_all; omega)); rw [e]; exact ⟨(by first | rfl | (simp [List.map_set, iR]; done) | (rw [List.take_of_length_le (by simp)]; simp; done)), (by first | rfl | (simp [List.map_set, iR]; done) | (rw [List.take_of_length_le (by simp)]; simp; done))⟩) | (refine Ec [2, 3] (.inr rfl) rfl rfl rfl rfl (show (List.range 0 ++ [2, 3]).Nodup by decide) ?_; (have e : devDo d false a v = (d, y, true) := by unfold devDo; (repeat' split) <;> first | rfl | (simp_all; done) | (exfalso; simp_all; omega)); rw [e]; exact ⟨(by first | rfl | (simp [List.map_set, iR]; done) | (rw [List.take_of_length_le (by simp)]; simp; done)), (by first | rfl | (simp [List.map_set, iR]; done) | (rw [List.take_of_length_le (by simp)]; simp; done))⟩) | (refine Ec [2, 3] (.inr rfl) rfl rfl rfl rfl (show (List.range 0 ++ [2, 3]).Nodup by decide) ?_; (have e : devDo d false a v = (⟨d.regs, (d.timer + 1).tmod 4294967296, d.fifo⟩, d.timer, true) := by unfold devDo; (repeat' split) <;> first | rfl | (simp_all; done) | (exfalso; simp_all; omega)); rw [e]; exact ⟨(by first | rfl | (simp [List.map_set, iR]; done) | (rw [List.take_of_length_le (by simp)]; simp; done)), (by first | rfl | (simp [List.map_set, iR]; done) | (rw [List.take_of_length_le (by simp)]; simp; done))⟩) | (refine Ec [2, 5] (.inr rfl) rfl rfl rfl rfl (show (List.range 0 ++ [2, 5]).Nodup by decide) ?_; (have e : devDo d false a v = (⟨d.regs, d.timer, d.fifo.drop 1⟩, y, true) := by unfold devDo; (repeat' split) <;> first | rfl | (simp_all; done) | (exfalso; simp_all; omega)); rw [e]; exact ⟨(by first | rfl | (simp [List.map_set, iR]; done) | (rw [List.take_of_length_le (by simp)]; simp; done)), (by first | rfl | (simp [List.map_set, iR]; done) | (rw [List.take_of_length_le (by simp)]; simp; done))⟩)
 intro h27
 try rw [nnp] at h27
 try have h27' := En h27
 try have h27' := inB12 h27
 try have h27' := inB12n h27
 refine Ei rfl (Ea (Ej rfl rfl) (Ea (Ee rfl) (Ei rfl (Ei rfl (Ei rfl (Ei rfl (Ea (Ej rfl rfl) (Ea (Ee rfl) (Ef (Ed (Eb [1, 2, 3, 8, 11, 81] rfl ?_)))))))))))
 refine Fe rfl (Eg (Eh (Ea (Ee rfl) (Ea (o_eql rfl rfl) (Ea (Ee rfl) ?_)))))
 first | refine s_gDT rfl ?_ ?_ | refine s_gB rfl ?_ ?_
 intro h31
 try rw [nnp] at h31
 try have h31' := En h31
 try have h31' := inB12 h31
 try have h31' := inB12n h31
 refine Ea (Ee rfl) (Ez rfl (Ea (o_not rfl) (Ea (Er rfl rfl) (Ea (Ee rfl) (Ez rfl (Ea (Ew rfl) (Ez rfl (Ea (Fd rfl rfl rfl) (Ez rfl ?_)))))))))
 first | refine Ea (o_lenM rfl) ?_ | refine Ea (o_len rfl) ?_ | refine Ea (o_lenL rfl rfl (by simp)) ?_ | refine Ea (o_lenN rfl) ?_
 refine Ez rfl (Ea (o_gtr rfl rfl) (Ea (Er rfl rfl) (Ea (Ee rfl) (Ef (Ed (Eb [8, 11, 101] rfl ?_))))))
 first | refine Eu rfl ?_ ?_ | refine Et rfl ?_ ?_
 intro h32
 try rw [nnp] at h32
 try have h32' := En h32
 try have h32' := inB12 h32
 try have h32' := inB12n h32
 refine Eg (Eh ?_)
 obtain ⟨y, hy⟩ : ∃ y, d.fifo[Int.toNat 0]? = some y := ⟨_, List.getElem?_eq_getElem (by omega)⟩
 refine Ea (Ew rfl) (Ea (Fd rfl rfl rfl) (Ea (o_iaL rfl rfl (by simp) rfl (by (try simp only [List.length_map]); omega)) ?_))
 refine Ea (o_ldA rfl rfl (by simp) (by rw [List.getElem?_map, hy]; rfl) rfl) ?_
 refine Ea (Ee rfl) (Ef (Ed (Eb [8, 11, 13] rfl (Eg (Eh (Ea (Ew rfl) (Ea (Fd rfl rfl rfl) (s_cut rfl rfl (by simp) rfl rfl (by simp; omega) rfl rfl (Ea (Ew rfl) (Ep (o_stC rfl rfl rfl rfl rfl rfl) (Ef ?_)))))))))))
 refine Ed (Eb [8, 11, 13] rfl (Eg (Eh (Ea (Em rfl rfl rfl) (Ea (Ee rfl) (Ep (Eo rfl rfl rfl rfl rfl rfl rfl) (Ea (Ee rfl) (Ea (Ee rfl) (Ef (Ed (Eb [8, 9, 10] rfl ?_)))))))))))
 refine Ek (Ff (Ev ?_))
 · first | (exfalso; simp_all; done) | (refine Ec [2, 3] (.inr rfl) rfl rfl rfl rfl (show (List.range 0 ++ [2, 3]).Nodup by decide) ?_; (have e : devDo d false a v = (d, 0, false) := by unfold devDo; (repeat' split) <;> first | rfl | (simp_all; done) | (exfalso; simp_all; omega)); rw [e]; exact ⟨(by first | rfl | (simp [List.map_set, iR]; done) | (rw [List.take_of_length_le (by simp)]; simp; done)), (by first | rfl | (simp [List.map_set, iR]; done) | (rw [List.take_of_length_le (by simp)]; simp; done))⟩) | (refine Ec [2, 3] (.inr rfl) rfl rfl rfl rfl (show (List.range 0 ++ [2, 3]).Nodup by decide) ?_; (have e : devDo d false a v = (d, y, true) := by unfold devDo; (repeat' split) <;> first | rfl | (simp_all; done) | (exfalso; simp_all; omega)); rw [e]; exact ⟨(by first | rfl | (simp [List.map_set, iR]; done) | (rw [List.take_of_length_le (by simp)]; simp; done)), (by first | rfl | (simp [List.map_set, iR]; done) | (rw [List.take_of_length_le (by simp)]; simp; done))⟩) | (refine Ec [2, 3] (.inr rfl) rfl rfl rfl rfl (show (List.range 0 ++ [2, 3]).Nodup by decide) ?_; (have e : devDo d false a v = (⟨d.regs, (d.timer + 1).tmod 4294967296, d.fifo⟩, d.timer, true) := by unfold devDo; (repeat' split) <;> first | rfl | (simp_all; done) | (exfalso; simp_all; omega)); rw [e]; exact ⟨(by first | rfl | (simp [List.map_set, iR]; done) | (rw [List.take_of_length_le (by simp)]; simp; done)), (by first | rfl | (simp [List.map_set, iR]; done) | (rw [List.take_of_length_le (by simp)]; simp; done))⟩) | (refine Ec [2, 5] (.inr rfl) rfl rfl rfl rfl (show (List.range 0 ++ [2, 5]).Nodup by decide) ?_; (have e : devDo d false a v = (⟨d.regs, d.timer, d.fifo.drop 1⟩, y, true) := by unfold devDo; (repeat' split) <;> first | rfl | (simp_all; done) | (exfalso; simp_all; omega)); rw [e]; exact ⟨(by first | rfl | (simp [List.map_set, iR]; done) | (rw [List.take_of_length_le (by simp)]; simp; done)), (by first | rfl | (simp [List.map_set, iR]; done) | (rw [List.take_of_length_le (by simp)]; simp; done))⟩)
 intro h32
 try rw [nnp] at h32
 try have h32' := En h32
 try have h32' := inB12 h32
 try have h32' := inB12n h32
 refine Fb (Fg (Ed (Eb [8, 11] rfl (Eg (Eh (Ea (Em rfl rfl rfl) (Ep (Eo rfl rfl rfl rfl rfl rfl rfl) (Ea (Ee rfl) (Ea (Ee rfl) (Ef (Ed ?_)))))))))))
 refine Eb [8, 9, 10] rfl (Ek ?_)
 · first | (exfalso; simp_all; done) | (refine Ec [2, 3] (.inr rfl) rfl rfl rfl rfl (show (List.range 0 ++ [2, 3]).Nodup by decide) ?_; (have e : devDo d false a v = (d, 0, false) := by unfold devDo; (repeat' split) <;> first | rfl | (simp_all; done) | (exfalso; simp_all; omega)); rw [e]; exact ⟨(by first | rfl | (simp [List.map_set, iR]; done) | (rw [List.take_of_length_le (by simp)]; simp; done)), (by first | rfl | (simp [List.map_set, iR]; done) | (rw [List.take_of_length_le (by simp)]; simp; done))⟩) | (refine Ec [2, 3] (.inr rfl) rfl rfl rfl rfl (show (List.range 0 ++ [2, 3]).Nodup by decide) ?_; (have e : devDo d false a v = (d, y, true) := by unfold devDo; (repeat' split) <;> first | rfl | (simp_all; done) | (exfalso; simp_all; omega)); rw [e]; exact ⟨(by first | rfl | (simp [List.map_set, iR]; done) | (rw [List.take_of_length_le (by simp)]; simp; done)), (by first | rfl | (simp [List.map_set, iR]; done) | (rw [List.take_of_length_le (by simp)]; simp; done))⟩) | (refine Ec [2, 3] (.inr rfl) rfl rfl rfl rfl (show (List.range 0 ++ [2, 3]).Nodup by decide) ?_; (have e : devDo d false a v = (⟨d.regs, (d.timer + 1).tmod 4294967296, d.fifo⟩, d.timer, true) := by unfold devDo; (repeat' split) <;> first | rfl | (simp_all; done) | (exfalso; simp_all; omega)); rw [e]; exact ⟨(by first | rfl | (simp [List.map_set, iR]; done) | (rw [List.take_of_length_le (by simp)]; simp; done)), (by first | rfl | (simp [List.map_set, iR]; done) | (rw [List.take_of_length_le (by simp)]; simp; done))⟩) | (refine Ec [2, 5] (.inr rfl) rfl rfl rfl rfl (show (List.range 0 ++ [2, 5]).Nodup by decide) ?_; (have e : devDo d false a v = (⟨d.regs, d.timer, d.fifo.drop 1⟩, y, true) := by unfold devDo; (repeat' split) <;> first | rfl | (simp_all; done) | (exfalso; simp_all; omega)); rw [e]; exact ⟨(by first | rfl | (simp [List.map_set, iR]; done) | (rw [List.take_of_length_le (by simp)]; simp; done)), (by first | rfl | (simp [List.map_set, iR]; done) | (rw [List.take_of_length_le (by simp)]; simp; done))⟩)
 intro h31
 try rw [nnp] at h31
 try have h31' := En h31
 try have h31' := inB12 h31
 try have h31' := inB12n h31
 refine Ei rfl (Ei rfl (Ea (Ej rfl rfl) (Ea (Ee rfl) (Ei rfl (Ei rfl (Ei rfl (Ei rfl (Ea (Ej rfl rfl) (Ea (Ee rfl) (Ef (Ed ?_)))))))))))
 refine Eb [8, 11, 101] rfl (Fe rfl (Fb (Fg (Ed (Eb [8, 11] rfl (Eg (Eh (Ea (Em rfl rfl rfl) (Ep (Eo rfl rfl rfl rfl rfl rfl rfl) (Ea (Ee rfl) (Ea (Ee rfl) ?_)))))))))))
 refine Ef (Ed (Eb [8, 9, 10] rfl (Ek ?_)))
 · first | (exfalso; simp_all; done) | (refine Ec [2, 3] (.inr rfl) rfl rfl rfl rfl (show (List.range 0 ++ [2, 3]).Nodup by decide) ?_; (have e : devDo d false a v = (d, 0, false) := by unfold devDo; (repeat' split) <;> first | rfl | (simp_all; done) | (exfalso; simp_all; omega)); rw [e]; exact ⟨(by first | rfl | (simp [List.map_set, iR]; done) | (rw [List.take_of_length_le (by simp)]; simp; done)), (by first | rfl | (simp [List.map_set, iR]; done) | (rw [List.take_of_length_le (by simp)]; simp; done))⟩) | (refine Ec [2, 3] (.inr rfl) rfl rfl rfl rfl (show (List.range 0 ++ [2, 3]).Nodup by decide) ?_; (have e : devDo d false a v = (d, y, true) := by unfold devDo; (repeat' split) <;> first | rfl | (simp_all; done) | (exfalso; simp_all; omega)); rw [e]; exact ⟨(by first | rfl | (simp [List.map_set, iR]; done) | (rw [List.take_of_length_le (by simp)]; simp; done)), (by first | rfl | (simp [List.map_set, iR]; done) | (rw [List.take_of_length_le (by simp)]; simp; done))⟩) | (refine Ec [2, 3] (.inr rfl) rfl rfl rfl rfl (show (List.range 0 ++ [2, 3]).Nodup by decide) ?_; (have e : devDo d false a v = (⟨d.regs, (d.timer + 1).tmod 4294967296, d.fifo⟩, d.timer, true) := by unfold devDo; (repeat' split) <;> first | rfl | (simp_all; done) | (exfalso; simp_all; omega)); rw [e]; exact ⟨(by first | rfl | (simp [List.map_set, iR]; done) | (rw [List.take_of_length_le (by simp)]; simp; done)), (by first | rfl | (simp [List.map_set, iR]; done) | (rw [List.take_of_length_le (by simp)]; simp; done))⟩) | (refine Ec [2, 5] (.inr rfl) rfl rfl rfl rfl (show (List.range 0 ++ [2, 5]).Nodup by decide) ?_; (have e : devDo d false a v = (⟨d.regs, d.timer, d.fifo.drop 1⟩, y, true) := by unfold devDo; (repeat' split) <;> first | rfl | (simp_all; done) | (exfalso; simp_all; omega)); rw [e]; exact ⟨(by first | rfl | (simp [List.map_set, iR]; done) | (rw [List.take_of_length_le (by simp)]; simp; done)), (by first | rfl | (simp [List.map_set, iR]; done) | (rw [List.take_of_length_le (by simp)]; simp; done))⟩)
 intro h25
 try rw [nnp] at h25
 try have h25' := En h25
 try have h25' := inB12 h25
 try have h25' := inB12n h25
 refine Ei rfl (Ea (Ej rfl rfl) (Ea (Ee rfl) (Ef (Ed (Eb [1, 2, 3, 8, 11, 59] rfl (Fe rfl (Eg (Eh (Ea (Ee rfl) (Ea (o_eql rfl rfl) (Ea (Ee rfl) ?_)))))))))))
 refine Ef (Ed (Eb [1, 2, 3, 8, 11, 69] rfl ?_))
 first | refine Eu rfl ?_ ?_ | refine Et rfl ?_ ?_
 intro h34
 try rw [nnp] at h34
 try have h34' := En h34
 try have h34' := inB12 h34
 try have h34' := inB12n h34
 refine Eg (Eh (Ea (Ew rfl) (Ea (Fd rfl rfl rfl) (Ea (Ee rfl) (Ef (Ed (Eb [8, 11, 12] rfl (Eg (Eh (Ea (Ee rfl) ?_))))))))))
 first | refine Ea (o_addn rfl rfl (by omega)) ?_ | refine Ea (o_add rfl rfl) ?_
 refine Fc rfl rfl c_201w ?_
 first | refine Ea (o_rem rfl rfl (by decide)) ?_ | refine Ea (o_rem rfl rfl (by omega)) ?_
 refine Ea (Ew rfl) (Ep (o_stC rfl rfl rfl rfl rfl rfl) (Ef (Ed (Eb [8, 11, 12] rfl (Eg (Eh (Ea (Em rfl rfl rfl) (Ea (Ee rfl) (Ep (Eo rfl rfl rfl rfl rfl rfl rfl) (Ea (Ee rfl) (Ea (Ee rfl) ?_)))))))))))
 refine Ef (Ed (Eb [8, 9, 10] rfl (Ek (Ff (Ev ?_)))))
 · first | (exfalso; simp_all; done) | (refine Ec [2, 3] (.inr rfl) rfl rfl rfl rfl (show (List.range 0 ++ [2, 3]).Nodup by decide) ?_; (have e : devDo d false a v = (d, 0, false) := by unfold devDo; (repeat' split) <;> first | rfl | (simp_all; done) | (exfalso; simp_all; omega)); rw [e]; exact ⟨(by first | rfl | (simp [List.map_set, iR]; done) | (rw [List.take_of_length_le (by simp)]; simp; done)), (by first | rfl | (simp [List.map_set, iR]; done) | (rw [List.take_of_length_le (by simp)]; simp; done))⟩) | (refine Ec [2, 3] (.inr rfl) rfl rfl rfl rfl (show (List.range 0 ++ [2, 3]).Nodup by decide) ?_; (have e : devDo d false a v = (d, y, true) := by unfold devDo; (repeat' split) <;> first | rfl | (simp_all; done) | (exfalso; simp_all; omega)); rw [e]; exact ⟨(by first | rfl | (simp [List.map_set, iR]; done) | (rw [List.take_of_length_le (by simp)]; simp; done)), (by first | rfl | (simp [List.map_set, iR]; done) | (rw [List.take_of_length_le (by simp)]; simp; done))⟩) | (refine Ec [2, 3] (.inr rfl) rfl rfl rfl rfl (show (List.range 0 ++ [2, 3]).Nodup by decide) ?_; (have e : devDo d false a v = (⟨d.regs, (d.timer + 1).tmod 4294967296, d.fifo⟩, d.timer, true) := by unfold devDo; (repeat' split) <;> first | rfl | (simp_all; done) | (exfalso; simp_all; omega)); rw [e]; exact ⟨(by first | rfl | (simp [List.map_set, iR]; done) | (rw [List.take_of_length_le (by simp)]; simp; done)), (by first | rfl | (simp [List.map_set, iR]; done) | (rw [List.take_of_length_le (by simp)]; simp; done))⟩) | (refine Ec [2, 5] (.inr rfl) rfl rfl rfl rfl (show (List.range 0 ++ [2, 5]).Nodup by decide) ?_; (have e : devDo d false a v = (⟨d.regs, d.timer, d.fifo.drop 1⟩, y, true) := by unfold devDo; (repeat' split) <;> first | rfl | (simp_all; done) | (exfalso; simp_all; omega)); rw [e]; exact ⟨(by first | rfl | (simp [List.map_set, iR]; done) | (rw [List.take_of_length_le (by simp)]; simp; done)), (by first | rfl | (simp [List.map_set, iR]; done) | (rw [List.take_of_length_le (by simp)]; simp; done))⟩)
 intro h34
 try rw [nnp] at h34
 try have h34' := En h34
 try have h34' := inB12 h34
 try have h34' := inB12n h34
 refine Eg (Eh (Ea (Ee rfl) (Ea (o_eql rfl rfl) (Ea (Ee rfl) ?_))))
 first | refine s_gDT rfl ?_ ?_ | refine s_gB rfl ?_ ?_
 intro h35
 try rw [nnp] at h35
 try have h35' := En h35
 try have h35' := inB12 h35
 try have h35' := inB12n h35
 refine Ea (Ee rfl) (Ea (Er rfl rfl) (Ea (Ee rfl) (Ei rfl (Ei rfl (Ei rfl (Ei rfl (Ea (Ej rfl rfl) (Ea (Ee rfl) (Ef (Ed (Eb [1, 2, 3, 8, 11, 81] rfl ?_)))))))))))
 refine Fe rfl (Eg (Eh (Ea (Ee rfl) (Ea (o_eql rfl rfl) (Ea (Ee rfl) ?_)))))
 first | refine s_gDT rfl ?_ ?_ | refine s_gB rfl ?_ ?_
 intro h36
 try rw [nnp] at h36
 try have h36' := En h36
 try have h36' := inB12 h36
 try have h36' := inB12n h36
 refine Ea (Ee rfl) (Ez rfl (Ea (o_not rfl) (Ea (Er rfl rfl) (Ea (Ee rfl) (Ez rfl (Ea (Ew rfl) (Ez rfl (Ea (Fd rfl rfl rfl) (Ez rfl ?_)))))))))
 first | refine Ea (o_lenM rfl) ?_ | refine Ea (o_len rfl) ?_ | refine Ea (o_lenL rfl rfl (by simp)) ?_ | refine Ea (o_lenN rfl) ?_
 refine Ez rfl (Ea (o_gtr rfl rfl) (Ea (Er rfl rfl) (Ea (Ee rfl) (Ef (Ed (Eb [8, 11, 101] rfl ?_))))))
 first | refine Eu rfl ?_ ?_ | refine Et rfl ?_ ?_
 intro h37
 try rw [nnp] at h37
 try have h37' := En h37
 try have h37' := inB12 h37
 try have h37' := inB12n h37
 refine Eg (Eh ?_)
 obtain ⟨y, hy⟩ : ∃ y, d.fifo[Int.toNat 0]? = some y := ⟨_, List.getElem?_eq_getElem (by omega)⟩
 refine Ea (Ew rfl) (Ea (Fd rfl rfl rfl) (Ea (o_iaL rfl rfl (by simp) rfl (by (try simp only [List.length_map]); omega)) ?_))
 refine Ea (o_ldA rfl rfl (by simp) (by rw [List.getElem?_map, hy]; rfl) rfl) ?_
 refine Ea (Ee rfl) (Ef (Ed (Eb [8, 11, 13] rfl (Eg (Eh (Ea (Ew rfl) (Ea (Fd rfl rfl rfl) (s_cut rfl rfl (by simp) rfl rfl (by simp; omega) rfl rfl (Ea (Ew rfl) (Ep (o_stC rfl rfl rfl rfl rfl rfl) (Ef ?_)))))))))))
 refine Ed (Eb [8, 11, 13] rfl (Eg (Eh (Ea (Em rfl rfl rfl) (Ea (Ee rfl) (Ep (Eo rfl rfl rfl rfl rfl rfl rfl) (Ea (Ee rfl) (Ea (Ee rfl) (Ef (Ed (Eb [8, 9, 10] rfl ?_)))))))))))
 refine Ek (Ff (Ev ?_))
 · first | (exfalso; simp_all; done) | (refine Ec [2, 3] (.inr rfl) rfl rfl rfl rfl (show (List.range 0 ++ [2, 3]).Nodup by decide) ?_; (have e : devDo d false a v = (d, 0, false) := by unfold devDo; (repeat' split) <;> first | rfl | (simp_all; done) | (exfalso; simp_all; omega)); rw [e]; exact ⟨(by first | rfl | (simp [List.map_set, iR]; done) | (rw [List.take_of_length_le (by simp)]; simp; done)), (by first | rfl | (simp [List.map_set, iR]; done) | (rw [List.take_of_length_le (by simp)]; simp; done))⟩) | (refine Ec [2, 3] (.inr rfl) rfl rfl rfl rfl (show (List.range 0 ++ [2, 3]).Nodup by decide) ?_; (have e : devDo d false a v = (d, y, true) := by unfold devDo; (repeat' split) <;> first | rfl | (simp_all; done) | (exfalso; simp_all; omega)); rw [e]; exact ⟨(by first | rfl | (simp [List.map_set, iR]; done) | (rw [List.take_of_length_le (by simp)]; simp; done)), (by first | rfl | (simp [List.map_set, iR]; done) | (rw [List.take_of_length_le (by simp)]; simp; done))⟩) | (refine Ec [2, 3] (.inr rfl) rfl rfl rfl rfl (show (List.range 0 ++ [2, 3]).Nodup by decide) ?_; (have e : devDo d false a v = (⟨d.regs, (d.timer + 1).tmod 4294967296, d.fifo⟩, d.timer, true) := by unfold devDo; (repeat' split) <;> first | rfl | (simp_all; done) | (exfalso; simp_all; omega)); rw [e]; exact ⟨(by first | rfl | (simp [List.map_set, iR]; done) | (rw [List.take_of_length_le (by simp)]; simp; done)), (by first | rfl | (simp [List.map_set, iR]; done) | (rw [List.take_of_length_le (by simp)]; simp; done))⟩) | (refine Ec [2, 5] (.inr rfl) rfl rfl rfl rfl (show (List.range 0 ++ [2, 5]).Nodup by decide) ?_; (have e : devDo d false a v = (⟨d.regs, d.timer, d.fifo.drop 1⟩, y, true) := by unfold devDo; (repeat' split) <;> first | rfl | (simp_all; done) | (exfalso; simp_all; omega)); rw [e]; exact ⟨(by first | rfl | (simp [List.map_set, iR]; done) | (rw [List.take_of_length_le (by simp)]; simp; done)), (by first | rfl | (simp [List.map_set, iR]; done) | (rw [List.take_of_length_le (by simp)]; simp; done))⟩)
 intro h37
 try rw [nnp] at h37
 try have h37' := En h37
 try have h37' := inB12 h37
 try have h37' := inB12n h37
 refine Fb (Fg (Ed (Eb [8, 11] rfl (Eg (Eh (Ea (Em rfl rfl rfl) (Ep (Eo rfl rfl rfl rfl rfl rfl rfl) (Ea (Ee rfl) (Ea (Ee rfl) (Ef (Ed ?_)))))))))))
 refine Eb [8, 9, 10] rfl (Ek ?_)
 · first | (exfalso; simp_all; done) | (refine Ec [2, 3] (.inr rfl) rfl rfl rfl rfl (show (List.range 0 ++ [2, 3]).Nodup by decide) ?_; (have e : devDo d false a v = (d, 0, false) := by unfold devDo; (repeat' split) <;> first | rfl | (simp_all; done) | (exfalso; simp_all; omega)); rw [e]; exact ⟨(by first | rfl | (simp [List.map_set, iR]; done) | (rw [List.take_of_length_le (by simp)]; simp; done)), (by first | rfl | (simp [List.map_set, iR]; done) | (rw [List.take_of_length_le (by simp)]; simp; done))⟩) | (refine Ec [2, 3] (.inr rfl) rfl rfl rfl rfl (show (List.range 0 ++ [2, 3]).Nodup by decide) ?_; (have e : devDo d false a v = (d, y, true) := by unfold devDo; (repeat' split) <;> first | rfl | (simp_all; done) | (exfalso; simp_all; omega)); rw [e]; exact ⟨(by first | rfl | (simp [List.map_set, iR]; done) | (rw [List.take_of_length_le (by simp)]; simp; done)), (by first | rfl | (simp [List.map_set, iR]; done) | (rw [List.take_of_length_le (by simp)]; simp; done))⟩) | (refine Ec [2, 3] (.inr rfl) rfl rfl rfl rfl (show (List.range 0 ++ [2, 3]).Nodup by decide) ?_; (have e : devDo d false a v = (⟨d.regs, (d.timer + 1).tmod 4294967296, d.fifo⟩, d.timer, true) := by unfold devDo; (repeat' split) <;> first | rfl | (simp_all; done) | (exfalso; simp_all; omega)); rw [e]; exact ⟨(by first | rfl | (simp [List.map_set, iR]; done) | (rw [List.take_of_length_le (by simp)]; simp; done)), (by first | rfl | (simp [List.map_set, iR]; done) | (rw [List.take_of_length_le (by simp)]; simp; done))⟩) | (refine Ec [2, 5] (.inr rfl) rfl rfl rfl rfl (show (List.range 0 ++ [2, 5]).Nodup by decide) ?_; (have e : devDo d false a v = (⟨d.regs, d.timer, d.fifo.drop 1⟩, y, true) := by unfold devDo; (repeat' split) <;> first | rfl | (simp_all; done) | (exfalso; simp_all; omega)); rw [e]; exact ⟨(by first | rfl | (simp [List.map_set, iR]; done) | (rw [List.take_of_length_le (by simp)]; simp; done)), (by first | rfl | (simp [List.map_set, iR]; done) | (rw [List.take_of_length_le (by simp)]; simp; done))⟩)
 intro h36
 try rw [nnp] at h36
 try have h36' := En h36
 try have h36' := inB12 h36
 try have h36' := inB12n h36
 refine Ei rfl (Ei rfl (Ea (Ej rfl rfl) (Ea (Ee rfl) (Ei rfl (Ei rfl (Ei rfl (Ei rfl (Ea (Ej rfl rfl) (Ea (Ee rfl) (Ef (Ed ?_)))))))))))
 refine Eb [8, 11, 101] rfl (Fe rfl (Fb (Fg (Ed (Eb [8, 11] rfl (Eg (Eh (Ea (Em rfl rfl rfl) (Ep (Eo rfl rfl rfl rfl rfl rfl rfl) (Ea (Ee rfl) (Ea (Ee rfl) ?_)))))))))))
 refine Ef (Ed (Eb [8, 9, 10] rfl (Ek ?_)))
 · first | (exfalso; simp_all; done) | (refine Ec [2, 3] (.inr rfl) rfl rfl rfl rfl (show (List.range 0 ++ [2, 3]).Nodup by decide) ?_; (have e : devDo d false a v = (d, 0, false) := by unfold devDo; (repeat' split) <;> first | rfl | (simp_all; done) | (exfalso; simp_all; omega)); rw [e]; exact ⟨(by first | rfl | (simp [List.map_set, iR]; done) | (rw [List.take_of_length_le (by simp)]; simp; done)), (by first | rfl | (simp [List.map_set, iR]; done) | (rw [List.take_of_length_le (by simp)]; simp; done))⟩) | (refine Ec [2, 3] (.inr rfl) rfl rfl rfl rfl (show (List.range 0 ++ [2, 3]).Nodup by decide) ?_; (have e : devDo d false a v = (d, y, true) := by unfold devDo; (repeat' split) <;> first | rfl | (simp_all; done) | (exfalso; simp_all; omega)); rw [e]; exact ⟨(by first | rfl | (simp [List.map_set, iR]; done) | (rw [List.take_of_length_le (by simp)]; simp; done)), (by first | rfl | (simp [List.map_set, iR]; done) | (rw [List.take_of_length_le (by simp)]; simp; done))⟩) | (refine Ec [2, 3] (.inr rfl) rfl rfl rfl rfl (show (List.range 0 ++ [2, 3]).Nodup by decide) ?_; (have e : devDo d false a v = (⟨d.regs, (d.timer + 1).tmod 4294967296, d.fifo⟩, d.timer, true) := by unfold devDo; (repeat' split) <;> first | rfl | (simp_all; done) | (exfalso; simp_all; omega)); rw [e]; exact ⟨(by first | rfl | (simp [List.map_set, iR]; done) | (rw [List.take_of_length_le (by simp)]; simp; done)), (by first | rfl | (simp [List.map_set, iR]; done) | (rw [List.take_of_length_le (by simp)]; simp; done))⟩) | (refine Ec [2, 5] (.inr rfl) rfl rfl rfl rfl (show (List.range 0 ++ [2, 5]).Nodup by decide) ?_; (have e : devDo d false a v = (⟨d.regs, d.timer, d.fifo.drop 1⟩, y, true) := by unfold devDo; (repeat' split) <;> first | rfl | (simp_all; done) | (exfalso; simp_all; omega)); rw [e]; exact ⟨(by first | rfl | (simp [List.map_set, iR]; done) | (rw [List.take_of_length_le (by simp)]; simp; done)), (by first | rfl | (simp [List.map_set, iR]; done) | (rw [List.take_of_length_le (by simp)]; simp; done))⟩)
 intro h35
 try rw [nnp] at h35
 try have h35' := En h35
 try have h35' := inB12 h35
 try have h35' := inB12n h35
 refine Ei rfl (Ea (Ej rfl rfl) (Ea (Ee rfl) (Ei rfl (Ei rfl (Ei rfl (Ei rfl (Ea (Ej rfl rfl) (Ea (Ee rfl) (Ef (Ed (Eb [1, 2, 3, 8, 11, 81] rfl ?_)))))))))))
 refine Fe rfl (Eg (Eh (Ea (Ee rfl) (Ea (o_eql rfl rfl) (Ea (Ee rfl) ?_)))))
 first | refine s_gDT rfl ?_ ?_ | refine s_gB rfl ?_ ?_
 intro h39
 try rw [nnp] at h39
 try have h39' := En h39
 try have h39' := inB12 h39
 try have h39' := inB12n h39
 refine Ea (Ee rfl) (Ez rfl (Ea (o_not rfl) (Ea (Er rfl rfl) (Ea (Ee rfl) (Ez rfl (Ea (Ew rfl) (Ez rfl (Ea (Fd rfl rfl rfl) (Ez rfl ?_)))))))))
 first | refine Ea (o_lenM rfl) ?_ | refine Ea (o_len rfl) ?_ | refine Ea (o_lenL rfl rfl (by simp)) ?_ | refine Ea (o_lenN rfl) ?_
 refine Ez rfl (Ea (o_gtr rfl rfl) (Ea (Er rfl rfl) (Ea (Ee rfl) (Ef (Ed (Eb [8, 11, 101] rfl ?_))))))
 first | refine Eu rfl ?_ ?_ | refine Et rfl ?_ ?_
 intro h40
 try rw [nnp] at h40
 try have h40' := En h40
 try have h40' := inB12 h40
 try have h40' := inB12n h40
 refine Eg (Eh ?_)
 obtain ⟨y, hy⟩ : ∃ y, d.fifo[Int.toNat 0]? = some y := ⟨_, List.getElem?_eq_getElem (by omega)⟩
 refine Ea (Ew rfl) (Ea (Fd rfl rfl rfl) (Ea (o_iaL rfl rfl (by simp) rfl (by (try simp only [List.length_map]); omega)) ?_))
 refine Ea (o_ldA rfl rfl (by simp) (by rw [List.getElem?_map, hy]; rfl) rfl) ?_
 refine Ea (Ee rfl) (Ef (Ed (Eb [8, 11, 13] rfl (Eg (Eh (Ea (Ew rfl) (Ea (Fd rfl rfl rfl) (s_cut rfl rfl (by simp) rfl rfl (by simp; omega) rfl rfl (Ea (Ew rfl) (Ep (o_stC rfl rfl rfl rfl rfl rfl) (Ef ?_)))))))))))
 refine Ed (Eb [8, 11, 13] rfl (Eg (Eh (Ea (Em rfl rfl rfl) (Ea (Ee rfl) (Ep (Eo rfl rfl rfl rfl rfl rfl rfl) (Ea (Ee rfl) (Ea (Ee rfl) (Ef (Ed (Eb [8, 9, 10] rfl ?_)))))))))))
 refine Ek (Ff (Ev ?_))
 · first | (exfalso; simp_all; done) | (refine Ec [2, 3] (.inr rfl) rfl rfl rfl rfl (show (List.range 0 ++ [2, 3]).Nodup by decide) ?_; (have e : devDo d false a v = (d, 0, false) := by unfold devDo; (repeat' split) <;> first | rfl | (simp_all; done) | (exfalso; simp_all; omega)); rw [e]; exact ⟨(by first | rfl | (simp [List.map_set, iR]; done) | (rw [List.take_of_length_le (by simp)]; simp; done)), (by first | rfl | (simp [List.map_set, iR]; done) | (rw [List.take_of_length_le (by simp)]; simp; done))⟩) | (refine Ec [2, 3] (.inr rfl) rfl rfl rfl rfl (show (List.range 0 ++ [2, 3]).Nodup by decide) ?_; (have e : devDo d false a v = (d, y, true) := by unfold devDo; (repeat' split) <;> first | rfl | (simp_all; done) | (exfalso; simp_all; omega)); rw [e]; exact ⟨(by first | rfl | (simp [List.map_set, iR]; done) | (rw [List.take_of_length_le (by simp)]; simp; done)), (by first | rfl | (simp [List.map_set, iR]; done) | (rw [List.take_of_length_le (by simp)]; simp; done))⟩) | (refine Ec [2, 3] (.inr rfl) rfl rfl rfl rfl (show (List.range 0 ++ [2, 3]).Nodup by decide) ?_; (have e : devDo d false a v = (⟨d.regs, (d.timer + 1).tmod 4294967296, d.fifo⟩, d.timer, true) := by unfold devDo; (repeat' split) <;> first | rfl | (simp_all; done) | (exfalso; simp_all; omega)); rw [e]; exact ⟨(by first | rfl | (simp [List.map_set, iR]; done) | (rw [List.take_of_length_le (by simp)]; simp; done)), (by first | rfl | (simp [List.map_set, iR]; done) | (rw [List.take_of_length_le (by simp)]; simp; done))⟩) | (refine Ec [2, 5] (.inr rfl) rfl rfl rfl rfl (show (List.range 0 ++ [2, 5]).Nodup by decide) ?_; (have e : devDo d false a v = (⟨d.regs, d.timer, d.fifo.drop 1⟩, y, true) := by unfold devDo; (repeat' split) <;> first | rfl | (simp_all; done) | (exfalso; simp_all; omega)); rw [e]; exact ⟨(by first | rfl | (simp [List.map_set, iR]; done) | (rw [List.take_of_length_le (by simp)]; simp; done)), (by first | rfl | (simp [List.map_set, iR]; done) | (rw [List.take_of_length_le (by simp)]; simp; done))⟩)
 intro h40
 try rw [nnp] at h40
 try have h40' := En h40
 try have h40' := inB12 h40
 try have h40' := inB12n h40
 refine Fb (Fg (Ed (Eb [8, 11] rfl (Eg (Eh (Ea (Em rfl rfl rfl) (Ep (Eo rfl rfl rfl rfl rfl rfl rfl) (Ea (Ee rfl) (Ea (Ee rfl) (Ef (Ed ?_)))))))))))
 refine Eb [8, 9, 10] rfl (Ek ?_)
 · first | (exfalso; simp_all; done) | (refine Ec [2, 3] (.inr rfl) rfl rfl rfl rfl (show (List.range 0 ++ [2, 3]).Nodup by decide) ?_; (have e : devDo d false a v = (d, 0, false) := by unfold devDo; (repeat' split) <;> first | rfl | (simp_all; done) | (exfalso; simp_all; omega)); rw [e]; exact ⟨(by first | rfl | (simp [List.map_set, iR]; done) | (rw [List.take_of_length_le (by simp)]; simp; done)), (by first | rfl | (simp [List.map_set, iR]; done) | (rw [List.take_of_length_le (by simp)]; simp; done))⟩) | (refine Ec [2, 3] (.inr rfl) rfl rfl rfl rfl (show (List.range 0 ++ [2, 3]).Nodup by decide) ?_; (have e : devDo d false a v = (d, y, true) := by unfold devDo; (repeat' split) <;> first | rfl | (simp_all; done) | (exfalso; simp_all; omega)); rw [e]; exact ⟨(by first | rfl | (simp [List.map_set, iR]; done) | (rw [List.take_of_length_le (by simp)]; simp; done)), (by first | rfl | (simp [List.map_set, iR]; done) | (rw [List.take_of_length_le (by simp)]; simp; done))⟩) | (refine Ec [2, 3] (.inr rfl) rfl rfl rfl rfl (show (List.range 0 ++ [2, 3]).Nodup by decide) ?_; (have e : devDo d false a v = (⟨d.regs, (d.timer + 1).tmod 4294967296, d.fifo⟩, d.timer, true) := by unfold devDo; (repeat' split) <;> first | rfl | (simp_all; done) | (exfalso; simp_all; omega)); rw [e]; exact ⟨(by first | rfl | (simp [List.map_set, iR]; done) | (rw [List.take_of_length_le (by simp)]; simp; done)), (by first | rfl | (simp [List.map_set, iR]; done) | (rw [List.take_of_length_le (by simp)]; simp; done))⟩) | (refine Ec [2, 5] (.inr rfl) rfl rfl rfl rfl (show (List.range 0 ++ [2, 5]).Nodup by decide) ?_; (have e : devDo d false a v = (⟨d.regs, d.timer, d.fifo.drop 1⟩, y, true) := by unfold devDo; (repeat' split) <;> first | rfl | (simp_all; done) | (exfalso; simp_all; omega)); rw [e]; exact ⟨(by first | rfl | (simp [List.map_set, iR]; done) | (rw [List.take_of_length_le (by simp)]; simp; done)), (by first | rfl | (simp [List.map_set, iR]; done) | (rw [List.take_of_length_le (by simp)]; simp; done))⟩)
 intro h39
 try rw [nnp] at h39
 try have h39' := En h39
 try have h39' := inB12 h39
 try have h39' := inB12n h39
 refine Ei rfl (Ei rfl (Ea (Ej rfl rfl) (Ea (Ee rfl) (Ei rfl (Ei rfl (Ei rfl (Ei rfl (Ea (Ej rfl rfl) (Ea (Ee rfl) (Ef (Ed ?_)))))))))))
 refine Eb [8, 11, 101] rfl (Fe rfl (Fb (Fg (Ed (Eb [8, 11] rfl (Eg (Eh (Ea (Em rfl rfl rfl) (Ep (Eo rfl rfl rfl rfl rfl rfl rfl) (Ea (Ee rfl) (Ea (Ee rfl) ?_)))))))))))
 refine Ef (Ed (Eb [8, 9, 10] rfl (Ek ?_)))
 · first | (exfalso; simp_all; done) | (refine Ec [2, 3] (.inr rfl) rfl rfl rfl rfl (show (List.range 0 ++ [2, 3]).Nodup by decide) ?_; (have e : devDo d false a v = (d, 0, false) := by unfold devDo; (repeat' split) <;> first | rfl | (simp_all; done) | (exfalso; simp_all; omega)); rw [e]; exact ⟨(by first | rfl | (simp [List.map_set, iR]; done) | (rw [List.take_of_length_le (by simp)]; simp; done)), (by first | rfl | (simp [List.map_set, iR]; done) | (rw [List.take_of_length_le (by simp)]; simp; done))⟩) | (refine Ec [2, 3] (.inr rfl) rfl rfl rfl rfl (show (List.range 0 ++ [2, 3]).Nodup by decide) ?_; (have e : devDo d false a v = (d, y, true) := by unfold devDo; (repeat' split) <;> first | rfl | (simp_all; done) | (exfalso; simp_all; omega)); rw [e]; exact ⟨(by first | rfl | (simp [List.map_set, iR]; done) | (rw [List.take_of_length_le (by simp)]; simp; done)), (by first | rfl | (simp [List.map_set, iR]; done) | (rw [List.take_of_length_le (by simp)]; simp; done))⟩) | (refine Ec [2, 3] (.inr rfl) rfl rfl rfl rfl (show (List.range 0 ++ [2, 3]).Nodup by decide) ?_; (have e : devDo d false a v = (⟨d.regs, (d.timer + 1).tmod 4294967296, d.fifo⟩, d.timer, true) := by unfold devDo; (repeat' split) <;> first | rfl | (simp_all; done) | (exfalso; simp_all; omega)); rw [e]; exact ⟨(by first | rfl | (simp [List.map_set, iR]; done) | (rw [List.take_of_length_le (by simp)]; simp; done)), (by first | rfl | (simp [List.map_set, iR]; done) | (rw [List.take_of_length_le (by simp)]; simp; done))⟩) | (refine Ec [2, 5] (.inr rfl) rfl rfl rfl rfl (show (List.range 0 ++ [2, 5]).Nodup by decide) ?_; (have e : devDo d false a v = (⟨d.regs, d.timer, d.fifo.drop 1⟩, y, true) := by unfold devDo; (repeat' split) <;> first | rfl | (simp_all; done) | (exfalso; simp_all; omega)); rw [e]; exact ⟨(by first | rfl | (simp [List.map_set, iR]; done) | (rw [List.take_of_length_le (by simp)]; simp; done)), (by first | rfl | (simp [List.map_set, iR]; done) | (rw [List.take_of_length_le (by simp)]; simp; done))⟩)
 intro h2
 try rw [nnp] at h2
 try have h2' := En h2
 try have h2' := inB12 h2
 try have h2' := inB12n h2
 refine Ei rfl (Ei rfl (s_gN rfl (s_gN rfl (s_gN rfl (s_keepO (is := [1, 2, 3, 8, 11, 24, 26, 27, 29]) rfl (s_gN rfl (s_gN rfl (Ei rfl (Ea (Er rfl rfl) (Ef (Ed ?_)))))))))))
 refine Eb [1, 2, 3, 8, 11, 33] rfl (Fh rfl (Eg (Eh (Ea (Em rfl rfl rfl) (Ep (Eo rfl rfl rfl rfl rfl rfl rfl) (Ea (Ee rfl) (Ea (Ee rfl) (Ef (Ed (Eb [8, 9, 10] rfl (Ek ?_)))))))))))
 refine Ev ?_
 · first | (exfalso; simp_all; done) | (refine Ec [2, 3] (.inr rfl) rfl rfl rfl rfl (show (List.range 0 ++ [2, 3]).Nodup by decide) ?_; (have e : devDo d false a v = (d, 0, false) := by unfold devDo; (repeat' split) <;> first | rfl | (simp_all; done) | (exfalso; simp_all; omega)); rw [e]; exact ⟨(by first | rfl | (simp [List.map_set, iR]; done) | (rw [List.take_of_length_le (by simp)]; simp; done)), (by first | rfl | (simp [List.map_set, iR]; done) | (rw [List.take_of_length_le (by simp)]; simp; done))⟩) | (refine Ec [2, 3] (.inr rfl) rfl rfl rfl rfl (show (List.range 0 ++ [2, 3]).Nodup by decide) ?_; (have e : devDo d false a v = (d, y, true) := by unfold devDo; (repeat' split) <;> first | rfl | (simp_all; done) | (exfalso; simp_all; omega)); rw [e]; exact ⟨(by first | rfl | (simp [List.map_set, iR]; done) | (rw [List.take_of_length_le (by simp)]; simp; done)), (by first | rfl | (simp [List.map_set, iR]; done) | (rw [List.take_of_length_le (by simp)]; simp; done))⟩) | (refine Ec [2, 3] (.inr rfl) rfl rfl rfl rfl (show (List.range 0 ++ [2, 3]).Nodup by decide) ?_; (have e : devDo d false a v = (⟨d.regs, (d.timer + 1).tmod 4294967296, d.fifo⟩, d.timer, true) := by unfold devDo; (repeat' split) <;> first | rfl | (simp_all; done) | (exfalso; simp_all; omega)); rw [e]; exact ⟨(by first | rfl | (simp [List.map_set, iR]; done) | (rw [List.take_of_length_le (by simp)]; simp; done)), (by first | rfl | (simp [List.map_set, iR]; done) | (rw [List.take_of_length_le (by simp)]; simp; done))⟩) | (refine Ec [2, 5] (.inr rfl) rfl rfl rfl rfl (show (List.range 0 ++ [2, 5]).Nodup by decide) ?_; (have e : devDo d false a v = (⟨d.regs, d.timer, d.fifo.drop 1⟩, y, true) := by unfold devDo; (repeat' split) <;> first | rfl | (simp_all; done) | (exfalso; simp_all; omega)); rw [e]; exact ⟨(by first | rfl | (simp [List.map_set, iR]; done) | (rw [List.take_of_length_le (by simp)]; simp; done)), (by first | rfl | (simp [List.map_set, iR]; done) | (rw [List.take_of_length_le (by simp)]; simp; done))⟩)
 intro h1
 try rw [nnp] at h1
 try have h1' := En h1
 try have h1' := inB12 h1
 try have h1' := inB12n h1
 refine Ei rfl (Ei rfl (Ei rfl (Ea (Er rfl rfl) (Ea (Ee rfl) (Ei rfl (Ei rfl (s_gN rfl (s_gN rfl (s_gN rfl (s_keepO (is := [1, 2, 3, 8, 11, 24, 26, 27, 29]) rfl (s_gN rfl ?_)))))))))))
 refine s_gN rfl (Ei rfl (Ea (Er rfl rfl) (Ef (Ed (Eb [1, 2, 3, 8, 11, 33] rfl (Fh rfl (Eg (Eh (Ea (Em rfl rfl rfl) (Ep (Eo rfl rfl rfl rfl rfl rfl rfl) (Ea (Ee rfl) ?_)))))))))))
 refine Ea (Ee rfl) (Ef (Ed (Eb [8, 9, 10] rfl (Ek (Ev ?_)))))
 · first | (exfalso; simp_all; done) | (refine Ec [2, 3] (.inr rfl) rfl rfl rfl rfl (show (List.range 0 ++ [2, 3]).Nodup by decide) ?_; (have e : devDo d false a v = (d, 0, false) := by unfold devDo; (repeat' split) <;> first | rfl | (simp_all; done) | (exfalso; simp_all; omega)); rw [e]; exact ⟨(by first | rfl | (simp [List.map_set, iR]; done) | (rw [List.take_of_length_le (by simp)]; simp; done)), (by first | rfl | (simp [List.map_set, iR]; done) | (rw [List.take_of_length_le (by simp)]; simp; done))⟩) | (refine Ec [2, 3] (.inr rfl) rfl rfl rfl rfl (show (List.range 0 ++ [2, 3]).Nodup by decide) ?_; (have e : devDo d false a v = (d, y, true) := by unfold devDo; (repeat' split) <;> first | rfl | (simp_all; done) | (exfalso; simp_all; omega)); rw [e]; exact ⟨(by first | rfl | (simp [List.map_set, iR]; done) | (rw [List.take_of_length_le (by simp)]; simp; done)), (by first | rfl | (simp [List.map_set, iR]; done) | (rw [List.take_of_length_le (by simp)]; simp; done))⟩) | (refine Ec [2, 3] (.inr rfl) rfl rfl rfl rfl (show (List.range 0 ++ [2, 3]).Nodup by decide) ?_; (have e : devDo d false a v = (⟨d.regs, (d.timer + 1).tmod 4294967296, d.fifo⟩, d.timer, true) := by unfold devDo; (repeat' split) <;> first | rfl | (simp_all; done) | (exfalso; simp_all; omega)); rw [e]; exact ⟨(by first | rfl | (simp [List.map_set, iR]; done) | (rw [List.take_of_length_le (by simp)]; simp; done)), (by first | rfl | (simp [List.map_set, iR]; done) | (rw [List.take_of_length_le (by simp)]; simp; done))⟩) | (refine Ec [2, 5] (.inr rfl) rfl rfl rfl rfl (show (List.range 0 ++ [2, 5]).Nodup by decide) ?_; (have e : devDo d false a v = (⟨d.regs, d.timer, d.fifo.drop 1⟩, y, true) := by unfold devDo; (repeat' split) <;> first | rfl | (simp_all; done) | (exfalso; simp_all; omega)); rw [e]; exact ⟨(by first | rfl | (simp [List.map_set, iR]; done) | (rw [List.take_of_length_le (by simp)]; simp; done)), (by first | rfl | (simp [List.map_set, iR]; done) | (rw [List.take_of_length_le (by simp)]; simp; done))⟩)
theorem cg_399 (d : Dev) (w : Bool) (a v : Int) (hs : d.small) : GV prg 399 [] [.agg d.r, .w (.bool w), .w (.int .i64 a), .w (.int .i64 v)] (fun u L1 => u = .tup [.agg [.ls 0 (devDo d w a v).1.regs.length, .w (.int .i64 (devDo d w a v).1.timer), .ls 1 (devDo d w a v).1.fifo.length], .w (.int .i64 (devDo d w a v).2.1), .w (.bool (devDo d w a v).2.2)] ∧ L1 = [.arr 1 ((devDo d w a v).1.regs.map iR), .arr 1 ((devDo d w a v).1.fifo.map iR)]) := by
 cases w
 · exact cg_399f d a v hs
 · exact cg_399t d a v hs
theorem sl1_eq (xs : List Int) : List.drop (Int.toNat 1) (List.take (((xs.map iR).length : Nat) : Int).toNat (xs.map iR)) = (xs.drop 1).map iR := by
 rw [Int.toNat_natCast, List.take_of_length_le (Nat.le_refl _), List.map_drop]; rfl
theorem cg_39t (d : Dev) (a v : Int) (hs : d.small) : GV prg 39 [] [.agg d.r, .w (.bool true), .w (.int .i64 a), .w (.int .i64 v)] (fun u L1 => u = .tup [.agg [.ls 0 (devDo d true a v).1.regs.length, .w (.int .i64 (devDo d true a v).1.timer), .ls 1 (devDo d true a v).1.fifo.length], .w (.int .i64 (devDo d true a v).2.1), .w (.bool (devDo d true a v).2.2)] ∧ L1 = [.arr 1 ((devDo d true a v).1.regs.map iR), .arr 1 ((devDo d true a v).1.fifo.map iR)]) := by
 have hs1 := hs.1
 have hs2 := hs.2
 refine gv_in g39 (Eb [0, 1, 2, 3] rfl (Eg (Eh (Ea (o_box rfl rfl rfl) (Ea (o_new rfl rfl) (Ea (Ee rfl) (Ea (Ee rfl) (Ef (Ed (Eb [1, 2, 3, 4, 8] rfl (Eg ?_)))))))))))
 refine Eh (Ea (Em rfl rfl rfl) (s_callG [] rfl rfl rfl rfl (by simp) (.inl rfl) (cg_97 d hs) ?_))
 rintro u L1 ⟨rfl, rfl⟩
 refine ⟨_, _, rfl, rfl, ?_⟩
 refine Ea (o_new rfl rfl) (Ep (Eo rfl rfl rfl rfl rfl rfl rfl) (Ef (Ed (Eb [1, 2, 3, 4, 8, 11] rfl (Eg (Eg (Eh (Ea (Em rfl rfl rfl) ?_))))))))
 first | refine Fc rfl rfl (c_40 d hs) ?_ | refine s_callL rfl rfl (by simp) (c_40 d hs) rfl ?_
 refine Ea (o_not rfl) (Ea (Ee rfl) ?_)
 first | refine s_gDF rfl ?_ ?_ | refine s_gNDF rfl ?_ ?_ | refine s_gNF rfl ?_ ?_ | refine s_gB rfl ?_ ?_
 intro h1
 try rw [nnp] at h1
 try have h1' := En h1
 try have h1' := inB12 h1
 try have h1' := inB12n h1
 refine Ea (Ee rfl) (Ez rfl (Ea (Ee rfl) (Ez rfl (Ea (Ee rfl) (Ez rfl (Fc rfl rfl (c_92w _) (Ez rfl (Ea (o_not rfl) (Ez rfl (Ea (Er rfl rfl) (Ea (Ej rfl rfl) ?_)))))))))))
 refine Ef (Ed (Eb [1, 2, 3, 4, 8, 11, 24] rfl ?_))
 first | refine Eu rfl ?_ ?_ | refine s_condN rfl ?_ ?_ | refine s_condNB rfl ?_ ?_ | refine Et rfl ?_ ?_
 intro h2
 try rw [nnp] at h2
 try have h2' := En h2
 try have h2' := inB12 h2
 try have h2' := inB12n h2
 refine Eg (Eh (Ea (Em rfl rfl rfl) (Ep (Eo rfl rfl rfl rfl rfl rfl rfl) (Ea (Ee rfl) (Ea (Ee rfl) (Ef (Ed (Eb [8, 9, 10] rfl (Ek (Ev ?_))))))))))
 · first | (exfalso; simp_all; done) | (refine Ec [2, 3] (.inr rfl) rfl rfl rfl rfl (show (List.range 0 ++ [2, 3]).Nodup by decide) ?_; (have e : devDo d true a v = (d, 0, false) := by unfold devDo; (repeat' split) <;> first | rfl | (simp_all; done) | (exfalso; simp_all; omega)); rw [e]; exact ⟨(by first | rfl | (simp [List.map_set, iR]; done) | (rw [List.take_of_length_le (by simp)]; simp; done)), (by first | rfl | (simp [List.map_set, iR]; done) | (rw [List.take_of_length_le (by simp)]; simp; done))⟩) | (refine Ec [2, 3] (.inr rfl) rfl rfl rfl rfl (show (List.range 0 ++ [2, 3]).Nodup by decide) ?_; (have e : devDo d true a v = (⟨d.regs.set (a.tdiv 4).toNat v, d.timer, d.fifo⟩, v, true) := by unfold devDo; (repeat' split) <;> first | rfl | (simp_all; done) | (exfalso; simp_all; omega)); rw [e]; exact ⟨(by first | rfl | (simp [List.map_set, iR]; done) | (rw [List.take_of_length_le (by simp)]; simp; done)), (by first | rfl | (simp [List.map_set, iR]; done) | (rw [List.take_of_length_le (by simp)]; simp; done))⟩) | (refine Ec [2, 3] (.inr rfl) rfl rfl rfl rfl (show (List.range 0 ++ [2, 3]).Nodup by decide) ?_; (have e : devDo d true a v = (⟨d.regs, v, d.fifo⟩, v, true) := by unfold devDo; (repeat' split) <;> first | rfl | (simp_all; done) | (exfalso; simp_all; omega)); rw [e]; exact ⟨(by first | rfl | (simp [List.map_set, iR]; done) | (rw [List.take_of_length_le (by simp)]; simp; done)), (by first | rfl | (simp [List.map_set, iR]; done) | (rw [List.take_of_length_le (by simp)]; simp; done))⟩) | (refine Ec [2, 3] (.inr rfl) rfl rfl rfl rfl (show (List.range 0 ++ [2, 3]).Nodup by decide) ?_; (have e : devDo d true a v = (⟨d.regs, d.timer, d.fifo ++ [v]⟩, v, true) := by unfold devDo; (repeat' split) <;> first | rfl | (simp_all; done) | (exfalso; simp_all; omega)); rw [e]; exact ⟨(by first | rfl | (simp [List.map_set, iR]; done) | (rw [List.take_of_length_le (by simp)]; simp; done)), (by first | rfl | (simp [List.map_set, iR]; done) | (rw [List.take_of_length_le (by simp)]; simp; done))⟩)
 intro h2
 try rw [nnp] at h2
 try have h2' := En h2
 try have h2' := inB12 h2
 try have h2' := inB12n h2
 refine Fb (Ed (Eb [1, 2, 3, 4, 8, 11] rfl (Eg (S_block (Eg (Eh (Ea (Ee rfl) (Ea (o_eql rfl rfl) (Ea (Ee rfl) ?_)))))))))
 first | refine s_gDT rfl ?_ ?_ | refine s_gB rfl ?_ ?_
 intro h3
 try rw [nnp] at h3
 try have h3' := En h3
 try have h3' := inB12 h3
 try have h3' := inB12n h3
 refine Ea (Ee rfl) (Ea (Er rfl rfl) (Ea (Ee rfl) (Ef (Ed (Eb [1, 2, 3, 4, 8, 11, 32] rfl (Fh rfl (Eh (Ea (Ee rfl) (Ea (Ew rfl) (Ep (o_stC rfl rfl rfl rfl rfl rfl) (Ef ?_)))))))))))
 refine Fg (Ed (Eb [3, 8, 11] rfl (Eg (Eh (Ea (Em rfl rfl rfl) (Ea (Ee rfl) (Ep (Eo rfl rfl rfl rfl rfl rfl rfl) (Ea (Ee rfl) (Ea (Ee rfl) (Ef (Ed ?_)))))))))))
 refine Eb [8, 9, 10] rfl (Ek ?_)
 · first | (exfalso; simp_all; done) | (refine Ec [2, 3] (.inr rfl) rfl rfl rfl rfl (show (List.range 0 ++ [2, 3]).Nodup by decide) ?_; (have e : devDo d true a v = (d, 0, false) := by unfold devDo; (repeat' split) <;> first | rfl | (simp_all; done) | (exfalso; simp_all; omega)); rw [e]; exact ⟨(by first | rfl | (simp [List.map_set, iR]; done) | (rw [List.take_of_length_le (by simp)]; simp; done)), (by first | rfl | (simp [List.map_set, iR]; done) | (rw [List.take_of_length_le (by simp)]; simp; done))⟩) | (refine Ec [2, 3] (.inr rfl) rfl rfl rfl rfl (show (List.range 0 ++ [2, 3]).Nodup by decide) ?_; (have e : devDo d true a v = (⟨d.regs.set (a.tdiv 4).toNat v, d.timer, d.fifo⟩, v, true) := by unfold devDo; (repeat' split) <;> first | rfl | (simp_all; done) | (exfalso; simp_all; omega)); rw [e]; exact ⟨(by first | rfl | (simp [List.map_set, iR]; done) | (rw [List.take_of_length_le (by simp)]; simp; done)), (by first | rfl | (simp [List.map_set, iR]; done) | (rw [List.take_of_length_le (by simp)]; simp; done))⟩) | (refine Ec [2, 3] (.inr rfl) rfl rfl rfl rfl (show (List.range 0 ++ [2, 3]).Nodup by decide) ?_; (have e : devDo d true a v = (⟨d.regs, v, d.fifo⟩, v, true) := by unfold devDo; (repeat' split) <;> first | rfl | (simp_all; done) | (exfalso; simp_all; omega)); rw [e]; exact ⟨(by first | rfl | (simp [List.map_set, iR]; done) | (rw [List.take_of_length_le (by simp)]; simp; done)), (by first | rfl | (simp [List.map_set, iR]; done) | (rw [List.take_of_length_le (by simp)]; simp; done))⟩) | (refine Ec [2, 3] (.inr rfl) rfl rfl rfl rfl (show (List.range 0 ++ [2, 3]).Nodup by decide) ?_; (have e : devDo d true a v = (⟨d.regs, d.timer, d.fifo ++ [v]⟩, v, true) := by unfold devDo; (repeat' split) <;> first | rfl | (simp_all; done) | (exfalso; simp_all; omega)); rw [e]; exact ⟨(by first | rfl | (simp [List.map_set, iR]; done) | (rw [List.take_of_length_le (by simp)]; simp; done)), (by first | rfl | (simp [List.map_set, iR]; done) | (rw [List.take_of_length_le (by simp)]; simp; done))⟩)
 intro h3
 try rw [nnp] at h3
 try have h3' := En h3
 try have h3' := inB12 h3
 try have h3' := inB12n h3
 refine Ei rfl (Ea (Ej rfl rfl) (Ea (Ee rfl) (Ef (Ed (Eb [1, 2, 3, 4, 8, 11, 32] rfl (Fe rfl (Eg (Eh (Ea (Ee rfl) (Ea (o_eql rfl rfl) (Ea (Ee rfl) ?_)))))))))))
 refine Ef (Ed (Eb [1, 2, 3, 4, 8, 11, 40] rfl ?_))
 first | refine Eu rfl ?_ ?_ | refine Et rfl ?_ ?_
 intro h4
 try rw [nnp] at h4
 try have h4' := En h4
 try have h4' := inB12 h4
 try have h4' := inB12n h4
 refine Eg (Eh (Ea (Ew rfl) (Ea (Fd rfl rfl rfl) (Ea (Ee rfl) (Ef (Ed (Eb [3, 4, 8, 11] rfl (Eh (Ea (Ew rfl) (Ea (Fd rfl rfl rfl) ?_))))))))))
 first | refine Ea (o_addn rfl rfl (by omega)) ?_ | refine Ea (o_add rfl rfl) ?_
 refine Fc rfl rfl c_51w ?_
 first | refine Ea (o_rem rfl rfl (by decide)) ?_ | refine Ea (o_rem rfl rfl (by omega)) ?_
 refine Ea (Ew rfl) (Ep (o_stC rfl rfl rfl rfl rfl rfl) (Ef (Fg (Ed (Eb [3, 8, 11] rfl (Eg (Eh (Ea (Em rfl rfl rfl) (Ea (Ee rfl) (Ep (Eo rfl rfl rfl rfl rfl rfl rfl) (Ea (Ee rfl) ?_)))))))))))
 refine Ea (Ee rfl) (Ef (Ed (Eb [8, 9, 10] rfl (Ek ?_))))
 · first | (exfalso; simp_all; done) | (refine Ec [2, 3] (.inr rfl) rfl rfl rfl rfl (show (List.range 0 ++ [2, 3]).Nodup by decide) ?_; (have e : devDo d true a v = (d, 0, false) := by unfold devDo; (repeat' split) <;> first | rfl | (simp_all; done) | (exfalso; simp_all; omega)); rw [e]; exact ⟨(by first | rfl | (simp [List.map_set, iR]; done) | (rw [List.take_of_length_le (by simp)]; simp; done)), (by first | rfl | (simp [List.map_set, iR]; done) | (rw [List.take_of_length_le (by simp)]; simp; done))⟩) | (refine Ec [2, 3] (.inr rfl) rfl rfl rfl rfl (show (List.range 0 ++ [2, 3]).Nodup by decide) ?_; (have e : devDo d true a v = (⟨d.regs.set (a.tdiv 4).toNat v, d.timer, d.fifo⟩, v, true) := by unfold devDo; (repeat' split) <;> first | rfl | (simp_all; done) | (exfalso; simp_all; omega)); rw [e]; exact ⟨(by first | rfl | (simp [List.map_set, iR]; done) | (rw [List.take_of_length_le (by simp)]; simp; done)), (by first | rfl | (simp [List.map_set, iR]; done) | (rw [List.take_of_length_le (by simp)]; simp; done))⟩) | (refine Ec [2, 3] (.inr rfl) rfl rfl rfl rfl (show (List.range 0 ++ [2, 3]).Nodup by decide) ?_; (have e : devDo d true a v = (⟨d.regs, v, d.fifo⟩, v, true) := by unfold devDo; (repeat' split) <;> first | rfl | (simp_all; done) | (exfalso; simp_all; omega)); rw [e]; exact ⟨(by first | rfl | (simp [List.map_set, iR]; done) | (rw [List.take_of_length_le (by simp)]; simp; done)), (by first | rfl | (simp [List.map_set, iR]; done) | (rw [List.take_of_length_le (by simp)]; simp; done))⟩) | (refine Ec [2, 3] (.inr rfl) rfl rfl rfl rfl (show (List.range 0 ++ [2, 3]).Nodup by decide) ?_; (have e : devDo d true a v = (⟨d.regs, d.timer, d.fifo ++ [v]⟩, v, true) := by unfold devDo; (repeat' split) <;> first | rfl | (simp_all; done) | (exfalso; simp_all; omega)); rw [e]; exact ⟨(by first | rfl | (simp [List.map_set, iR]; done) | (rw [List.take_of_length_le (by simp)]; simp; done)), (by first | rfl | (simp [List.map_set, iR]; done) | (rw [List.take_of_length_le (by simp)]; simp; done))⟩)
 intro h4
 try rw [nnp] at h4
 try have h4' := En h4
 try have h4' := inB12 h4
 try have h4' := inB12n h4
 refine Eg (Eh (Ea (Ee rfl) (Ea (o_eql rfl rfl) (Ea (Ee rfl) ?_))))
 first | refine s_gDT rfl ?_ ?_ | refine s_gB rfl ?_ ?_
 intro h5
 try rw [nnp] at h5
 try have h5' := En h5
 try have h5' := inB12 h5
 try have h5' := inB12n h5
 refine Ea (Ee rfl) (Ea (Er rfl rfl) (Ea (Ee rfl) (Ez rfl (Ea (Ew rfl) (Ez rfl (Ea (Fd rfl rfl rfl) (Ez rfl ?_)))))))
 first | refine Ea (o_lenM rfl) ?_ | refine Ea (o_len rfl) ?_ | refine Ea (o_lenL rfl rfl (by simp)) ?_ | refine Ea (o_lenN rfl) ?_
 refine Ez rfl (Ea (o_lss rfl rfl) (Ea (Er rfl rfl) (Ea (Ee rfl) (Ef (Ed (Eb [1, 2, 3, 4, 8, 11, 51] rfl ?_))))))
 first | refine Eu rfl ?_ ?_ | refine Et rfl ?_ ?_
 intro h6
 try rw [nnp] at h6
 try have h6' := En h6
 try have h6' := inB12 h6
 try have h6' := inB12n h6
 refine Eh (Ea (Ew rfl) (Ea (Fd rfl rfl rfl) (Ea (Ee rfl) (Ea (o_bs rfl rfl rfl rfl) ?_))))
 first | refine Ea (o_appL rfl rfl (by simp) rfl rfl rfl rfl (by simp [roomy]; omega)) ?_ | refine Ea (o_app rfl rfl (by simp) rfl rfl (by simp [roomy]; omega)) ?_
 refine Ea (Ew rfl) (Ep (o_stC rfl rfl rfl rfl rfl rfl) (Ef (Fg (Ed (Eb [3, 8, 11] rfl (Eg (Eh (Ea (Em rfl rfl rfl) (Ea (Ee rfl) (Ep (Eo rfl rfl rfl rfl rfl rfl rfl) (Ea (Ee rfl) ?_)))))))))))
 refine Ea (Ee rfl) (Ef (Ed (Eb [8, 9, 10] rfl (Ek ?_))))
 · first | (exfalso; simp_all; done) | (refine Ec [2, 3] (.inr rfl) rfl rfl rfl rfl (show (List.range 0 ++ [2, 3]).Nodup by decide) ?_; (have e : devDo d true a v = (d, 0, false) := by unfold devDo; (repeat' split) <;> first | rfl | (simp_all; done) | (exfalso; simp_all; omega)); rw [e]; exact ⟨(by first | rfl | (simp [List.map_set, iR]; done) | (rw [List.take_of_length_le (by simp)]; simp; done)), (by first | rfl | (simp [List.map_set, iR]; done) | (rw [List.take_of_length_le (by simp)]; simp; done))⟩) | (refine Ec [2, 3] (.inr rfl) rfl rfl rfl rfl (show (List.range 0 ++ [2, 3]).Nodup by decide) ?_; (have e : devDo d true a v = (⟨d.regs.set (a.tdiv 4).toNat v, d.timer, d.fifo⟩, v, true) := by unfold devDo; (repeat' split) <;> first | rfl | (simp_all; done) | (exfalso; simp_all; omega)); rw [e]; exact ⟨(by first | rfl | (simp [List.map_set, iR]; done) | (rw [List.take_of_length_le (by simp)]; simp; done)), (by first | rfl | (simp [List.map_set, iR]; done) | (rw [List.take_of_length_le (by simp)]; simp; done))⟩) | (refine Ec [2, 3] (.inr rfl) rfl rfl rfl rfl (show (List.range 0 ++ [2, 3]).Nodup by decide) ?_; (have e : devDo d true a v = (⟨d.regs, v, d.fifo⟩, v, true) := by unfold devDo; (repeat' split) <;> first | rfl | (simp_all; done) | (exfalso; simp_all; omega)); rw [e]; exact ⟨(by first | rfl | (simp [List.map_set, iR]; done) | (rw [List.take_of_length_le (by simp)]; simp; done)), (by first | rfl | (simp [List.map_set, iR]; done) | (rw [List.take_of_length_le (by simp)]; simp; done))⟩) | (refine Ec [2, 3] (.inr rfl) rfl rfl rfl rfl (show (List.range 0 ++ [2, 3]).Nodup by decide) ?_; (have e : devDo d true a v = (⟨d.regs, d.timer, d.fifo ++ [v]⟩, v, true) := by unfold devDo; (repeat' split) <;> first | rfl | (simp_all; done) | (exfalso; simp_all; omega)); rw [e]; exact ⟨(by first | rfl | (simp [List.map_set, iR]; done) | (rw [List.take_of_length_le (by simp)]; simp; done)), (by first | rfl | (simp [List.map_set, iR]; done) | (rw [List.take_of_length_le (by simp)]; simp; done))⟩)
 intro h6
 try rw [nnp] at h6
 try have h6' := En h6
 try have h6' := inB12 h6
 try have h6' := inB12n h6
 refine Eg (Eh (Ea (Ee rfl) (Ea (o_eql rfl rfl) (Ea (Ee rfl) ?_))))
 first | refine s_gDT rfl ?_ ?_ | refine s_gB rfl ?_ ?_
 intro h7
 try rw [nnp] at h7
 try have h7' := En h7
 try have h7' := inB12 h7
 try have h7' := inB12n h7
 refine Ea (Ee rfl) (Ez rfl (Ea (o_not rfl) (Ea (Er rfl rfl) (Ea (Ee rfl) (Ei rfl (Ei rfl (Ei rfl (Ei rfl (Ea (Ej rfl rfl) (Ea (Ee rfl) (Ef ?_)))))))))))
 refine Ed (Eb [1, 2, 3, 4, 8, 11, 69] rfl (Fe rfl (Eg (Eh (Ea (Ee rfl) (Ea (o_geq rfl rfl) (Ea (Ee rfl) ?_)))))))
 first | refine s_gDF rfl ?_ ?_ | refine s_gB rfl ?_ ?_
 intro h8
 try rw [nnp] at h8
 try have h8' := En h8
 try have h8' := inB12 h8
 try have h8' := inB12n h8
 refine Ea (Ee rfl) (Ez rfl (Ea (o_lss rfl rfl) (Ea (Ej rfl rfl) (Ea (Ee rfl) ?_))))
 first | refine s_gDF rfl ?_ ?_ | refine s_gB rfl ?_ ?_
 intro h9
 try rw [nnp] at h9
 try have h9' := En h9
 try have h9' := inB12 h9
 try have h9' := inB12n h9
 refine Ea (Ee rfl) (Ez rfl ?_)
 first | refine Ea (o_rem rfl rfl (by decide)) ?_ | refine Ea (o_rem rfl rfl (by omega)) ?_
 refine Ez rfl (Ea (o_neq rfl rfl) (Ea (Ej rfl rfl) (Ea (Ee rfl) (Ef (Ed (Eb [1, 2, 3, 4, 8, 11, 91] rfl ?_))))))
 first | refine Eu rfl ?_ ?_ | refine Et rfl ?_ ?_
 intro h10
 try rw [nnp] at h10
 try have h10' := En h10
 try have h10' := inB12 h10
 try have h10' := inB12n h10
 refine Eg (Eh (Ea (Em rfl rfl rfl) (Ep (Eo rfl rfl rfl rfl rfl rfl rfl) (Ea (Ee rfl) (Ea (Ee rfl) (Ef (Ed (Eb [8, 9, 10] rfl (Ek (Ff (Ev ?_)))))))))))
 · first | (exfalso; simp_all; done) | (refine Ec [2, 3] (.inr rfl) rfl rfl rfl rfl (show (List.range 0 ++ [2, 3]).Nodup by decide) ?_; (have e : devDo d true a v = (d, 0, false) := by unfold devDo; (repeat' split) <;> first | rfl | (simp_all; done) | (exfalso; simp_all; omega)); rw [e]; exact ⟨(by first | rfl | (simp [List.map_set, iR]; done) | (rw [List.take_of_length_le (by simp)]; simp; done)), (by first | rfl | (simp [List.map_set, iR]; done) | (rw [List.take_of_length_le (by simp)]; simp; done))⟩) | (refine Ec [2, 3] (.inr rfl) rfl rfl rfl rfl (show (List.range 0 ++ [2, 3]).Nodup by decide) ?_; (have e : devDo d true a v = (⟨d.regs.set (a.tdiv 4).toNat v, d.timer, d.fifo⟩, v, true) := by unfold devDo; (repeat' split) <;> first | rfl | (simp_all; done) | (exfalso; simp_all; omega)); rw [e]; exact ⟨(by first | rfl | (simp [List.map_set, iR]; done) | (rw [List.take_of_length_le (by simp)]; simp; done)), (by first | rfl | (simp [List.map_set, iR]; done) | (rw [List.take_of_length_le (by simp)]; simp; done))⟩) | (refine Ec [2, 3] (.inr rfl) rfl rfl rfl rfl (show (List.range 0 ++ [2, 3]).Nodup by decide) ?_; (have e : devDo d true a v = (⟨d.regs, v, d.fifo⟩, v, true) := by unfold devDo; (repeat' split) <;> first | rfl | (simp_all; done) | (exfalso; simp_all; omega)); rw [e]; exact ⟨(by first | rfl | (simp [List.map_set, iR]; done) | (rw [List.take_of_length_le (by simp)]; simp; done)), (by first | rfl | (simp [List.map_set, iR]; done) | (rw [List.take_of_length_le (by simp)]; simp; done))⟩) | (refine Ec [2, 3] (.inr rfl) rfl rfl rfl rfl (show (List.range 0 ++ [2, 3]).Nodup by decide) ?_; (have e : devDo d true a v = (⟨d.regs, d.timer, d.fifo ++ [v]⟩, v, true) := by unfold devDo; (repeat' split) <;> first | rfl | (simp_all; done) | (exfalso; simp_all; omega)); rw [e]; exact ⟨(by first | rfl | (simp [List.map_set, iR]; done) | (rw [List.take_of_length_le (by simp)]; simp; done)), (by first | rfl | (simp [List.map_set, iR]; done) | (rw [List.take_of_length_le (by simp)]; simp; done))⟩)
 intro h10
 try rw [nnp] at h10
 try have h10' := En h10
 try have h10' := inB12 h10
 try have h10' := inB12n h10
 refine Eg (Eh (Ea (Ee rfl) (Ea (Ee rfl) (Ef (Ed (Eb [2, 3, 4, 8, 11, 104] rfl (Fh rfl (Eh (Ea (Ew rfl) (Ea (Fd rfl rfl rfl) (Ea (Ee rfl) ?_)))))))))))
 first | refine Ea (o_quo rfl rfl (by decide)) ?_ | refine Ea (o_quo rfl rfl (by omega)) ?_
 rw [(tdiv4 (by omega)).1]
 have hq := tdiv4 (a := a) (by omega)
 have h12 := mod4 (a := a) (by first | assumption | omega) (by omega) (by omega)
 obtain ⟨y, hy⟩ : ∃ y, d.regs[(a.tdiv 4).toNat]? = some y := ⟨_, List.getElem?_eq_getElem (by omega)⟩
 refine Ea (Ee rfl) (Ea (o_iaL rfl rfl (by simp) rfl (by (try simp only [List.length_map]); omega)) ?_)
 refine Ep (o_stA rfl rfl rfl rfl (by simp) (by rw [List.getElem?_map, hy]; rfl) rfl rfl) ?_
 refine Ef (Fg (Ed (Eb [3, 8, 11] rfl (Eg (Eh (Ea (Em rfl rfl rfl) (Ea (Ee rfl) (Ep (Eo rfl rfl rfl rfl rfl rfl rfl) (Ea (Ee rfl) (Ea (Ee rfl) (Ef ?_)))))))))))
 refine Ed (Eb [8, 9, 10] rfl (Ek ?_))
 · first | (exfalso; simp_all; done) | (refine Ec [2, 3] (.inr rfl) rfl rfl rfl rfl (show (List.range 0 ++ [2, 3]).Nodup by decide) ?_; (have e : devDo d true a v = (d, 0, false) := by unfold devDo; (repeat' split) <;> first | rfl | (simp_all; done) | (exfalso; simp_all; omega)); rw [e]; exact ⟨(by first | rfl | (simp [List.map_set, iR]; done) | (rw [List.take_of_length_le (by simp)]; simp; done)), (by first | rfl | (simp [List.map_set, iR]; done) | (rw [List.take_of_length_le (by simp)]; simp; done))⟩) | (refine Ec [2, 3] (.inr rfl) rfl rfl rfl rfl (show (List.range 0 ++ [2, 3]).Nodup by decide) ?_; (have e : devDo d true a v = (⟨d.regs.set (a.tdiv 4).toNat v, d.timer, d.fifo⟩, v, true) := by unfold devDo; (repeat' split) <;> first | rfl | (simp_all; done) | (exfalso; simp_all; omega)); rw [e]; exact ⟨(by first | rfl | (simp [List.map_set, iR]; done) | (rw [List.take_of_length_le (by simp)]; simp; done)), (by first | rfl | (simp [List.map_set, iR]; done) | (rw [List.take_of_length_le (by simp)]; simp; done))⟩) | (refine Ec [2, 3] (.inr rfl) rfl rfl rfl rfl (show (List.range 0 ++ [2, 3]).Nodup by decide) ?_; (have e : devDo d true a v = (⟨d.regs, v, d.fifo⟩, v, true) := by unfold devDo; (repeat' split) <;> first | rfl | (simp_all; done) | (exfalso; simp_all; omega)); rw [e]; exact ⟨(by first | rfl | (simp [List.map_set, iR]; done) | (rw [List.take_of_length_le (by simp)]; simp; done)), (by first | rfl | (simp [List.map_set, iR]; done) | (rw [List.take_of_length_le (by simp)]; simp; done))⟩) | (refine Ec [2, 3] (.inr rfl) rfl rfl rfl rfl (show (List.range 0 ++ [2, 3]).Nodup by decide) ?_; (have e : devDo d true a v = (⟨d.regs, d.timer, d.fifo ++ [v]⟩, v, true) := by unfold devDo; (repeat' split) <;> first | rfl | (simp_all; done) | (exfalso; simp_all; omega)); rw [e]; exact ⟨(by first | rfl | (simp [List.map_set, iR]; done) | (rw [List.take_of_length_le (by simp)]; simp; done)), (by first | rfl | (simp [List.map_set, iR]; done) | (rw [List.take_of_length_le (by simp)]; simp; done))⟩)
 intro h9
 try rw [nnp] at h9
 try have h9' := En h9
 try have h9' := inB12 h9
 try have h9' := inB12n h9
 refine Ei rfl (Ei rfl (Ei rfl (Ea (Er rfl rfl) (Ea (Ee rfl) (Ef (Ed (Eb [1, 2, 3, 4, 8, 11, 91] rfl (Fh rfl (Eg (Eh (Ea (Em rfl rfl rfl) ?_)))))))))))
 refine Ep (Eo rfl rfl rfl rfl rfl rfl rfl) (Ea (Ee rfl) (Ea (Ee rfl) (Ef (Ed (Eb [8, 9, 10] rfl (Ek (Ff (Ev ?_))))))))
 · first | (exfalso; simp_all; done) | (refine Ec [2, 3] (.inr rfl) rfl rfl rfl rfl (show (List.range 0 ++ [2, 3]).Nodup by decide) ?_; (have e : devDo d true a v = (d, 0, false) := by unfold devDo; (repeat' split) <;> first | rfl | (simp_all; done) | (exfalso; simp_all; omega)); rw [e]; exact ⟨(by first | rfl | (simp [List.map_set, iR]; done) | (rw [List.take_of_length_le (by simp)]; simp; done)), (by first | rfl | (simp [List.map_set, iR]; done) | (rw [List.take_of_length_le (by simp)]; simp; done))⟩) | (refine Ec [2, 3] (.inr rfl) rfl rfl rfl rfl (show (List.range 0 ++ [2, 3]).Nodup by decide) ?_; (have e : devDo d true a v = (⟨d.regs.set (a.tdiv 4).toNat v, d.timer, d.fifo⟩, v, true) := by unfold devDo; (repeat' split) <;> first | rfl | (simp_all; done) | (exfalso; simp_all; omega)); rw [e]; exact ⟨(by first | rfl | (simp [List.map_set, iR]; done) | (rw [List.take_of_length_le (by simp)]; simp; done)), (by first | rfl | (simp [List.map_set, iR]; done) | (rw [List.take_of_length_le (by simp)]; simp; done))⟩) | (refine Ec [2, 3] (.inr rfl) rfl rfl rfl rfl (show (List.range 0 ++ [2, 3]).Nodup by decide) ?_; (have e : devDo d true a v = (⟨d.regs, v, d.fifo⟩, v, true) := by unfold devDo; (repeat' split) <;> first | rfl | (simp_all; done) | (exfalso; simp_all; omega)); rw [e]; exact ⟨(by first | rfl | (simp [List.map_set, iR]; done) | (rw [List.take_of_length_le (by simp)]; simp; done)), (by first | rfl | (simp [List.map_set, iR]; done) | (rw [List.take_of_length_le (by simp)]; simp; done))⟩) | (refine Ec [2, 3] (.inr rfl) rfl rfl rfl rfl (show (List.range 0 ++ [2, 3]).Nodup by decide) ?_; (have e : devDo d true a v = (⟨d.regs, d.timer, d.fifo ++ [v]⟩, v, true) := by unfold devDo; (repeat' split) <;> first | rfl | (simp_all; done) | (exfalso; simp_all; omega)); rw [e]; exact ⟨(by first | rfl | (simp [List.map_set, iR]; done) | (rw [List.take_of_length_le (by simp)]; simp; done)), (by first | rfl | (simp [List.map_set, iR]; done) | (rw [List.take_of_length_le (by simp)]; simp; done))⟩)
 intro h8
 try rw [nnp] at h8
 try have h8' := En h8
 try have h8' := inB12 h8
 try have h8' := inB12n h8
 refine Ei rfl (Ei rfl (Ea (Er rfl rfl) (Ea (Ee rfl) (Ei rfl (Ei rfl (Ei rfl (Ea (Er rfl rfl) (Ea (Ee rfl) (Ef (Ed (Eb [1, 2, 3, 4, 8, 11, 91] rfl ?_)))))))))))
 refine Fh rfl (Eg (Eh (Ea (Em rfl rfl rfl) (Ep (Eo rfl rfl rfl rfl rfl rfl rfl) (Ea (Ee rfl) (Ea (Ee rfl) (Ef (Ed (Eb [8, 9, 10] rfl (Ek (Ff ?_)))))))))))
 refine Ev ?_
 · first | (exfalso; simp_all; done) | (refine Ec [2, 3] (.inr rfl) rfl rfl rfl rfl (show (List.range 0 ++ [2, 3]).Nodup by decide) ?_; (have e : devDo d true a v = (d, 0, false) := by unfold devDo; (repeat' split) <;> first | rfl | (simp_all; done) | (exfalso; simp_all; omega)); rw [e]; exact ⟨(by first | rfl | (simp [List.map_set, iR]; done) | (rw [List.take_of_length_le (by simp)]; simp; done)), (by first | rfl | (simp [List.map_set, iR]; done) | (rw [List.take_of_length_le (by simp)]; simp; done))⟩) | (refine Ec [2, 3] (.inr rfl) rfl rfl rfl rfl (show (List.range 0 ++ [2, 3]).Nodup by decide) ?_; (have e : devDo d true a v = (⟨d.regs.set (a.tdiv 4).toNat v, d.timer, d.fifo⟩, v, true) := by unfold devDo; (repeat' split) <;> first | rfl | (simp_all; done) | (exfalso; simp_all; omega)); rw [e]; exact ⟨(by first | rfl | (simp [List.map_set, iR]; done) | (rw [List.take_of_length_le (by simp)]; simp; done)), (by first | rfl | (simp [List.map_set, iR]; done) | (rw [List.take_of_length_le (by simp)]; simp; done))⟩) | (refine Ec [2, 3] (.inr rfl) rfl rfl rfl rfl (show (List.range 0 ++ [2, 3]).Nodup by decide) ?_; (have e : devDo d true a v = (⟨d.regs, v, d.fifo⟩, v, true) := by unfold devDo; (repeat' split) <;> first | rfl | (simp_all; done) | (exfalso; simp_all; omega)); rw [e]; exact ⟨(by first | rfl | (simp [List.map_set, iR]; done) | (rw [List.take_of_length_le (by simp)]; simp; done)), (by first | rfl | (simp [List.map_set, iR]; done) | (rw [List.take_of_length_le (by simp)]; simp; done))⟩) | (refine Ec [2, 3] (.inr rfl) rfl rfl rfl rfl (show (List.range 0 ++ [2, 3]).Nodup by decide) ?_; (have e : devDo d true a v = (⟨d.regs, d.timer, d.fifo ++ [v]⟩, v, true) := by unfold devDo; (repeat' split) <;> first | rfl | (simp_all; done) | (exfalso; simp_all; omega)); rw [e]; exact ⟨(by first | rfl | (simp [List.map_set, iR]; done) | (rw [List.take_of_length_le (by simp)]; simp; done)), (by first | rfl | (simp [List.map_set, iR]; done) | (rw [List.take_of_length_le (by simp)]; simp; done))⟩)
 intro h7
 try rw [nnp] at h7
 try have h7' := En h7
 try have h7' := inB12 h7
 try have h7' := inB12n h7
 refine Ei rfl (Ei rfl (Ea (Ej rfl rfl) (Ea (Ee rfl) (Ei rfl (Ei rfl (Ei rfl (Ei rfl (Ea (Ej rfl rfl) (Ea (Ee rfl) (Ef (Ed ?_)))))))))))
 refine Eb [1, 2, 3, 4, 8, 11, 69] rfl (Fe rfl (Eg (Eh (Ea (Ee rfl) (Ea (o_geq rfl rfl) (Ea (Ee rfl) ?_))))))
 first | refine s_gDF rfl ?_ ?_ | refine s_gB rfl ?_ ?_
 intro h12
 try rw [nnp] at h12
 try have h12' := En h12
 try have h12' := inB12 h12
 try have h12' := inB12n h12
 refine Ea (Ee rfl) (Ez rfl (Ea (o_lss rfl rfl) (Ea (Ej rfl rfl) (Ea (Ee rfl) ?_))))
 first | refine s_gDF rfl ?_ ?_ | refine s_gB rfl ?_ ?_
 intro h13
 try rw [nnp] at h13
 try have h13' := En h13
 try have h13' := inB12 h13
 try have h13' := inB12n h13
 refine Ea (Ee rfl) (Ez rfl ?_)
 first | refine Ea (o_rem rfl rfl (by decide)) ?_ | refine Ea (o_rem rfl rfl (by omega)) ?_
 refine Ez rfl (Ea (o_neq rfl rfl) (Ea (Ej rfl rfl) (Ea (Ee rfl) (Ef (Ed (Eb [1, 2, 3, 4, 8, 11, 91] rfl ?_))))))
 first | refine Eu rfl ?_ ?_ | refine Et rfl ?_ ?_
 intro h14
 try rw [nnp] at h14
 try have h14' := En h14
 try have h14' := inB12 h14
 try have h14' := inB12n h14
 refine Eg (Eh (Ea (Em rfl rfl rfl) (Ep (Eo rfl rfl rfl rfl rfl rfl rfl) (Ea (Ee rfl) (Ea (Ee rfl) (Ef (Ed (Eb [8, 9, 10] rfl (Ek (Ff (Ev ?_)))))))))))
 · first | (exfalso; simp_all; done) | (refine Ec [2, 3] (.inr rfl) rfl rfl rfl rfl (show (List.range 0 ++ [2, 3]).Nodup by decide) ?_; (have e : devDo d true a v = (d, 0, false) := by unfold devDo; (repeat' split) <;> first | rfl | (simp_all; done) | (exfalso; simp_all; omega)); rw [e]; exact ⟨(by first | rfl | (simp [List.map_set, iR]; done) | (rw [List.take_of_length_le (by simp)]; simp; done)), (by first | rfl | (simp [List.map_set, iR]; done) | (rw [List.take_of_length_le (by simp)]; simp; done))⟩) | (refine Ec [2, 3] (.inr rfl) rfl rfl rfl rfl (show (List.range 0 ++ [2, 3]).Nodup by decide) ?_; (have e : devDo d true a v = (⟨d.regs.set (a.tdiv 4).toNat v, d.timer, d.fifo⟩, v, true) := by unfold devDo; (repeat' split) <;> first | rfl | (simp_all; done) | (exfalso; simp_all; omega)); rw [e]; exact ⟨(by first | rfl | (simp [List.map_set, iR]; done) | (rw [List.take_of_length_le (by simp)]; simp; done)), (by first | rfl | (simp [List.map_set, iR]; done) | (rw [List.take_of_length_le (by simp)]; simp; done))⟩) | (refine Ec [2, 3] (.inr rfl) rfl rfl rfl rfl (show (List.range 0 ++ [2, 3]).Nodup by decide) ?_; (have e : devDo d true a v = (⟨d.regs, v, d.fifo⟩, v, true) := by unfold devDo; (repeat' split) <;> first | rfl | (simp_all; done) | (exfalso; simp_all; omega)); rw [e]; exact ⟨(by first | rfl | (simp [List.map_set, iR]; done) | (rw [List.take_of_length_le (by simp)]; simp; done)), (by first | rfl | (simp [List.map_set, iR]; done) | (rw [List.take_of_length_le (by simp)]; simp; done))⟩) | (refine Ec [2, 3] (.inr rfl) rfl rfl rfl rfl (show (List.range 0 ++ [2, 3]).Nodup by decide) ?_; (have e : devDo d true a v = (⟨d.regs, d.timer, d.fifo ++ [v]⟩, v, true) := by unfold devDo; (repeat' split) <;> first | rfl | (simp_all; done) | (exfalso; simp_all; omega)); rw [e]; exact ⟨(by first | rfl | (simp [List.map_set, iR]; done) | (rw [List.take_of_length_le (by simp)]; simp; done)), (by first | rfl | (simp [List.map_set, iR]; done) | (rw [List.take_of_length_le (by simp)]; simp; done))⟩)
 intro h14
 try rw [nnp] at h14
 try have h14' := En h14
 try have h14' := inB12 h14
 try have h14' := inB12n h14
 refine Eg (Eh (Ea (Ee rfl) (Ea (Ee rfl) (Ef (Ed (Eb [2, 3, 4, 8, 11, 104] rfl (Fh rfl (Eh (Ea (Ew rfl) (Ea (Fd rfl rfl rfl) (Ea (Ee rfl) ?_)))))))))))
 first | refine Ea (o_quo rfl rfl (by decide)) ?_ | refine Ea (o_quo rfl rfl (by omega)) ?_
 rw [(tdiv4 (by omega)).1]
 have hq := tdiv4 (a := a) (by omega)
 have h12 := mod4 (a := a) (by first | assumption | omega) (by omega) (by omega)
 obtain ⟨y, hy⟩ : ∃ y, d.regs[(a.tdiv 4).toNat]? = some y := ⟨_, List.getElem?_eq_getElem (by omega)⟩
 refine Ea (Ee rfl) (Ea (o_iaL rfl rfl (by simp) rfl (by (try simp only [List.length_map]); omega)) ?_)
 refine Ep (o_stA rfl rfl rfl rfl (by simp) (by rw [List.getElem?_map, hy]; rfl) rfl rfl) ?_
 refine Ef (Fg (Ed (Eb [3, 8, 11] rfl (Eg (Eh (Ea (Em rfl rfl rfl) (Ea (Ee rfl) (Ep (Eo rfl rfl rfl rfl rfl rfl rfl) (Ea (Ee rfl) (Ea (Ee rfl) (Ef ?_)))))))))))
 refine Ed (Eb [8, 9, 10] rfl (Ek ?_))
 · first | (exfalso; simp_all; done) | (refine Ec [2, 3] (.inr rfl) rfl rfl rfl rfl (show (List.range 0 ++ [2, 3]).Nodup by decide) ?_; (have e : devDo d true a v = (d, 0, false) := by unfold devDo; (repeat' split) <;> first | rfl | (simp_all; done) | (exfalso; simp_all; omega)); rw [e]; exact ⟨(by first | rfl | (simp [List.map_set, iR]; done) | (rw [List.take_of_length_le (by simp)]; simp; done)), (by first | rfl | (simp [List.map_set, iR]; done) | (rw [List.take_of_length_le (by simp)]; simp; done))⟩) | (refine Ec [2, 3] (.inr rfl) rfl rfl rfl rfl (show (List.range 0 ++ [2, 3]).Nodup by decide) ?_; (have e : devDo d true a v = (⟨d.regs.set (a.tdiv 4).toNat v, d.timer, d.fifo⟩, v, true) := by unfold devDo; (repeat' split) <;> first | rfl | (simp_all; done) | (exfalso; simp_all; omega)); rw [e]; exact ⟨(by first | rfl | (simp [List.map_set, iR]; done) | (rw [List.take_of_length_le (by simp)]; simp; done)), (by first | rfl | (simp [List.map_set, iR]; done) | (rw [List.take_of_length_le (by simp)]; simp; done))⟩) | (refine Ec [2, 3] (.inr rfl) rfl rfl rfl rfl (show (List.range 0 ++ [2, 3]).Nodup by decide) ?_; (have e : devDo d true a v = (⟨d.regs, v, d.fifo⟩, v, true) := by unfold devDo; (repeat' split) <;> first | rfl | (simp_all; done) | (exfalso; simp_all; omega)); rw [e]; exact ⟨(by first | rfl | (simp [List.map_set, iR]; done) | (rw [List.take_of_length_le (by simp)]; simp; done)), (by first | rfl | (simp [List.map_set, iR]; done) | (rw [List.take_of_length_le (by simp)]; simp; done))⟩) | (refine Ec [2, 3] (.inr rfl) rfl rfl rfl rfl (show (List.range 0 ++ [2, 3]).Nodup by decide) ?_; (have e : devDo d true a v = (⟨d.regs, d.timer, d.fifo ++ [v]⟩, v, true) := by unfold devDo; (repeat' split) <;> first | rfl | (simp_all; done) | (exfalso; simp_all; omega)); rw [e]; exact ⟨(by first | rfl | (simp [List.map_set, iR]; done) | (rw [List.take_of_length_le (by simp)]; simp; done)), (by first | rfl | (simp [List.map_set, iR]; done) | (rw [List.take_of_length_le (by simp)]; simp; done))⟩)
 intro h13
 try rw [nnp] at h13
 try have h13' := En h13
 try have h13' := inB12 h13
 try have h13' := inB12n h13
 refine Ei rfl (Ei rfl (Ei rfl (Ea (Er rfl rfl) (Ea (Ee rfl) (Ef (Ed (Eb [1, 2, 3, 4, 8, 11, 91] rfl (Fh rfl (Eg (Eh (Ea (Em rfl rfl rfl) ?_)))))))))))
 refine Ep (Eo rfl rfl rfl rfl rfl rfl rfl) (Ea (Ee rfl) (Ea (Ee rfl) (Ef (Ed (Eb [8, 9, 10] rfl (Ek (Ff (Ev ?_))))))))
 · first | (exfalso; simp_all; done) | (refine Ec [2, 3] (.inr rfl) rfl rfl rfl rfl (show (List.range 0 ++ [2, 3]).Nodup by decide) ?_; (have e : devDo d true a v = (d, 0, false) := by unfold devDo; (repeat' split) <;> first | rfl | (simp_all; done) | (exfalso; simp_all; omega)); rw [e]; exact ⟨(by first | rfl | (simp [List.map_set, iR]; done) | (rw [List.take_of_length_le (by simp)]; simp; done)), (by first | rfl | (simp [List.map_set, iR]; done) | (rw [List.take_of_length_le (by simp)]; simp; done))⟩) | (refine Ec [2, 3] (.inr rfl) rfl rfl rfl rfl (show (List.range 0 ++ [2, 3]).Nodup by decide) ?_; (have e : devDo d true a v = (⟨d.regs.set (a.tdiv 4).toNat v, d.timer, d.fifo⟩, v, true) := by unfold devDo; (repeat' split) <;> first | rfl | (simp_all; done) | (exfalso; simp_all; omega)); rw [e]; exact ⟨(by first | rfl | (simp [List.map_set, iR]; done) | (rw [List.take_of_length_le (by simp)]; simp; done)), (by first | rfl | (simp [List.map_set, iR]; done) | (rw [List.take_of_length_le (by simp)]; simp; done))⟩) | (refine Ec [2, 3] (.inr rfl) rfl rfl rfl rfl (show (List.range 0 ++ [2, 3]).Nodup by decide) ?_; (have e : devDo d true a v = (⟨d.regs, v, d.fifo⟩, v, true) := by unfold devDo; (repeat' split) <;> first | rfl | (simp_all; done) | (exfalso; simp_all; omega)); rw [e]; exact ⟨(by first | rfl | (simp [List.map_set, iR]; done) | (rw [List.take_of_length_le (by simp)]; simp; done)), (by first | rfl | (simp [List.map_set, iR]; done) | (rw [List.take_of_length_le (by simp)]; simp; done))⟩) | (refine Ec [2, 3] (.inr rfl) rfl rfl rfl rfl (show (List.range 0 ++ [2, 3]).Nodup by decide) ?_; (have e : devDo d true a v = (⟨d.regs, d.timer, d.fifo ++ [v]⟩, v, true) := by unfold devDo; (repeat' split) <;> first | rfl | (simp_all; done) | (exfalso; simp_all; omega)); rw [e]; exact ⟨(by first | rfl | (simp [List.map_set, iR]; done) | (rw [List.take_of_length_le (by simp)]; simp; done)), (by first | rfl | (simp [List.map_set, iR]; done) | (rw [List.take_of_length_le (by simp)]; simp; done))⟩)
 intro h12
 try rw [nnp] at h12
 try have h12' := En h12
 try have h12' := inB12 h12
 try have h12' := inB12n h12
 refine Ei rfl (Ei rfl (Ea (Er rfl rfl) (Ea (Ee rfl) (Ei rfl (Ei rfl (Ei rfl (Ea (Er rfl rfl) (Ea (Ee rfl) (Ef (Ed (Eb [1, 2, 3, 4, 8, 11, 91] rfl ?_)))))))))))
 refine Fh rfl (Eg (Eh (Ea (Em rfl rfl rfl) (Ep (Eo rfl rfl rfl rfl rfl rfl rfl) (Ea (Ee rfl) (Ea (Ee rfl) (Ef (Ed (Eb [8, 9, 10] rfl (Ek (Ff ?_)))))))))))
 refine Ev ?_
 · first | (exfalso; simp_all; done) | (refine Ec [2, 3] (.inr rfl) rfl rfl rfl rfl (show (List.range 0 ++ [2, 3]).Nodup by decide) ?_; (have e : devDo d true a v = (d, 0, false) := by unfold devDo; (repeat' split) <;> first | rfl | (simp_all; done) | (exfalso; simp_all; omega)); rw [e]; exact ⟨(by first | rfl | (simp [List.map_set, iR]; done) | (rw [List.take_of_length_le (by simp)]; simp; done)), (by first | rfl | (simp [List.map_set, iR]; done) | (rw [List.take_of_length_le (by simp)]; simp; done))⟩) | (refine Ec [2, 3] (.inr rfl) rfl rfl rfl rfl (show (List.range 0 ++ [2, 3]).Nodup by decide) ?_; (have e : devDo d true a v = (⟨d.regs.set (a.tdiv 4).toNat v, d.timer, d.fifo⟩, v, true) := by unfold devDo; (repeat' split) <;> first | rfl | (simp_all; done) | (exfalso; simp_all; omega)); rw [e]; exact ⟨(by first | rfl | (simp [List.map_set, iR]; done) | (rw [List.take_of_length_le (by simp)]; simp; done)), (by first | rfl | (simp [List.map_set, iR]; done) | (rw [List.take_of_length_le (by simp)]; simp; done))⟩) | (refine Ec [2, 3] (.inr rfl) rfl rfl rfl rfl (show (List.range 0 ++ [2, 3]).Nodup by decide) ?_; (have e : devDo d true a v = (⟨d.regs, v, d.fifo⟩, v, true) := by unfold devDo; (repeat' split) <;> first | rfl | (simp_all; done) | (exfalso; simp_all; omega)); rw [e]; exact ⟨(by first | rfl | (simp [List.map_set, iR]; done) | (rw [List.take_of_length_le (by simp)]; simp; done)), (by first | rfl | (simp [List.map_set, iR]; done) | (rw [List.take_of_length_le (by simp)]; simp; done))⟩) | (refine Ec [2, 3] (.inr rfl) rfl rfl rfl rfl (show (List.range 0 ++ [2, 3]).Nodup by decide) ?_; (have e : devDo d true a v = (⟨d.regs, d.timer, d.fifo ++ [v]⟩, v, true) := by unfold devDo; (repeat' split) <;> first | rfl | (simp_all; done) | (exfalso; simp_all; omega)); rw [e]; exact ⟨(by first | rfl | (simp [List.map_set, iR]; done) | (rw [List.take_of_length_le (by simp)]; simp; done)), (by first | rfl | (simp [List.map_set, iR]; done) | (rw [List.take_of_length_le (by simp)]; simp; done))⟩)
 intro h5
 try rw [nnp] at h5
 try have h5' := En h5
 try have h5' := inB12 h5
 try have h5' := inB12n h5
 refine Ei rfl (Ea (Ej rfl rfl) (Ea (Ee rfl) (Ei rfl (Ei rfl (Ei rfl (Ei rfl (Ea (Ej rfl rfl) (Ea (Ee rfl) (Ef (Ed (Eb [1, 2, 3, 4, 8, 11, 51] rfl ?_)))))))))))
 refine Fe rfl (Eg (Eh (Ea (Ee rfl) (Ea (o_eql rfl rfl) (Ea (Ee rfl) ?_)))))
 first | refine s_gDT rfl ?_ ?_ | refine s_gB rfl ?_ ?_
 intro h16
 try rw [nnp] at h16
 try have h16' := En h16
 try have h16' := inB12 h16
 try have h16' := inB12n h16
 refine Ea (Ee rfl) (Ez rfl (Ea (o_not rfl) (Ea (Er rfl rfl) (Ea (Ee rfl) (Ei rfl (Ei rfl (Ei rfl (Ei rfl (Ea (Ej rfl rfl) (Ea (Ee rfl) (Ef ?_)))))))))))
 refine Ed (Eb [1, 2, 3, 4, 8, 11, 69] rfl (Fe rfl (Eg (Eh (Ea (Ee rfl) (Ea (o_geq rfl rfl) (Ea (Ee rfl) ?_)))))))
 first | refine s_gDF rfl ?_ ?_ | refine s_gB rfl ?_ ?_
 intro h17
 try rw [nnp] at h17
 try have h17' := En h17
 try have h17' := inB12 h17
 try have h17' := inB12n h17
 refine Ea (Ee rfl) (Ez rfl (Ea (o_lss rfl rfl) (Ea (Ej rfl rfl) (Ea (Ee rfl) ?_))))
 first | refine s_gDF rfl ?_ ?_ | refine s_gB rfl ?_ ?_
 intro h18
 try rw [nnp] at h18
 try have h18' := En h18
 try have h18' := inB12 h18
 try have h18' := inB12n h18
 refine Ea (Ee rfl) (Ez rfl ?_)
 first | refine Ea (o_rem rfl rfl (by decide)) ?_ | refine Ea (o_rem rfl rfl (by omega)) ?_
 refine Ez rfl (Ea (o_neq rfl rfl) (Ea (Ej rfl rfl) (Ea (Ee rfl) (Ef (Ed (Eb [1, 2, 3, 4, 8, 11, 91] rfl ?_))))))
 first | refine Eu rfl ?_ ?_ | refine Et rfl ?_ ?_
 intro h19
 try rw [nnp] at h19
 try have h19' := En h19
 try have h19' := inB12 h19
 try have h19' := inB12n h19
 refine Eg (Eh (Ea (Em rfl rfl rfl) (Ep (Eo rfl rfl rfl rfl rfl rfl rfl) (Ea (Ee rfl) (Ea (Ee rfl) (Ef (Ed (Eb [8, 9, 10] rfl (Ek (Ff (Ev ?_)))))))))))
 · first | (exfalso; simp_all; done) | (refine Ec [2, 3] (.inr rfl) rfl rfl rfl rfl (show (List.range 0 ++ [2, 3]).Nodup by decide) ?_; (have e : devDo d true a v = (d, 0, false) := by unfold devDo; (repeat' split) <;> first | rfl | (simp_all; done) | (exfalso; simp_all; omega)); rw [e]; exact ⟨(by first | rfl | (simp [List.map_set, iR]; done) | (rw [List.take_of_length_le (by simp)]; simp; done)), (by first | rfl | (simp [List.map_set, iR]; done) | (rw [List.take_of_length_le (by simp)]; simp; done))⟩) | (refine Ec [2, 3] (.inr rfl) rfl rfl rfl rfl (show (List.range 0 ++ [2, 3]).Nodup by decide) ?_; (have e : devDo d true a v = (⟨d.regs.set (a.tdiv 4).toNat v, d.timer, d.fifo⟩, v, true) := by unfold devDo; (repeat' split) <;> first | rfl | (simp_all; done) | (exfalso; simp_all; omega)); rw [e]; exact ⟨(by first | rfl | (simp [List.map_set, iR]; done) | (rw [List.take_of_length_le (by simp)]; simp; done)), (by first | rfl | (simp [List.map_set, iR]; done) | (rw [List.take_of_length_le (by simp)]; simp; done))⟩) | (refine Ec [2, 3] (.inr rfl) rfl rfl rfl rfl (show (List.range 0 ++ [2, 3]).Nodup by decide) ?_; (have e : devDo d true a v = (⟨d.regs, v, d.fifo⟩, v, true) := by unfold devDo; (repeat' split) <;> first | rfl | (simp_all; done) | (exfalso; simp_all; omega)); rw [e]; exact ⟨(by first | rfl | (simp [List.map_set, iR]; done) | (rw [List.take_of_length_le (by simp)]; simp; done)), (by first | rfl | (simp [List.map_set, iR]; done) | (rw [List.take_of_length_le (by simp)]; simp; done))⟩) | (refine Ec [2, 3] (.inr rfl) rfl rfl rfl rfl (show (List.range 0 ++ [2, 3]).Nodup by decide) ?_; (have e : devDo d true a v = (⟨d.regs, d.timer, d.fifo ++ [v]⟩, v, true) := by unfold devDo; (repeat' split) <;> first | rfl | (simp_all; done) | (exfalso; simp_all; omega)); rw [e]; exact ⟨(by first | rfl | (simp [List.map_set, iR]; done) | (rw [List.take_of_length_le (by simp)]; simp; done)), (by first | rfl | (simp [List.map_set, iR]; done) | (rw [List.take_of_length_le (by simp)]; simp; done))⟩)
 intro h19
 try rw [nnp] at h19
 try have h19' := En h19
 try have h19' := inB12 h19
 try have h19' := inB12n h19
 refine Eg (Eh (Ea (Ee rfl) (Ea (Ee rfl) (Ef (Ed (Eb [2, 3, 4, 8, 11, 104] rfl (Fh rfl (Eh (Ea (Ew rfl) (Ea (Fd rfl rfl rfl) (Ea (Ee rfl) ?_)))))))))))
 first | refine Ea (o_quo rfl rfl (by decide)) ?_ | refine Ea (o_quo rfl rfl (by omega)) ?_
 rw [(tdiv4 (by omega)).1]
 have hq := tdiv4 (a := a) (by omega)
 have h12 := mod4 (a := a) (by first | assumption | omega) (by omega) (by omega)
 obtain ⟨y, hy⟩ : ∃ y, d.regs[(a.tdiv 4).toNat]? = some y := ⟨_, List.getElem?_eq_getElem (by omega)⟩
 refine Ea (Ee rfl) (Ea (o_iaL rfl rfl (by simp) rfl (by (try simp only [List.length_map]); omega)) ?_)
 refine Ep (o_stA rfl rfl rfl rfl (by simp) (by rw [List.getElem?_map, hy]; rfl) rfl rfl) ?_
 refine Ef (Fg (Ed (Eb [3, 8, 11] rfl (Eg (Eh (Ea (Em rfl rfl rfl) (Ea (Ee rfl) (Ep (Eo rfl rfl rfl rfl rfl rfl rfl) (Ea (Ee rfl) (Ea (Ee rfl) (Ef ?_)))))))))))
 refine Ed (Eb [8, 9, 10] rfl (Ek ?_))
 · first | (exfalso; simp_all; done) | (refine Ec [2, 3] (.inr rfl) rfl rfl rfl rfl (show (List.range 0 ++ [2, 3]).Nodup by decide) ?_; (have e : devDo d true a v = (d, 0, false) := by unfold devDo; (repeat' split) <;> first | rfl | (simp_all; done) | (exfalso; simp_all; omega)); rw [e]; exact ⟨(by first | rfl | (simp [List.map_set, iR]; done) | (rw [List.take_of_length_le (by simp)]; simp; done)), (by first | rfl | (simp [List.map_set, iR]; done) | (rw [List.take_of_length_le (by simp)]; simp; done))⟩) | (refine Ec [2, 3] (.inr rfl) rfl rfl rfl rfl (show (List.range 0 ++ [2, 3]).Nodup by decide) ?_; (have e : devDo d true a v = (⟨d.regs.set (a.tdiv 4).toNat v, d.timer, d.fifo⟩, v, true) := by unfold devDo; (repeat' split) <;> first | rfl | (simp_all; done) | (exfalso; simp_all; omega)); rw [e]; exact ⟨(by first | rfl | (simp [List.map_set, iR]; done) | (rw [List.take_of_length_le (by simp)]; simp; done)), (by first | rfl | (simp [List.map_set, iR]; done) | (rw [List.take_of_length_le (by simp)]; simp; done))⟩) | (refine Ec [2, 3] (.inr rfl) rfl rfl rfl rfl (show (List.range 0 ++ [2, 3]).Nodup by decide) ?_; (have e : devDo d true a v = (⟨d.regs, v, d.fifo⟩, v, true) := by unfold devDo; (repeat' split) <;> first | rfl | (simp_all; done) | (exfalso; simp_all; omega)); rw [e]; exact ⟨(by first | rfl | (simp [List.map_set, iR]; done) | (rw [List.take_of_length_le (by simp)]; simp; done)), (by first | rfl | (simp [List.map_set, iR]; done) | (rw [List.take_of_length_le (by simp)]; simp; done))⟩) | (refine Ec [2, 3] (.inr rfl) rfl rfl rfl rfl (show (List.range 0 ++ [2, 3]).Nodup by decide) ?_; (have e : devDo d true a v = (⟨d.regs, d.timer, d.fifo ++ [v]⟩, v, true) := by unfold devDo; (repeat' split) <;> first | rfl | (simp_all; done) | (exfalso; simp_all; omega)); rw [e]; exact ⟨(by first | rfl | (simp [List.map_set, iR]; done) | (rw [List.take_of_length_le (by simp)]; simp; done)), (by first | rfl | (simp [List.map_set, iR]; done) | (rw [List.take_of_length_le (by simp)]; simp; done))⟩)
 intro h18
 try rw [nnp] at h18
 try have h18' := En h18
 try have h18' := inB12 h18
 try have h18' := inB12n h18
 refine Ei rfl (Ei rfl (Ei rfl (Ea (Er rfl rfl) (Ea (Ee rfl) (Ef (Ed (Eb [1, 2, 3, 4, 8, 11, 91] rfl (Fh rfl (Eg (Eh (Ea (Em rfl rfl rfl) ?_)))))))))))
 refine Ep (Eo rfl rfl rfl rfl rfl rfl rfl) (Ea (Ee rfl) (Ea (Ee rfl) (Ef (Ed (Eb [8, 9, 10] rfl (Ek (Ff (Ev ?_))))))))
 · first | (exfalso; simp_all; done) | (refine Ec [2, 3] (.inr rfl) rfl rfl rfl rfl (show (List.range 0 ++ [2, 3]).Nodup by decide) ?_; (have e : devDo d true a v = (d, 0, false) := by unfold devDo; (repeat' split) <;> first | rfl | (simp_all; done) | (exfalso; simp_all; omega)); rw [e]; exact ⟨(by first | rfl | (simp [List.map_set, iR]; done) | (rw [List.take_of_length_le (by simp)]; simp; done)), (by first | rfl | (simp [List.map_set, iR]; done) | (rw [List.take_of_length_le (by simp)]; simp; done))⟩) | (refine Ec [2, 3] (.inr rfl) rfl rfl rfl rfl (show (List.range 0 ++ [2, 3]).Nodup by decide) ?_; (have e : devDo d true a v = (⟨d.regs.set (a.tdiv 4).toNat v, d.timer, d.fifo⟩, v, true) := by unfold devDo; (repeat' split) <;> first | rfl | (simp_all; done) | (exfalso; simp_all; omega)); rw [e]; exact ⟨(by first | rfl | (simp [List.map_set, iR]; done) | (rw [List.take_of_length_le (by simp)]; simp; done)), (by first | rfl | (simp [List.map_set, iR]; done) | (rw [List.take_of_length_le (by simp)]; simp; done))⟩) | (refine Ec [2, 3] (.inr rfl) rfl rfl rfl rfl (show (List.range 0 ++ [2, 3]).Nodup by decide) ?_; (have e : devDo d true a v = (⟨d.regs, v, d.fifo⟩, v, true) := by unfold devDo; (repeat' split) <;> first | rfl | (simp_all; done) | (exfalso; simp_all; omega)); rw [e]; exact ⟨(by first | rfl | (simp [List.map_set, iR]; done) | (rw [List.take_of_length_le (by simp)]; simp; done)), (by first | rfl | (simp [List.map_set, iR]; done) | (rw [List.take_of_length_le (by simp)]; simp; done))⟩) | (refine Ec [2, 3] (.inr rfl) rfl rfl rfl rfl (show (List.range 0 ++ [2, 3]).Nodup by decide) ?_; (have e : devDo d true a v = (⟨d.regs, d.timer, d.fifo ++ [v]⟩, v, true) := by unfold devDo; (repeat' split) <;> first | rfl | (simp_all; done) | (exfalso; simp_all; omega)); rw [e]; exact ⟨(by first | rfl | (simp [List.map_set, iR]; done) | (rw [List.take_of_length_le (by simp)]; simp; done)), (by first | rfl | (simp [List.map_set, iR]; done) | (rw [List.take_of_length_le (by simp)]; simp; done))⟩)
 intro h17
 try rw [nnp] at h17
 try have h17' := En h17
 try have h17' := inB12 h17
 try have h17' := inB12n h17
 refine Ei rfl (Ei rfl (Ea (Er rfl rfl) (Ea (Ee rfl) (Ei rfl (Ei rfl (Ei rfl (Ea (Er rfl rfl) (Ea (Ee rfl) (Ef (Ed (Eb [1, 2, 3, 4, 8, 11, 91] rfl ?_)))))))))))
 refine Fh rfl (Eg (Eh (Ea (Em rfl rfl rfl) (Ep (Eo rfl rfl rfl rfl rfl rfl rfl) (Ea (Ee rfl) (Ea (Ee rfl) (Ef (Ed (Eb [8, 9, 10] rfl (Ek (Ff ?_)))))))))))
 refine Ev ?_
 · first | (exfalso; simp_all; done) | (refine Ec [2, 3] (.inr rfl) rfl rfl rfl rfl (show (List.range 0 ++ [2, 3]).Nodup by decide) ?_; (have e : devDo d true a v = (d, 0, false) := by unfold devDo; (repeat' split) <;> first | rfl | (simp_all; done) | (exfalso; simp_all; omega)); rw [e]; exact ⟨(by first | rfl | (simp [List.map_set, iR]; done) | (rw [List.take_of_length_le (by simp)]; simp; done)), (by first | rfl | (simp [List.map_set, iR]; done) | (rw [List.take_of_length_le (by simp)]; simp; done))⟩) | (refine Ec [2, 3] (.inr rfl) rfl rfl rfl rfl (show (List.range 0 ++ [2, 3]).Nodup by decide) ?_; (have e : devDo d true a v = (⟨d.regs.set (a.tdiv 4).toNat v, d.timer, d.fifo⟩, v, true) := by unfold devDo; (repeat' split) <;> first | rfl | (simp_all; done) | (exfalso; simp_all; omega)); rw [e]; exact ⟨(by first | rfl | (simp [List.map_set, iR]; done) | (rw [List.take_of_length_le (by simp)]; simp; done)), (by first | rfl | (simp [List.map_set, iR]; done) | (rw [List.take_of_length_le (by simp)]; simp; done))⟩) | (refine Ec [2, 3] (.inr rfl) rfl rfl rfl rfl (show (List.range 0 ++ [2, 3]).Nodup by decide) ?_; (have e : devDo d true a v = (⟨d.regs, v, d.fifo⟩, v, true) := by unfold devDo; (repeat' split) <;> first | rfl | (simp_all; done) | (exfalso; simp_all; omega)); rw [e]; exact ⟨(by first | rfl | (simp [List.map_set, iR]; done) | (rw [List.take_of_length_le (by simp)]; simp; done)), (by first | rfl | (simp [List.map_set, iR]; done) | (rw [List.take_of_length_le (by simp)]; simp; done))⟩) | (refine Ec [2, 3] (.inr rfl) rfl rfl rfl rfl (show (List.range 0 ++ [2, 3]).Nodup by decide) ?_; (have e : devDo d true a v = (⟨d.regs, d.timer, d.fifo ++ [v]⟩, v, true) := by unfold devDo; (repeat' split) <;> first | rfl | (simp_all; done) | (exfalso; simp_all; omega)); rw [e]; exact ⟨(by first | rfl | (simp [List.map_set, iR]; done) | (rw [List.take_of_length_le (by simp)]; simp; done)), (by first | rfl | (simp [List.map_set, iR]; done) | (rw [List.take_of_length_le (by simp)]; simp; done))⟩)
 intro h16
 try rw [nnp] at h16
 try have h16' := En h16
 try have h16' := inB12 h16
 try have h16' := inB12n h16
 refine Ei rfl (Ei rfl (Ea (Ej rfl rfl) (Ea (Ee rfl) (Ei rfl (Ei rfl (Ei rfl (Ei rfl (Ea (Ej rfl rfl) (Ea (Ee rfl) (Ef (Ed ?_)))))))))))
 refine Eb [1, 2, 3, 4, 8, 11, 69] rfl (Fe rfl (Eg (Eh (Ea (Ee rfl) (Ea (o_geq rfl rfl) (Ea (Ee rfl) ?_))))))
 first | refine s_gDF rfl ?_ ?_ | refine s_gB rfl ?_ ?_
 intro h21
 try rw [nnp] at h21
 try have h21' := En h21
 try have h21' := inB12 h21
 try have h21' := inB12n h21
 refine Ea (Ee rfl) (Ez rfl (Ea (o_lss rfl rfl) (Ea (Ej rfl rfl) (Ea (Ee rfl) ?_))))
 first | refine s_gDF rfl ?_ ?_ | refine s_gB rfl ?_ ?_
 intro h22
 try rw [nnp] at h22
 try have h22' := En h22
 try have h22' := inB12 h22
 try have h22' := inB12n h22
 refine Ea (Ee rfl) (Ez rfl ?_)
 first | refine Ea (o_rem rfl rfl (by decide)) ?_ | refine Ea (o_rem rfl rfl (by omega)) ?_
 refine Ez rfl (Ea (o_neq rfl rfl) (Ea (Ej rfl rfl) (Ea (Ee rfl) (Ef (Ed (Eb [1, 2, 3, 4, 8, 11, 91] rfl ?_))))))
 first | refine Eu rfl ?_ ?_ | refine Et rfl ?_ ?_
 intro h23
 try rw [nnp] at h23
 try have h23' := En h23
 try have h23' := inB12 h23
 try have h23' := inB12n h23
 refine Eg (Eh (Ea (Em rfl rfl rfl) (Ep (Eo rfl rfl rfl rfl rfl rfl rfl) (Ea (Ee rfl) (Ea (Ee rfl) (Ef (Ed (Eb [8, 9, 10] rfl (Ek (Ff (Ev ?_)))))))))))
 · first | (exfalso; simp_all; done) | (refine Ec [2, 3] (.inr rfl) rfl rfl rfl rfl (show (List.range 0 ++ [2, 3]).Nodup by decide) ?_; (have e : devDo d true a v = (d, 0, false) := by unfold devDo; (repeat' split) <;> first | rfl | (simp_all; done) | (exfalso; simp_all; omega)); rw [e]; exact ⟨(by first | rfl | (simp [List.map_set, iR]; done) | (rw [List.take_of_length_le (by simp)]; simp; done)), (by first | rfl | (simp [List.map_set, iR]; done) | (rw [List.take_of_length_le (by simp)]; simp; done))⟩) | (refine Ec [2, 3] (.inr rfl) rfl rfl rfl rfl (show (List.range 0 ++ [2, 3]).Nodup by decide) ?_; (have e : devDo d true a v = (⟨d.regs.set (a.tdiv 4).toNat v, d.timer, d.fifo⟩, v, true) := by unfold devDo; (repeat' split) <;> first | rfl | (simp_all; done) | (exfalso; simp_all; omega)); rw [e]; exact ⟨(by first | rfl | (simp [List.map_set, iR]; done) | (rw [List.take_of_length_le (by simp)]; simp; done)), (by first | rfl | (simp [List.map_set, iR]; done) | (rw [List.take_of_length_le (by simp)]; simp; done))⟩) | (refine Ec [2, 3] (.inr rfl) rfl rfl rfl rfl (show (List.range 0 ++ [2, 3]).Nodup by decide) ?_; (have e : devDo d true a v = (⟨d.regs, v, d.fifo⟩, v, true) := by unfold devDo; (repeat' split) <;> first | rfl | (simp_all; done) | (exfalso; simp_all; omega)); rw [e]; exact ⟨(by first | rfl | (simp [List.map_set, iR]; done) | (rw [List.take_of_length_le (by simp)]; simp; done)), (by first | rfl | (simp [List.map_set, iR]; done) | (rw [List.take_of_length_le (by simp)]; simp; done))⟩) | (refine Ec [2, 3] (.inr rfl) rfl rfl rfl rfl (show (List.range 0 ++ [2, 3]).Nodup by decide) ?_; (have e : devDo d true a v = (⟨d.regs, d.timer, d.fifo ++ [v]⟩, v, true) := by unfold devDo; (repeat' split) <;> first | rfl | (simp_all; done) | (exfalso; simp_all; omega)); rw [e]; exact ⟨(by first | rfl | (simp [List.map_set, iR]; done) | (rw [List.take_of_length_le (by simp)]; simp; done)), (by first | rfl | (simp [List.map_set, iR]; done) | (rw [List.take_of_length_le (by simp)]; simp; done))⟩)
 intro h23
 try rw [nnp] at h23
 try have h23' := En h23
 try have h23' := inB12 h23
 try have h23' := inB12n h23
 refine Eg (Eh (Ea (Ee rfl) (Ea (Ee rfl) (Ef (Ed (Eb [2, 3, 4, 8, 11, 104] rfl (Fh rfl (Eh (Ea (Ew rfl) (Ea (Fd rfl rfl rfl) (Ea (Ee rfl) ?_)))))))))))
 first | refine Ea (o_quo rfl rfl (by decide)) ?_ | refine Ea (o_quo rfl rfl (by omega)) ?_
 rw [(tdiv4 (by omega)).1]
 have hq := tdiv4 (a := a) (by omega)
 have h12 := mod4 (a := a) (by first | assumption | omega) (by omega) (by omega)
 obtain ⟨y, hy⟩ : ∃ y, d.regs[(a.tdiv 4).toNat]? = some y := ⟨_, List.getElem?_eq_getElem (by omega)⟩
 refine Ea (Ee rfl) (Ea (o_iaL rfl rfl (by simp) rfl (by (try simp only [List.length_map]); omega)) ?_)
 refine Ep (o_stA rfl rfl rfl rfl (by simp) (by rw [List.getElem?_map, hy]; rfl) rfl rfl) ?_
 refine Ef (Fg (Ed (Eb [3, 8, 11] rfl (Eg (Eh (Ea (Em rfl rfl rfl) (Ea (Ee rfl) (Ep (Eo rfl rfl rfl rfl rfl rfl rfl) (Ea (Ee rfl) (Ea (Ee rfl) (Ef ?_)))))))))))
 refine Ed (Eb [8, 9, 10] rfl (Ek ?_))
 · first | (exfalso; simp_all; done) | (refine Ec [2, 3] (.inr rfl) rfl rfl rfl rfl (show (List.range 0 ++ [2, 3]).Nodup by decide) ?_; (have e : devDo d true a v = (d, 0, false) := by unfold devDo; (repeat' split) <;> first | rfl | (simp_all; done) | (exfalso; simp_all; omega)); rw [e]; exact ⟨(by first | rfl | (simp [List.map_set, iR]; done) | (rw [List.take_of_length_le (by simp)]; simp; done)), (by first | rfl | (simp [List.map_set, iR]; done) | (rw [List.take_of_length_le (by simp)]; simp; done))⟩) | (refine Ec [2, 3] (.inr rfl) rfl rfl rfl rfl (show (List.range 0 ++ [2, 3]).Nodup by decide) ?_; (have e : devDo d true a v = (⟨d.regs.set (a.tdiv 4).toNat v, d.timer, d.fifo⟩, v, true) := by unfold devDo; (repeat' split) <;> first | rfl | (simp_all; done) | (exfalso; simp_all; omega)); rw [e]; exact ⟨(by first | rfl | (simp [List.map_set, iR]; done) | (rw [List.take_of_length_le (by simp)]; simp; done)), (by first | rfl | (simp [List.map_set, iR]; done) | (rw [List.take_of_length_le (by simp)]; simp; done))⟩) | (refine Ec [2, 3] (.inr rfl) rfl rfl rfl rfl (show (List.range 0 ++ [2, 3]).Nodup by decide) ?_; (have e : devDo d true a v = (⟨d.regs, v, d.fifo⟩, v, true) := by unfold devDo; (repeat' split) <;> first | rfl | (simp_all; done) | (exfalso; simp_all; omega)); rw [e]; exact ⟨(by first | rfl | (simp [List.map_set, iR]; done) | (rw [List.take_of_length_le (by simp)]; simp; done)), (by first | rfl | (simp [List.map_set, iR]; done) | (rw [List.take_of_length_le (by simp)]; simp; done))⟩) | (refine Ec [2, 3] (.inr rfl) rfl rfl rfl rfl (show (List.range 0 ++ [2, 3]).Nodup by decide) ?_; (have e : devDo d true a v = (⟨d.regs, d.timer, d.fifo ++ [v]⟩, v, true) := by unfold devDo; (repeat' split) <;> first | rfl | (simp_all; done) | (exfalso; simp_all; omega)); rw [e]; exact ⟨(by first | rfl | (simp [List.map_set, iR]; done) | (rw [List.take_of_length_le (by simp)]; simp; done)), (by first | rfl | (simp [List.map_set, iR]; done) | (rw [List.take_of_length_le (by simp)]; simp; done))⟩)
 intro h22
 try rw [nnp] at h22
 try have h22' := En h22
 try have h22' := inB12 h22
 try have h22' := inB12n h22
 refine Ei rfl (Ei rfl (Ei rfl (Ea (Er rfl rfl) (Ea (Ee rfl) (Ef (Ed (Eb [1, 2, 3, 4, 8, 11, 91] rfl (Fh rfl (Eg (Eh (Ea (Em rfl rfl rfl) ?_)))))))))))
 refine Ep (Eo rfl rfl rfl rfl rfl rfl rfl) (Ea (Ee rfl) (Ea (Ee rfl) (Ef (Ed (Eb [8, 9, 10] rfl (Ek (Ff (Ev ?_))))))))
 · first | (exfalso; simp_all; done) | (refine Ec [2, 3] (.inr rfl) rfl rfl rfl rfl (show (List.range 0 ++ [2, 3]).Nodup by decide) ?_; (have e : devDo d true a v = (d, 0, false) := by unfold devDo; (repeat' split) <;> first | rfl | (simp_all; done) | (exfalso; simp_all; omega)); rw [e]; exact ⟨(by first | rfl | (simp [List.map_set, iR]; done) | (rw [List.take_of_length_le (by simp)]; simp; done)), (by first | rfl | (simp [List.map_set, iR]; done) | (rw [List.take_of_length_le (by simp)]; simp; done))⟩) | (refine Ec [2, 3] (.inr rfl) rfl rfl rfl rfl (show (List.range 0 ++ [2, 3]).Nodup by decide) ?_; (have e : devDo d true a v = (⟨d.regs.set (a.tdiv 4).toNat v, d.timer, d.fifo⟩, v, true) := by unfold devDo; (repeat' split) <;> first | rfl | (simp_all; done) | (exfalso; simp_all; omega)); rw [e]; exact ⟨(by first | rfl | (simp [List.map_set, iR]; done) | (rw [List.take_of_length_le (by simp)]; simp; done)), (by first | rfl | (simp [List.map_set, iR]; done) | (rw [List.take_of_length_le (by simp)]; simp; done))⟩) | (refine Ec [2, 3] (.inr rfl) rfl rfl rfl rfl (show (List.range 0 ++ [2, 3]).Nodup by decide) ?_; (have e : devDo d true a v = (⟨d.regs, v, d.fifo⟩, v, true) := by unfold devDo; (repeat' split) <;> first | rfl | (simp_all; done) | (exfalso; simp_all; omega)); rw [e]; exact ⟨(by first | rfl | (simp [List.map_set, iR]; done) | (rw [List.take_of_length_le (by simp)]; simp; done)), (by first | rfl | (simp [List.map_set, iR]; done) | (rw [List.take_of_length_le (by simp)]; simp; done))⟩) | (refine Ec [2, 3] (.inr rfl) rfl rfl rfl rfl (show (List.range 0 ++ [2, 3]).Nodup by decide) ?_; (have e : devDo d true a v = (⟨d.regs, d.timer, d.fifo ++ [v]⟩, v, true) := by unfold devDo; (repeat' split) <;> first | rfl | (simp_all; done) | (exfalso; simp_all; omega)); rw [e]; exact ⟨(by first | rfl | (simp [List.map_set, iR]; done) | (rw [List.take_of_length_le (by simp)]; simp; done)), (by first | rfl | (simp [List.map_set, iR]; done) | (rw [List.take_of_length_le (by simp)]; simp; done))⟩)
 intro h21
 try rw [nnp] at h21
 try have h21' := En h21
 try have h21' := inB12 h21
 try have h21' := inB12n h21
 refine Ei rfl (Ei rfl (Ea (Er rfl rfl) (Ea (Ee rfl) (Ei rfl (Ei rfl (Ei rfl (Ea (Er rfl rfl) (Ea (Ee rfl) (Ef (Ed (Eb [1, 2, 3, 4, 8, 11, 91] rfl ?_)))))))))))
 refine Fh rfl (Eg (Eh (Ea (Em rfl rfl rfl) (Ep (Eo rfl rfl rfl rfl rfl rfl rfl) (Ea (Ee rfl) (Ea (Ee rfl) (Ef (Ed (Eb [8, 9, 10] rfl (Ek (Ff ?_)))))))))))
 refine Ev ?_
 · first | (exfalso; simp_all; done) | (refine Ec [2, 3] (.inr rfl) rfl rfl rfl rfl (show (List.range 0 ++ [2, 3]).Nodup by decide) ?_; (have e : devDo d true a v = (d, 0, false) := by unfold devDo; (repeat' split) <;> first | rfl | (simp_all; done) | (exfalso; simp_all; omega)); rw [e]; exact ⟨(by first | rfl | (simp [List.map_set, iR]; done) | (rw [List.take_of_length_le (by simp)]; simp; done)), (by first | rfl | (simp [List.map_set, iR]; done) | (rw [List.take_of_length_le (by simp)]; simp; done))⟩) | (refine Ec [2, 3] (.inr rfl) rfl rfl rfl rfl (show (List.range 0 ++ [2, 3]).Nodup by decide) ?_; (have e : devDo d true a v = (⟨d.regs.set (a.tdiv 4).toNat v, d.timer, d.fifo⟩, v, true) := by unfold devDo; (repeat' split) <;> first | rfl | (simp_all; done) | (exfalso; simp_all; omega)); rw [e]; exact ⟨(by first | rfl | (simp [List.map_set, iR]; done) | (rw [List.take_of_length_le (by simp)]; simp; done)), (by first | rfl | (simp [List.map_set, iR]; done) | (rw [List.take_of_length_le (by simp)]; simp; done))⟩) | (refine Ec [2, 3] (.inr rfl) rfl rfl rfl rfl (show (List.range 0 ++ [2, 3]).Nodup by decide) ?_; (have e : devDo d true a v = (⟨d.regs, v, d.fifo⟩, v, true) := by unfold devDo; (repeat' split) <;> first | rfl | (simp_all; done) | (exfalso; simp_all; omega)); rw [e]; exact ⟨(by first | rfl | (simp [List.map_set, iR]; done) | (rw [List.take_of_length_le (by simp)]; simp; done)), (by first | rfl | (simp [List.map_set, iR]; done) | (rw [List.take_of_length_le (by simp)]; simp; done))⟩) | (refine Ec [2, 3] (.inr rfl) rfl rfl rfl rfl (show (List.range 0 ++ [2, 3]).Nodup by decide) ?_; (have e : devDo d true a v = (⟨d.regs, d.timer, d.fifo ++ [v]⟩, v, true) := by unfold devDo; (repeat' split) <;> first | rfl | (simp_all; done) | (exfalso; simp_all; omega)); rw [e]; exact ⟨(by first | rfl | (simp [List.map_set, iR]; done) | (rw [List.take_of_length_le (by simp)]; simp; done)), (by first | rfl | (simp [List.map_set, iR]; done) | (rw [List.take_of_length_le (by simp)]; simp; done))⟩)
 intro h1
 try rw [nnp] at h1
 try have h1' := En h1
 try have h1' := inB12 h1
 try have h1' := inB12n h1
 refine Ei rfl (Ei rfl (s_gN rfl (s_gN rfl (s_gN rfl (Ei rfl (Ea (Er rfl rfl) (Ef (Ed (Eb [1, 2, 3, 4, 8, 11, 24] rfl (Fh rfl (Eg ?_)))))))))))
 refine Eh (Ea (Em rfl rfl rfl) (Ep (Eo rfl rfl rfl rfl rfl rfl rfl) (Ea (Ee rfl) (Ea (Ee rfl) (Ef (Ed (Eb [8, 9, 10] rfl (Ek (Ev ?_)))))))))
 · first | (exfalso; simp_all; done) | (refine Ec [2, 3] (.inr rfl) rfl rfl rfl rfl (show (List.range 0 ++ [2, 3]).Nodup by decide) ?_; (have e : devDo d true a v = (d, 0, false) := by unfold devDo; (repeat' split) <;> first | rfl | (simp_all; done) | (exfalso; simp_all; omega)); rw [e]; exact ⟨(by first | rfl | (simp [List.map_set, iR]; done) | (rw [List.take_of_length_le (by simp)]; simp; done)), (by first | rfl | (simp [List.map_set, iR]; done) | (rw [List.take_of_length_le (by simp)]; simp; done))⟩) | (refine Ec [2, 3] (.inr rfl) rfl rfl rfl rfl (show (List.range 0 ++ [2, 3]).Nodup by decide) ?_; (have e : devDo d true a v = (⟨d.regs.set (a.tdiv 4).toNat v, d.timer, d.fifo⟩, v, true) := by unfold devDo; (repeat' split) <;> first | rfl | (simp_all; done) | (exfalso; simp_all; omega)); rw [e]; exact ⟨(by first | rfl | (simp [List.map_set, iR]; done) | (rw [List.take_of_length_le (by simp)]; simp; done)), (by first | rfl | (simp [List.map_set, iR]; done) | (rw [List.take_of_length_le (by simp)]; simp; done))⟩) | (refine Ec [2, 3] (.inr rfl) rfl rfl rfl rfl (show (List.range 0 ++ [2, 3]).Nodup by decide) ?_; (have e : devDo d true a v = (⟨d.regs, v, d.fifo⟩, v, true) := by unfold devDo; (repeat' split) <;> first | rfl | (simp_all; done) | (exfalso; simp_all; omega)); rw [e]; exact ⟨(by first | rfl | (simp [List.map_set, iR]; done) | (rw [List.take_of_length_le (by simp)]; simp; done)), (by first | rfl | (simp [List.map_set, iR]; done) | (rw [List.take_of_length_le (by simp)]; simp; done))⟩) | (refine Ec [2, 3] (.inr rfl) rfl rfl rfl rfl (show (List.range 0 ++ [2, 3]).Nodup by decide) ?_; (have e : devDo d true a v = (⟨d.regs, d.timer, d.fifo ++ [v]⟩, v, true) := by unfold devDo; (repeat' split) <;> first | rfl | (simp_all; done) | (exfalso; simp_all; omega)); rw [e]; exact ⟨(by first | rfl | (simp [List.map_set, iR]; done) | (rw [List.take_of_length_le (by simp)]; simp; done)), (by first | rfl | (simp [List.map_set, iR]; done) | (rw [List.take_of_length_le (by simp)]; simp; done))⟩)
end Go.Proofs.Ytdialnejieoelaa.AL
