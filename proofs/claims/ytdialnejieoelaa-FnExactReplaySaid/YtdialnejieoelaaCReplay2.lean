/- What functions do with plain data, each by the form of its code. Printed by program. -/
import Derived.Test.YtdialnejieoelaaCReplay1
namespace Go.Proofs.Ytdialnejieoelaa.AL
open Go
set_option linter.unusedVariables false
set_option linter.unusedSimpArgs false
set_option maxRecDepth 4096
theorem cg_39f (d : Dev) (a v : Int) (hs : d.small) : GV prg 39 [] [.agg d.r, .w (.bool false), .w (.int .i64 a), .w (.int .i64 v)] (fun u L1 => u = .tup [.agg [.ls 0 (devDo d false a v).1.regs.length, .w (.int .i64 (devDo d false a v).1.timer), .ls 1 (devDo d false a v).1.fifo.length], .w (.int .i64 (devDo d false a v).2.1), .w (.bool (devDo d false a v).2.2)] ∧ L1 = [.arr 1 ((devDo d false a v).1.regs.map iR), .arr 1 ((devDo d false a v).1.fifo.map iR)]) := by
 have hs1 := hs.1
 have hs2 := hs.2
 refine gv_in g39 (Eb [0, 1, 2, 3] rfl (Eg (Eh (Ea (o_box rfl rfl rfl) (Ea (o_new rfl rfl) (Ea (Ee rfl) (Ea (Ee rfl) (Ef (Ed (Eb [1, 2, 3, 4, 8] rfl (Eg ?_)))))))))))
 refine Eh (Ea (Em rfl rfl rfl) (s_callG [] rfl rfl rfl rfl (by simp) (.inl rfl) (cg_97 d hs) ?_))
 rintro u L1 ⟨rfl, rfl⟩
 refine ⟨_, _, rfl, rfl, ?_⟩
 refine Ea (o_new rfl rfl) (Ep (Eo rfl rfl rfl rfl rfl rfl rfl) (Ef (Ed (Eb [1, 2, 3, 4, 8, 11] rfl (Eg (Eg (Eh (Ea (Em rfl rfl rfl) ?_))))))))
 first | refine Fc rfl rfl (c_40 d hs) ?_ | refine s_callL rfl rfl (by simp) (c_40 d hs) rfl ?_
 refine Ea (o_not rfl) (Ea (Ee rfl) ?_)
 first | refine s_gDF rfl ?_ ?_ | refine s_gNDF rfl ?_ ?_ | refine s_gNF rfl ?_ ?_ | refine s_gB rfl ?_ ?_
 intro h1
 try rw [nnp] at h1
 try have h1' := En h1
 try have h1' := inB12 h1
 try have h1' := inB12n h1
 refine Ea (Ee rfl) (Ez rfl (Ea (Ee rfl) (Ei rfl (Ei rfl (Ei rfl (Ez rfl (Ea (Ej rfl rfl) (Ea (Ej rfl rfl) (Ef (Ed (Eb [1, 2, 3, 4, 8, 11, 24] rfl ?_)))))))))))
 refine Fe rfl (Fb (Ed (Eb [1, 2, 3, 4, 8, 11] rfl (Eg (S_block (Eg (Eh (Ea (Ee rfl) (Ea (o_eql rfl rfl) (Ea (Ee rfl) ?_))))))))))
 first | refine s_gDT rfl ?_ ?_ | refine s_gB rfl ?_ ?_
 intro h2
 try rw [nnp] at h2
 try have h2' := En h2
 try have h2' := inB12 h2
 try have h2' := inB12n h2
 refine Ea (Ee rfl) (Ea (Er rfl rfl) (Ea (Ee rfl) (Ef (Ed (Eb [1, 2, 3, 4, 8, 11, 32] rfl (Fe rfl (Eg (Eh (Ea (Ee rfl) (Ea (o_eql rfl rfl) (Ea (Ee rfl) ?_)))))))))))
 refine Ef (Ed (Eb [1, 2, 3, 4, 8, 11, 40] rfl ?_))
 first | refine Eu rfl ?_ ?_ | refine Et rfl ?_ ?_
 intro h3
 try rw [nnp] at h3
 try have h3' := En h3
 try have h3' := inB12 h3
 try have h3' := inB12n h3
 refine Eg (Eh (Ea (Ew rfl) (Ea (Fd rfl rfl rfl) (Ea (Ee rfl) (Ef (Ed (Eb [3, 4, 8, 11] rfl (Eh (Ea (Ew rfl) (Ea (Fd rfl rfl rfl) ?_))))))))))
 first | refine Ea (o_addn rfl rfl (by omega)) ?_ | refine Ea (o_add rfl rfl) ?_
 refine Fc rfl rfl c_51w ?_
 first | refine Ea (o_rem rfl rfl (by decide)) ?_ | refine Ea (o_rem rfl rfl (by omega)) ?_
 refine Ea (Ew rfl) (Ep (o_stC rfl rfl rfl rfl rfl rfl) (Ef (Fg (Ed (Eb [3, 8, 11] rfl (Eg (Eh (Ea (Em rfl rfl rfl) (Ea (Ee rfl) (Ep (Eo rfl rfl rfl rfl rfl rfl rfl) (Ea (Ee rfl) ?_)))))))))))
 refine Ea (Ee rfl) (Ef (Ed (Eb [8, 9, 10] rfl (Ek ?_))))
 · first | (exfalso; simp_all; done) | (refine Ec [2, 3] (.inr rfl) rfl rfl rfl rfl (show (List.range 0 ++ [2, 3]).Nodup by decide) ?_; (have e : devDo d false a v = (d, 0, false) := by unfold devDo; (repeat' split) <;> first | rfl | (simp_all; done) | (exfalso; simp_all; omega)); rw [e]; exact ⟨(by first | rfl | (simp [List.map_set, iR]; done) | (rw [List.take_of_length_le (by simp)]; simp; done)), (by first | rfl | (simp [List.map_set, iR]; done) | (rw [List.take_of_length_le (by simp)]; simp; done))⟩) | (refine Ec [2, 3] (.inr rfl) rfl rfl rfl rfl (show (List.range 0 ++ [2, 3]).Nodup by decide) ?_; (have e : devDo d false a v = (d, y, true) := by unfold devDo; (repeat' split) <;> first | rfl | (simp_all; done) | (exfalso; simp_all; omega)); rw [e]; exact ⟨(by first | rfl | (simp [List.map_set, iR]; done) | (rw [List.take_of_length_le (by simp)]; simp; done)), (by first | rfl | (simp [List.map_set, iR]; done) | (rw [List.take_of_length_le (by simp)]; simp; done))⟩) | (refine Ec [2, 3] (.inr rfl) rfl rfl rfl rfl (show (List.range 0 ++ [2, 3]).Nodup by decide) ?_; (have e : devDo d false a v = (⟨d.regs, (d.timer + 1).tmod 4294967296, d.fifo⟩, d.timer, true) := by unfold devDo; (repeat' split) <;> first | rfl | (simp_all; done) | (exfalso; simp_all; omega)); rw [e]; exact ⟨(by first | rfl | (simp [List.map_set, iR]; done) | (rw [List.take_of_length_le (by simp)]; simp; done)), (by first | rfl | (simp [List.map_set, iR]; done) | (rw [List.take_of_length_le (by simp)]; simp; done))⟩) | (refine Ec [2, 5] (.inr rfl) rfl rfl rfl rfl (show (List.range 0 ++ [2, 5]).Nodup by decide) ?_; (have e : devDo d false a v = (⟨d.regs, d.timer, d.fifo.drop 1⟩, y, true) := by unfold devDo; (repeat' split) <;> first | rfl | (simp_all; done) | (exfalso; simp_all; omega)); rw [e]; exact ⟨(by first | rfl | (simp [List.map_set, iR]; done) | (rw [List.take_of_length_le (by simp)]; simp; done)), (by first | rfl | (simp [List.map_set, iR]; done) | (rw [List.take_of_length_le (by simp)]; simp; done))⟩)
 intro h3
 try rw [nnp] at h3
 try have h3' := En h3
 try have h3' := inB12 h3
 try have h3' := inB12n h3
 refine Eg (Eh (Ea (Ee rfl) (Ea (o_eql rfl rfl) (Ea (Ee rfl) ?_))))
 first | refine s_gDT rfl ?_ ?_ | refine s_gB rfl ?_ ?_
 intro h4
 try rw [nnp] at h4
 try have h4' := En h4
 try have h4' := inB12 h4
 try have h4' := inB12n h4
 refine Ea (Ee rfl) (Ea (Er rfl rfl) (Ea (Ee rfl) (Ei rfl (Ei rfl (Ei rfl (Ei rfl (Ea (Ej rfl rfl) (Ea (Ee rfl) (Ef (Ed (Eb [1, 2, 3, 4, 8, 11, 51] rfl ?_)))))))))))
 refine Fe rfl (Eg (Eh (Ea (Ee rfl) (Ea (o_eql rfl rfl) (Ea (Ee rfl) ?_)))))
 first | refine s_gDT rfl ?_ ?_ | refine s_gB rfl ?_ ?_
 intro h5
 try rw [nnp] at h5
 try have h5' := En h5
 try have h5' := inB12 h5
 try have h5' := inB12n h5
 refine Ea (Ee rfl) (Ez rfl (Ea (o_not rfl) (Ea (Er rfl rfl) (Ea (Ee rfl) (Ez rfl (Ea (Ew rfl) (Ez rfl (Ea (Fd rfl rfl rfl) (Ez rfl ?_)))))))))
 first | refine Ea (o_lenM rfl) ?_ | refine Ea (o_len rfl) ?_ | refine Ea (o_lenL rfl rfl (by simp)) ?_ | refine Ea (o_lenN rfl) ?_
 refine Ez rfl (Ea (o_gtr rfl rfl) (Ea (Er rfl rfl) (Ea (Ee rfl) (Ef (Ed (Eb [1, 2, 3, 4, 8, 11, 69] rfl ?_))))))
 first | refine Eu rfl ?_ ?_ | refine Et rfl ?_ ?_
 intro h6
 try rw [nnp] at h6
 try have h6' := En h6
 try have h6' := inB12 h6
 try have h6' := inB12n h6
 refine Eg (Eh (Ea (Ew rfl) (Ea (Fd rfl rfl rfl) (s_iaM rfl rfl (by (try simp only [List.length_map]); omega) ?_))))
 intro y7 e7
 revert y7 e7; intro y hy
 refine Ea (o_ld rfl rfl) (Ea (Ee rfl) (Ef (Ed (Eb [3, 4, 8, 11] rfl (Eh (Ea (Ew rfl) (Ea (Fd rfl rfl rfl) (Ea (o_sl rfl rfl rfl (by simp; omega) (by simp; omega)) ?_))))))))
 rw [sl1_eq d.fifo]
 refine s_callG [] rfl rfl rfl rfl (by simp) (.inl rfl) (cg_253 (d.fifo.drop 1) (by simp; omega)) ?_
 rintro u L1 ⟨rfl, rfl⟩
 refine ⟨_, _, rfl, rfl, ?_⟩
 refine Ea (Ew rfl) (Ep (o_stC rfl rfl rfl rfl rfl rfl) (Ef (Fg (Ed (Eb [3, 8, 11] rfl (Eg (Eh (Ea (Em rfl rfl rfl) (Ea (Ee rfl) (Ep (Eo rfl rfl rfl rfl rfl rfl rfl) (Ea (Ee rfl) ?_)))))))))))
 refine Ea (Ee rfl) (Ef (Ed (Eb [8, 9, 10] rfl (Ek ?_))))
 · first | (exfalso; simp_all; done) | (refine Ec [2, 3] (.inr rfl) rfl rfl rfl rfl (show (List.range 0 ++ [2, 3]).Nodup by decide) ?_; (have e : devDo d false a v = (d, 0, false) := by unfold devDo; (repeat' split) <;> first | rfl | (simp_all; done) | (exfalso; simp_all; omega)); rw [e]; exact ⟨(by first | rfl | (simp [List.map_set, iR]; done) | (rw [List.take_of_length_le (by simp)]; simp; done)), (by first | rfl | (simp [List.map_set, iR]; done) | (rw [List.take_of_length_le (by simp)]; simp; done))⟩) | (refine Ec [2, 3] (.inr rfl) rfl rfl rfl rfl (show (List.range 0 ++ [2, 3]).Nodup by decide) ?_; (have e : devDo d false a v = (d, y, true) := by unfold devDo; (repeat' split) <;> first | rfl | (simp_all; done) | (exfalso; simp_all; omega)); rw [e]; exact ⟨(by first | rfl | (simp [List.map_set, iR]; done) | (rw [List.take_of_length_le (by simp)]; simp; done)), (by first | rfl | (simp [List.map_set, iR]; done) | (rw [List.take_of_length_le (by simp)]; simp; done))⟩) | (refine Ec [2, 3] (.inr rfl) rfl rfl rfl rfl (show (List.range 0 ++ [2, 3]).Nodup by decide) ?_; (have e : devDo d false a v = (⟨d.regs, (d.timer + 1).tmod 4294967296, d.fifo⟩, d.timer, true) := by unfold devDo; (repeat' split) <;> first | rfl | (simp_all; done) | (exfalso; simp_all; omega)); rw [e]; exact ⟨(by first | rfl | (simp [List.map_set, iR]; done) | (rw [List.take_of_length_le (by simp)]; simp; done)), (by first | rfl | (simp [List.map_set, iR]; done) | (rw [List.take_of_length_le (by simp)]; simp; done))⟩) | (refine Ec [2, 5] (.inr rfl) rfl rfl rfl rfl (show (List.range 0 ++ [2, 5]).Nodup by decide) ?_; (have e : devDo d false a v = (⟨d.regs, d.timer, d.fifo.drop 1⟩, y, true) := by unfold devDo; (repeat' split) <;> first | rfl | (simp_all; done) | (exfalso; simp_all; omega)); rw [e]; exact ⟨(by first | rfl | (simp [List.map_set, iR]; done) | (rw [List.take_of_length_le (by simp)]; simp; done)), (by first | rfl | (simp [List.map_set, iR]; done) | (rw [List.take_of_length_le (by simp)]; simp; done))⟩)
 intro h6
 try rw [nnp] at h6
 try have h6' := En h6
 try have h6' := inB12 h6
 try have h6' := inB12n h6
 refine Eg (Eh (Ea (Ee rfl) (Ea (o_geq rfl rfl) (Ea (Ee rfl) ?_))))
 first | refine s_gDF rfl ?_ ?_ | refine s_gB rfl ?_ ?_
 intro h8
 try rw [nnp] at h8
 try have h8' := En h8
 try have h8' := inB12 h8
 try have h8' := inB12n h8
 refine Ea (Ee rfl) (Ez rfl (Ea (o_lss rfl rfl) (Ea (Ej rfl rfl) (Ea (Ee rfl) ?_))))
 first | refine s_gDF rfl ?_ ?_ | refine s_gB rfl ?_ ?_
 intro h9
 try rw [nnp] at h9
 try have h9' := En h9
 try have h9' := inB12 h9
 try have h9' := inB12n h9
 refine Ea (Ee rfl) (Ez rfl ?_)
 first | refine Ea (o_rem rfl rfl (by decide)) ?_ | refine Ea (o_rem rfl rfl (by omega)) ?_
 refine Ez rfl (Ea (o_neq rfl rfl) (Ea (Ej rfl rfl) (Ea (Ee rfl) (Ef (Ed (Eb [1, 2, 3, 4, 8, 11, 91] rfl ?_))))))
 first | refine Eu rfl ?_ ?_ | refine Et rfl ?_ ?_
 intro h10
 try rw [nnp] at h10
 try have h10' := En h10
 try have h10' := inB12 h10
 try have h10' := inB12n h10
 refine Eg (Eh (Ea (Em rfl rfl rfl) (Ep (Eo rfl rfl rfl rfl rfl rfl rfl) (Ea (Ee rfl) (Ea (Ee rfl) (Ef (Ed (Eb [8, 9, 10] rfl (Ek (Ff (Ev ?_)))))))))))
 · first | (exfalso; simp_all; done) | (refine Ec [2, 3] (.inr rfl) rfl rfl rfl rfl (show (List.range 0 ++ [2, 3]).Nodup by decide) ?_; (have e : devDo d false a v = (d, 0, false) := by unfold devDo; (repeat' split) <;> first | rfl | (simp_all; done) | (exfalso; simp_all; omega)); rw [e]; exact ⟨(by first | rfl | (simp [List.map_set, iR]; done) | (rw [List.take_of_length_le (by simp)]; simp; done)), (by first | rfl | (simp [List.map_set, iR]; done) | (rw [List.take_of_length_le (by simp)]; simp; done))⟩) | (refine Ec [2, 3] (.inr rfl) rfl rfl rfl rfl (show (List.range 0 ++ [2, 3]).Nodup by decide) ?_; (have e : devDo d false a v = (d, y, true) := by unfold devDo; (repeat' split) <;> first | rfl | (simp_all; done) | (exfalso; simp_all; omega)); rw [e]; exact ⟨(by first | rfl | (simp [List.map_set, iR]; done) | (rw [List.take_of_length_le (by simp)]; simp; done)), (by first | rfl | (simp [List.map_set, iR]; done) | (rw [List.take_of_length_le (by simp)]; simp; done))⟩) | (refine Ec [2, 3] (.inr rfl) rfl rfl rfl rfl (show (List.range 0 ++ [2, 3]).Nodup by decide) ?_; (have e : devDo d false a v = (⟨d.regs, (d.timer + 1).tmod 4294967296, d.fifo⟩, d.timer, true) := by unfold devDo; (repeat' split) <;> first | rfl | (simp_all; done) | (exfalso; simp_all; omega)); rw [e]; exact ⟨(by first | rfl | (simp [List.map_set, iR]; done) | (rw [List.take_of_length_le (by simp)]; simp; done)), (by first | rfl | (simp [List.map_set, iR]; done) | (rw [List.take_of_length_le (by simp)]; simp; done))⟩) | (refine Ec [2, 5] (.inr rfl) rfl rfl rfl rfl (show (List.range 0 ++ [2, 5]).Nodup by decide) ?_; (have e : devDo d false a v = (⟨d.regs, d.timer, d.fifo.drop 1⟩, y, true) := by unfold devDo; (repeat' split) <;> first | rfl | (simp_all; done) | (exfalso; simp_all; omega)); rw [e]; exact ⟨(by first | rfl | (simp [List.map_set, iR]; done) | (rw [List.take_of_length_le (by simp)]; simp; done)), (by first | rfl | (simp [List.map_set, iR]; done) | (rw [List.take_of_length_le (by simp)]; simp; done))⟩)
 intro h10
 try rw [nnp] at h10
 try have h10' := En h10
 try have h10' := inB12 h10
 try have h10' := inB12n h10
 refine Eg (Eh (Ea (Ee rfl) (Ea (Ee rfl) (Ef (Ed (Eb [2, 3, 4, 8, 11, 104] rfl (Fe rfl (Eh (Ea (Ew rfl) (Ea (Fd rfl rfl rfl) (Ea (Ee rfl) ?_)))))))))))
 first | refine Ea (o_quo rfl rfl (by decide)) ?_ | refine Ea (o_quo rfl rfl (by omega)) ?_
 rw [(tdiv4 (by omega)).1]
 have hq := tdiv4 (a := a) (by omega)
 have h12 := mod4 (a := a) (by first | assumption | omega) (by omega) (by omega)
 refine s_iaM rfl rfl (by (try simp only [List.length_map]); omega) ?_
 intro y11 e11
 revert y11 e11; intro y hy
 refine Ea (o_ld rfl rfl) (Ea (Ee rfl) (Ef (Fg (Ed (Eb [3, 8, 11] rfl (Eg (Eh (Ea (Em rfl rfl rfl) (Ea (Ee rfl) (Ep (Eo rfl rfl rfl rfl rfl rfl rfl) (Ea (Ee rfl) ?_)))))))))))
 refine Ea (Ee rfl) (Ef (Ed (Eb [8, 9, 10] rfl (Ek ?_))))
 · first | (exfalso; simp_all; done) | (refine Ec [2, 3] (.inr rfl) rfl rfl rfl rfl (show (List.range 0 ++ [2, 3]).Nodup by decide) ?_; (have e : devDo d false a v = (d, 0, false) := by unfold devDo; (repeat' split) <;> first | rfl | (simp_all; done) | (exfalso; simp_all; omega)); rw [e]; exact ⟨(by first | rfl | (simp [List.map_set, iR]; done) | (rw [List.take_of_length_le (by simp)]; simp; done)), (by first | rfl | (simp [List.map_set, iR]; done) | (rw [List.take_of_length_le (by simp)]; simp; done))⟩) | (refine Ec [2, 3] (.inr rfl) rfl rfl rfl rfl (show (List.range 0 ++ [2, 3]).Nodup by decide) ?_; (have e : devDo d false a v = (d, y, true) := by unfold devDo; (repeat' split) <;> first | rfl | (simp_all; done) | (exfalso; simp_all; omega)); rw [e]; exact ⟨(by first | rfl | (simp [List.map_set, iR]; done) | (rw [List.take_of_length_le (by simp)]; simp; done)), (by first | rfl | (simp [List.map_set, iR]; done) | (rw [List.take_of_length_le (by simp)]; simp; done))⟩) | (refine Ec [2, 3] (.inr rfl) rfl rfl rfl rfl (show (List.range 0 ++ [2, 3]).Nodup by decide) ?_; (have e : devDo d false a v = (⟨d.regs, (d.timer + 1).tmod 4294967296, d.fifo⟩, d.timer, true) := by unfold devDo; (repeat' split) <;> first | rfl | (simp_all; done) | (exfalso; simp_all; omega)); rw [e]; exact ⟨(by first | rfl | (simp [List.map_set, iR]; done) | (rw [List.take_of_length_le (by simp)]; simp; done)), (by first | rfl | (simp [List.map_set, iR]; done) | (rw [List.take_of_length_le (by simp)]; simp; done))⟩) | (refine Ec [2, 5] (.inr rfl) rfl rfl rfl rfl (show (List.range 0 ++ [2, 5]).Nodup by decide) ?_; (have e : devDo d false a v = (⟨d.regs, d.timer, d.fifo.drop 1⟩, y, true) := by unfold devDo; (repeat' split) <;> first | rfl | (simp_all; done) | (exfalso; simp_all; omega)); rw [e]; exact ⟨(by first | rfl | (simp [List.map_set, iR]; done) | (rw [List.take_of_length_le (by simp)]; simp; done)), (by first | rfl | (simp [List.map_set, iR]; done) | (rw [List.take_of_length_le (by simp)]; simp; done))⟩)
 intro h9
 try rw [nnp] at h9
 try have h9' := En h9
 try have h9' := inB12 h9
 try have h9' := inB12n h9
 refine Ei rfl (Ei rfl (Ei rfl (Ea (Er rfl rfl) (Ea (Ee rfl) (Ef (Ed (Eb [1, 2, 3, 4, 8, 11, 91] rfl (Fh rfl (Eg (Eh (Ea (Em rfl rfl rfl) ?_)))))))))))
 refine Ep (Eo rfl rfl rfl rfl rfl rfl rfl) (Ea (Ee rfl) (Ea (Ee rfl) (Ef (Ed (Eb [8, 9, 10] rfl (Ek (Ff (Ev ?_))))))))
 · first | (exfalso; simp_all; done) | (refine Ec [2, 3] (.inr rfl) rfl rfl rfl rfl (show (List.range 0 ++ [2, 3]).Nodup by decide) ?_; (have e : devDo d false a v = (d, 0, false) := by unfold devDo; (repeat' split) <;> first | rfl | (simp_all; done) | (exfalso; simp_all; omega)); rw [e]; exact ⟨(by first | rfl | (simp [List.map_set, iR]; done) | (rw [List.take_of_length_le (by simp)]; simp; done)), (by first | rfl | (simp [List.map_set, iR]; done) | (rw [List.take_of_length_le (by simp)]; simp; done))⟩) | (refine Ec [2, 3] (.inr rfl) rfl rfl rfl rfl (show (List.range 0 ++ [2, 3]).Nodup by decide) ?_; (have e : devDo d false a v = (d, y, true) := by unfold devDo; (repeat' split) <;> first | rfl | (simp_all; done) | (exfalso; simp_all; omega)); rw [e]; exact ⟨(by first | rfl | (simp [List.map_set, iR]; done) | (rw [List.take_of_length_le (by simp)]; simp; done)), (by first | rfl | (simp [List.map_set, iR]; done) | (rw [List.take_of_length_le (by simp)]; simp; done))⟩) | (refine Ec [2, 3] (.inr rfl) rfl rfl rfl rfl (show (List.range 0 ++ [2, 3]).Nodup by decide) ?_; (have e : devDo d false a v = (⟨d.regs, (d.timer + 1).tmod 4294967296, d.fifo⟩, d.timer, true) := by unfold devDo; (repeat' split) <;> first | rfl | (simp_all; done) | (exfalso; simp_all; omega)); rw [e]; exact ⟨(by first | rfl | (simp [List.map_set, iR]; done) | (rw [List.take_of_length_le (by simp)]; simp; done)), (by first | rfl | (simp [List.map_set, iR]; done) | (rw [List.take_of_length_le (by simp)]; simp; done))⟩) | (refine Ec [2, 5] (.inr rfl) rfl rfl rfl rfl (show (List.range 0 ++ [2, 5]).Nodup by decide) ?_; (have e : devDo d false a v = (⟨d.regs, d.timer, d.fifo.drop 1⟩, y, true) := by unfold devDo; (repeat' split) <;> first | rfl | (simp_all; done) | (exfalso; simp_all; omega)); rw [e]; exact ⟨(by first | rfl | (simp [List.map_set, iR]; done) | (rw [List.take_of_length_le (by simp)]; simp; done)), (by first | rfl | (simp [List.map_set, iR]; done) | (rw [List.take_of_length_le (by simp)]; simp; done))⟩)
 intro h8
 try rw [nnp] at h8
 try have h8' := En h8
 try have h8' := inB12 h8
 try have h8' := inB12n h8
 refine Ei rfl (Ei rfl (Ea (Er rfl rfl) (Ea (Ee rfl) (Ei rfl (Ei rfl (Ei rfl (Ea (Er rfl rfl) (Ea (Ee rfl) (Ef (Ed (Eb [1, 2, 3, 4, 8, 11, 91] rfl ?_)))))))))))
 refine Fh rfl (Eg (Eh (Ea (Em rfl rfl rfl) (Ep (Eo rfl rfl rfl rfl rfl rfl rfl) (Ea (Ee rfl) (Ea (Ee rfl) (Ef (Ed (Eb [8, 9, 10] rfl (Ek (Ff ?_)))))))))))
 refine Ev ?_
 · first | (exfalso; simp_all; done) | (refine Ec [2, 3] (.inr rfl) rfl rfl rfl rfl (show (List.range 0 ++ [2, 3]).Nodup by decide) ?_; (have e : devDo d false a v = (d, 0, false) := by unfold devDo; (repeat' split) <;> first | rfl | (simp_all; done) | (exfalso; simp_all; omega)); rw [e]; exact ⟨(by first | rfl | (simp [List.map_set, iR]; done) | (rw [List.take_of_length_le (by simp)]; simp; done)), (by first | rfl | (simp [List.map_set, iR]; done) | (rw [List.take_of_length_le (by simp)]; simp; done))⟩) | (refine Ec [2, 3] (.inr rfl) rfl rfl rfl rfl (show (List.range 0 ++ [2, 3]).Nodup by decide) ?_; (have e : devDo d false a v = (d, y, true) := by unfold devDo; (repeat' split) <;> first | rfl | (simp_all; done) | (exfalso; simp_all; omega)); rw [e]; exact ⟨(by first | rfl | (simp [List.map_set, iR]; done) | (rw [List.take_of_length_le (by simp)]; simp; done)), (by first | rfl | (simp [List.map_set, iR]; done) | (rw [List.take_of_length_le (by simp)]; simp; done))⟩) | (refine Ec [2, 3] (.inr rfl) rfl rfl rfl rfl (show (List.range 0 ++ [2, 3]).Nodup by decide) ?_; (have e : devDo d false a v = (⟨d.regs, (d.timer + 1).tmod 4294967296, d.fifo⟩, d.timer, true) := by unfold devDo; (repeat' split) <;> first | rfl | (simp_all; done) | (exfalso; simp_all; omega)); rw [e]; exact ⟨(by first | rfl | (simp [List.map_set, iR]; done) | (rw [List.take_of_length_le (by simp)]; simp; done)), (by first | rfl | (simp [List.map_set, iR]; done) | (rw [List.take_of_length_le (by simp)]; simp; done))⟩) | (refine Ec [2, 5] (.inr rfl) rfl rfl rfl rfl (show (List.range 0 ++ [2, 5]).Nodup by decide) ?_; (have e : devDo d false a v = (⟨d.regs, d.timer, d.fifo.drop 1⟩, y, true) := by unfold devDo; (repeat' split) <;> first | rfl | (simp_all; done) | (exfalso; simp_all; omega)); rw [e]; exact ⟨(by first | rfl | (simp [List.map_set, iR]; done) | (rw [List.take_of_length_le (by simp)]; simp; done)), (by first | rfl | (simp [List.map_set, iR]; done) | (rw [List.take_of_length_le (by simp)]; simp; done))⟩)
 intro h5
 try rw [nnp] at h5
 try have h5' := En h5
 try have h5' := inB12 h5
 try have h5' := inB12n h5
 refine Ei rfl (Ei rfl (Ea (Ej rfl rfl) (Ea (Ee rfl) (Ei rfl (Ei rfl (Ei rfl (Ei rfl (Ea (Ej rfl rfl) (Ea (Ee rfl) (Ef (Ed ?_)))))))))))
 refine Eb [1, 2, 3, 4, 8, 11, 69] rfl (Fe rfl (Eg (Eh (Ea (Ee rfl) (Ea (o_geq rfl rfl) (Ea (Ee rfl) ?_))))))
 first | refine s_gDF rfl ?_ ?_ | refine s_gB rfl ?_ ?_
 intro h12
 try rw [nnp] at h12
 try have h12' := En h12
 try have h12' := inB12 h12
 try have h12' := inB12n h12
 refine Ea (Ee rfl) (Ez rfl (Ea (o_lss rfl rfl) (Ea (Ej rfl rfl) (Ea (Ee rfl) ?_))))
 first | refine s_gDF rfl ?_ ?_ | refine s_gB rfl ?_ ?_
 intro h13
 try rw [nnp] at h13
 try have h13' := En h13
 try have h13' := inB12 h13
 try have h13' := inB12n h13
 refine Ea (Ee rfl) (Ez rfl ?_)
 first | refine Ea (o_rem rfl rfl (by decide)) ?_ | refine Ea (o_rem rfl rfl (by omega)) ?_
 refine Ez rfl (Ea (o_neq rfl rfl) (Ea (Ej rfl rfl) (Ea (Ee rfl) (Ef (Ed (Eb [1, 2, 3, 4, 8, 11, 91] rfl ?_))))))
 first | refine Eu rfl ?_ ?_ | refine Et rfl ?_ ?_
 intro h14
 try rw [nnp] at h14
 try have h14' := En h14
 try have h14' := inB12 h14
 try have h14' := inB12n h14
 refine Eg (Eh (Ea (Em rfl rfl rfl) (Ep (Eo rfl rfl rfl rfl rfl rfl rfl) (Ea (Ee rfl) (Ea (Ee rfl) (Ef (Ed (Eb [8, 9, 10] rfl (Ek (Ff (Ev ?_)))))))))))
 · first | (exfalso; simp_all; done) | (refine Ec [2, 3] (.inr rfl) rfl rfl rfl rfl (show (List.range 0 ++ [2, 3]).Nodup by decide) ?_; (have e : devDo d false a v = (d, 0, false) := by unfold devDo; (repeat' split) <;> first | rfl | (simp_all; done) | (exfalso; simp_all; omega)); rw [e]; exact ⟨(by first | rfl | (simp [List.map_set, iR]; done) | (rw [List.take_of_length_le (by simp)]; simp; done)), (by first | rfl | (simp [List.map_set, iR]; done) | (rw [List.take_of_length_le (by simp)]; simp; done))⟩) | (refine Ec [2, 3] (.inr rfl) rfl rfl rfl rfl (show (List.range 0 ++ [2, 3]).Nodup by decide) ?_; (have e : devDo d false a v = (d, y, true) := by unfold devDo; (repeat' split) <;> first | rfl | (simp_all; done) | (exfalso; simp_all; omega)); rw [e]; exact ⟨(by first | rfl | (simp [List.map_set, iR]; done) | (rw [List.take_of_length_le (by simp)]; simp; done)), (by first | rfl | (simp [List.map_set, iR]; done) | (rw [List.take_of_length_le (by simp)]; simp; done))⟩) | (refine Ec [2, 3] (.inr rfl) rfl rfl rfl rfl (show (List.range 0 ++ [2, 3]).Nodup by decide) ?_; (have e : devDo d false a v = (⟨d.regs, (d.timer + 1).tmod 4294967296, d.fifo⟩, d.timer, true) := by unfold devDo; (repeat' split) <;> first | rfl | (simp_all; done) | (exfalso; simp_all; omega)); rw [e]; exact ⟨(by first | rfl | (simp [List.map_set, iR]; done) | (rw [List.take_of_length_le (by simp)]; simp; done)), (by first | rfl | (simp [List.map_set, iR]; done) | (rw [List.take_of_length_le (by simp)]; simp; done))⟩) | (refine Ec [2, 5] (.inr rfl) rfl rfl rfl rfl (show (List.range 0 ++ [2, 5]).Nodup by decide) ?_; (have e : devDo d false a v = (⟨d.regs, d.timer, d.fifo.drop 1⟩, y, true) := by unfold devDo; (repeat' split) <;> first | rfl | (simp_all; done) | (exfalso; simp_all; omega)); rw [e]; exact ⟨(by first | rfl | (simp [List.map_set, iR]; done) | (rw [List.take_of_length_le (by simp)]; simp; done)), (by first | rfl | (simp [List.map_set, iR]; done) | (rw [List.take_of_length_le (by simp)]; simp; done))⟩)
 intro h14
 try rw [nnp] at h14
 try have h14' := En h14
 try have h14' := inB12 h14
 try have h14' := inB12n h14
 refine Eg (Eh (Ea (Ee rfl) (Ea (Ee rfl) (Ef (Ed (Eb [2, 3, 4, 8, 11, 104] rfl (Fe rfl (Eh (Ea (Ew rfl) (Ea (Fd rfl rfl rfl) (Ea (Ee rfl) ?_)))))))))))
 first | refine Ea (o_quo rfl rfl (by decide)) ?_ | refine Ea (o_quo rfl rfl (by omega)) ?_
 rw [(tdiv4 (by omega)).1]
 have hq := tdiv4 (a := a) (by omega)
 have h12 := mod4 (a := a) (by first | assumption | omega) (by omega) (by omega)
 refine s_iaM rfl rfl (by (try simp only [List.length_map]); omega) ?_
 intro y15 e15
 revert y15 e15; intro y hy
 refine Ea (o_ld rfl rfl) (Ea (Ee rfl) (Ef (Fg (Ed (Eb [3, 8, 11] rfl (Eg (Eh (Ea (Em rfl rfl rfl) (Ea (Ee rfl) (Ep (Eo rfl rfl rfl rfl rfl rfl rfl) (Ea (Ee rfl) ?_)))))))))))
 refine Ea (Ee rfl) (Ef (Ed (Eb [8, 9, 10] rfl (Ek ?_))))
 · first | (exfalso; simp_all; done) | (refine Ec [2, 3] (.inr rfl) rfl rfl rfl rfl (show (List.range 0 ++ [2, 3]).Nodup by decide) ?_; (have e : devDo d false a v = (d, 0, false) := by unfold devDo; (repeat' split) <;> first | rfl | (simp_all; done) | (exfalso; simp_all; omega)); rw [e]; exact ⟨(by first | rfl | (simp [List.map_set, iR]; done) | (rw [List.take_of_length_le (by simp)]; simp; done)), (by first | rfl | (simp [List.map_set, iR]; done) | (rw [List.take_of_length_le (by simp)]; simp; done))⟩) | (refine Ec [2, 3] (.inr rfl) rfl rfl rfl rfl (show (List.range 0 ++ [2, 3]).Nodup by decide) ?_; (have e : devDo d false a v = (d, y, true) := by unfold devDo; (repeat' split) <;> first | rfl | (simp_all; done) | (exfalso; simp_all; omega)); rw [e]; exact ⟨(by first | rfl | (simp [List.map_set, iR]; done) | (rw [List.take_of_length_le (by simp)]; simp; done)), (by first | rfl | (simp [List.map_set, iR]; done) | (rw [List.take_of_length_le (by simp)]; simp; done))⟩) | (refine Ec [2, 3] (.inr rfl) rfl rfl rfl rfl (show (List.range 0 ++ [2, 3]).Nodup by decide) ?_; (have e : devDo d false a v = (⟨d.regs, (d.timer + 1).tmod 4294967296, d.fifo⟩, d.timer, true) := by unfold devDo; (repeat' split) <;> first | rfl | (simp_all; done) | (exfalso; simp_all; omega)); rw [e]; exact ⟨(by first | rfl | (simp [List.map_set, iR]; done) | (rw [List.take_of_length_le (by simp)]; simp; done)), (by first | rfl | (simp [List.map_set, iR]; done) | (rw [List.take_of_length_le (by simp)]; simp; done))⟩) | (refine Ec [2, 5] (.inr rfl) rfl rfl rfl rfl (show (List.range 0 ++ [2, 5]).Nodup by decide) ?_; (have e : devDo d false a v = (⟨d.regs, d.timer, d.fifo.drop 1⟩, y, true) := by unfold devDo; (repeat' split) <;> first | rfl | (simp_all; done) | (exfalso; simp_all; omega)); rw [e]; exact ⟨(by first | rfl | (simp [List.map_set, iR]; done) | (rw [List.take_of_length_le (by simp)]; simp; done)), (by first | rfl | (simp [List.map_set, iR]; done) | (rw [List.take_of_length_le (by simp)]; simp; done))⟩)
 intro h13
 try rw [nnp] at h13
 try have h13' := En h13
 try have h13' := inB12 h13
 try have h13' := inB12n h13
 refine Ei rfl (Ei rfl (Ei rfl (Ea (Er rfl rfl) (Ea (Ee rfl) (Ef (Ed (Eb [1, 2, 3, 4, 8, 11, 91] rfl (Fh rfl (Eg (Eh (Ea (Em rfl rfl rfl) ?_)))))))))))
 refine Ep (Eo rfl rfl rfl rfl rfl rfl rfl) (Ea (Ee rfl) (Ea (Ee rfl) (Ef (Ed (Eb [8, 9, 10] rfl (Ek (Ff (Ev ?_))))))))
 · first | (exfalso; simp_all; done) | (refine Ec [2, 3] (.inr rfl) rfl rfl rfl rfl (show (List.range 0 ++ [2, 3]).Nodup by decide) ?_; (have e : devDo d false a v = (d, 0, false) := by unfold devDo; (repeat' split) <;> first | rfl | (simp_all; done) | (exfalso; simp_all; omega)); rw [e]; exact ⟨(by first | rfl | (simp [List.map_set, iR]; done) | (rw [List.take_of_length_le (by simp)]; simp; done)), (by first | rfl | (simp [List.map_set, iR]; done) | (rw [List.take_of_length_le (by simp)]; simp; done))⟩) | (refine Ec [2, 3] (.inr rfl) rfl rfl rfl rfl (show (List.range 0 ++ [2, 3]).Nodup by decide) ?_; (have e : devDo d false a v = (d, y, true) := by unfold devDo; (repeat' split) <;> first | rfl | (simp_all; done) | (exfalso; simp_all; omega)); rw [e]; exact ⟨(by first | rfl | (simp [List.map_set, iR]; done) | (rw [List.take_of_length_le (by simp)]; simp; done)), (by first | rfl | (simp [List.map_set, iR]; done) | (rw [List.take_of_length_le (by simp)]; simp; done))⟩) | (refine Ec [2, 3] (.inr rfl) rfl rfl rfl rfl (show (List.range 0 ++ [2, 3]).Nodup by decide) ?_; (have e : devDo d false a v = (⟨d.regs, (d.timer + 1).tmod 4294967296, d.fifo⟩, d.timer, true) := by unfold devDo; (repeat' split) <;> first | rfl | (simp_all; done) | (exfalso; simp_all; omega)); rw [e]; exact ⟨(by first | rfl | (simp [List.map_set, iR]; done) | (rw [List.take_of_length_le (by simp)]; simp; done)), (by first | rfl | (simp [List.map_set, iR]; done) | (rw [List.take_of_length_le (by simp)]; simp; done))⟩) | (refine Ec [2, 5] (.inr rfl) rfl rfl rfl rfl (show (List.range 0 ++ [2, 5]).Nodup by decide) ?_; (have e : devDo d false a v = (⟨d.regs, d.timer, d.fifo.drop 1⟩, y, true) := by unfold devDo; (repeat' split) <;> first | rfl | (simp_all; done) | (exfalso; simp_all; omega)); rw [e]; exact ⟨(by first | rfl | (simp [List.map_set, iR]; done) | (rw [List.take_of_length_le (by simp)]; simp; done)), (by first | rfl | (simp [List.map_set, iR]; done) | (rw [List.take_of_length_le (by simp)]; simp; done))⟩)
 intro h12
 try rw [nnp] at h12
 try have h12' := En h12
 try have h12' := inB12 h12
 try have h12' := inB12n h12
 refine Ei rfl (Ei rfl (Ea (Er rfl rfl) (Ea (Ee rfl) (Ei rfl (Ei rfl (Ei rfl (Ea (Er rfl rfl) (Ea (Ee rfl) (Ef (Ed (Eb [1, 2, 3, 4, 8, 11, 91] rfl ?_)))))))))))
 refine Fh rfl (Eg (Eh (Ea (Em rfl rfl rfl) (Ep (Eo rfl rfl rfl rfl rfl rfl rfl) (Ea (Ee rfl) (Ea (Ee rfl) (Ef (Ed (Eb [8, 9, 10] rfl (Ek (Ff ?_)))))))))))
 refine Ev ?_
 · first | (exfalso; simp_all; done) | (refine Ec [2, 3] (.inr rfl) rfl rfl rfl rfl (show (List.range 0 ++ [2, 3]).Nodup by decide) ?_; (have e : devDo d false a v = (d, 0, false) := by unfold devDo; (repeat' split) <;> first | rfl | (simp_all; done) | (exfalso; simp_all; omega)); rw [e]; exact ⟨(by first | rfl | (simp [List.map_set, iR]; done) | (rw [List.take_of_length_le (by simp)]; simp; done)), (by first | rfl | (simp [List.map_set, iR]; done) | (rw [List.take_of_length_le (by simp)]; simp; done))⟩) | (refine Ec [2, 3] (.inr rfl) rfl rfl rfl rfl (show (List.range 0 ++ [2, 3]).Nodup by decide) ?_; (have e : devDo d false a v = (d, y, true) := by unfold devDo; (repeat' split) <;> first | rfl | (simp_all; done) | (exfalso; simp_all; omega)); rw [e]; exact ⟨(by first | rfl | (simp [List.map_set, iR]; done) | (rw [List.take_of_length_le (by simp)]; simp; done)), (by first | rfl | (simp [List.map_set, iR]; done) | (rw [List.take_of_length_le (by simp)]; simp; done))⟩) | (refine Ec [2, 3] (.inr rfl) rfl rfl rfl rfl (show (List.range 0 ++ [2, 3]).Nodup by decide) ?_; (have e : devDo d false a v = (⟨d.regs, (d.timer + 1).tmod 4294967296, d.fifo⟩, d.timer, true) := by unfold devDo; (repeat' split) <;> first | rfl | (simp_all; done) | (exfalso; simp_all; omega)); rw [e]; exact ⟨(by first | rfl | (simp [List.map_set, iR]; done) | (rw [List.take_of_length_le (by simp)]; simp; done)), (by first | rfl | (simp [List.map_set, iR]; done) | (rw [List.take_of_length_le (by simp)]; simp; done))⟩) | (refine Ec [2, 5] (.inr rfl) rfl rfl rfl rfl (show (List.range 0 ++ [2, 5]).Nodup by decide) ?_; (have e : devDo d false a v = (⟨d.regs, d.timer, d.fifo.drop 1⟩, y, true) := by unfold devDo; (repeat' split) <;> first | rfl | (simp_all; done) | (exfalso; simp_all; omega)); rw [e]; exact ⟨(by first | rfl | (simp [List.map_set, iR]; done) | (rw [List.take_of_length_le (by simp)]; simp; done)), (by first | rfl | (simp [List.map_set, iR]; done) | (rw [List.take_of_length_le (by simp)]; simp; done))⟩)
 intro h4
 try rw [nnp] at h4
 try have h4' := En h4
 try have h4' := inB12 h4
 try have h4' := inB12n h4
 refine Ei rfl (Ea (Ej rfl rfl) (Ea (Ee rfl) (Ei rfl (Ei rfl (Ei rfl (Ei rfl (Ea (Ej rfl rfl) (Ea (Ee rfl) (Ef (Ed (Eb [1, 2, 3, 4, 8, 11, 51] rfl ?_)))))))))))
 refine Fe rfl (Eg (Eh (Ea (Ee rfl) (Ea (o_eql rfl rfl) (Ea (Ee rfl) ?_)))))
 first | refine s_gDT rfl ?_ ?_ | refine s_gB rfl ?_ ?_
 intro h16
 try rw [nnp] at h16
 try have h16' := En h16
 try have h16' := inB12 h16
 try have h16' := inB12n h16
 refine Ea (Ee rfl) (Ez rfl (Ea (o_not rfl) (Ea (Er rfl rfl) (Ea (Ee rfl) (Ez rfl (Ea (Ew rfl) (Ez rfl (Ea (Fd rfl rfl rfl) (Ez rfl ?_)))))))))
 first | refine Ea (o_lenM rfl) ?_ | refine Ea (o_len rfl) ?_ | refine Ea (o_lenL rfl rfl (by simp)) ?_ | refine Ea (o_lenN rfl) ?_
 refine Ez rfl (Ea (o_gtr rfl rfl) (Ea (Er rfl rfl) (Ea (Ee rfl) (Ef (Ed (Eb [1, 2, 3, 4, 8, 11, 69] rfl ?_))))))
 first | refine Eu rfl ?_ ?_ | refine Et rfl ?_ ?_
 intro h17
 try rw [nnp] at h17
 try have h17' := En h17
 try have h17' := inB12 h17
 try have h17' := inB12n h17
 refine Eg (Eh (Ea (Ew rfl) (Ea (Fd rfl rfl rfl) (s_iaM rfl rfl (by (try simp only [List.length_map]); omega) ?_))))
 intro y18 e18
 revert y18 e18; intro y hy
 refine Ea (o_ld rfl rfl) (Ea (Ee rfl) (Ef (Ed (Eb [3, 4, 8, 11] rfl (Eh (Ea (Ew rfl) (Ea (Fd rfl rfl rfl) (Ea (o_sl rfl rfl rfl (by simp; omega) (by simp; omega)) ?_))))))))
 rw [sl1_eq d.fifo]
 refine s_callG [] rfl rfl rfl rfl (by simp) (.inl rfl) (cg_253 (d.fifo.drop 1) (by simp; omega)) ?_
 rintro u L1 ⟨rfl, rfl⟩
 refine ⟨_, _, rfl, rfl, ?_⟩
 refine Ea (Ew rfl) (Ep (o_stC rfl rfl rfl rfl rfl rfl) (Ef (Fg (Ed (Eb [3, 8, 11] rfl (Eg (Eh (Ea (Em rfl rfl rfl) (Ea (Ee rfl) (Ep (Eo rfl rfl rfl rfl rfl rfl rfl) (Ea (Ee rfl) ?_)))))))))))
 refine Ea (Ee rfl) (Ef (Ed (Eb [8, 9, 10] rfl (Ek ?_))))
 · first | (exfalso; simp_all; done) | (refine Ec [2, 3] (.inr rfl) rfl rfl rfl rfl (show (List.range 0 ++ [2, 3]).Nodup by decide) ?_; (have e : devDo d false a v = (d, 0, false) := by unfold devDo; (repeat' split) <;> first | rfl | (simp_all; done) | (exfalso; simp_all; omega)); rw [e]; exact ⟨(by first | rfl | (simp [List.map_set, iR]; done) | (rw [List.take_of_length_le (by simp)]; simp; done)), (by first | rfl | (simp [List.map_set, iR]; done) | (rw [List.take_of_length_le (by simp)]; simp; done))⟩) | (refine Ec [2, 3] (.inr rfl) rfl rfl rfl rfl (show (List.range 0 ++ [2, 3]).Nodup by decide) ?_; (have e : devDo d false a v = (d, y, true) := by unfold devDo; (repeat' split) <;> first | rfl | (simp_all; done) | (exfalso; simp_all; omega)); rw [e]; exact ⟨(by first | rfl | (simp [List.map_set, iR]; done) | (rw [List.take_of_length_le (by simp)]; simp; done)), (by first | rfl | (simp [List.map_set, iR]; done) | (rw [List.take_of_length_le (by simp)]; simp; done))⟩) | (refine Ec [2, 3] (.inr rfl) rfl rfl rfl rfl (show (List.range 0 ++ [2, 3]).Nodup by decide) ?_; (have e : devDo d false a v = (⟨d.regs, (d.timer + 1).tmod 4294967296, d.fifo⟩, d.timer, true) := by unfold devDo; (repeat' split) <;> first | rfl | (simp_all; done) | (exfalso; simp_all; omega)); rw [e]; exact ⟨(by first | rfl | (simp [List.map_set, iR]; done) | (rw [List.take_of_length_le (by simp)]; simp; done)), (by first | rfl | (simp [List.map_set, iR]; done) | (rw [List.take_of_length_le (by simp)]; simp; done))⟩) | (refine Ec [2, 5] (.inr rfl) rfl rfl rfl rfl (show (List.range 0 ++ [2, 5]).Nodup by decide) ?_; (have e : devDo d false a v = (⟨d.regs, d.timer, d.fifo.drop 1⟩, y, true) := by unfold devDo; (repeat' split) <;> first | rfl | (simp_all; done) | (exfalso; simp_all; omega)); rw [e]; exact ⟨(by first | rfl | (simp [List.map_set, iR]; done) | (rw [List.take_of_length_le (by simp)]; simp; done)), (by first | rfl | (simp [List.map_set, iR]; done) | (rw [List.take_of_length_le (by simp)]; simp; done))⟩)
 intro h17
 try rw [nnp] at h17
 try have h17' := En h17
 try have h17' := inB12 h17
 try have h17' := inB12n h17
 refine Eg (Eh (Ea (Ee rfl) (Ea (o_geq rfl rfl) (Ea (Ee rfl) ?_))))
 first | refine s_gDF rfl ?_ ?_ | refine s_gB rfl ?_ ?_
 intro h19
 try rw [nnp] at h19
 try have h19' := En h19
 try have h19' := inB12 h19
 try have h19' := inB12n h19
 refine Ea (Ee rfl) (Ez rfl (Ea (o_lss rfl rfl) (Ea (Ej rfl rfl) (Ea (Ee rfl) ?_))))
 first | refine s_gDF rfl ?_ ?_ | refine s_gB rfl ?_ ?_
 intro h20
 try rw [nnp] at h20
 try have h20' := En h20
 try have h20' := inB12 h20
 try have h20' := inB12n h20
 refine Ea (Ee rfl) (Ez rfl ?_)
 first | refine Ea (o_rem rfl rfl (by decide)) ?_ | refine Ea (o_rem rfl rfl (by omega)) ?_
 refine Ez rfl (Ea (o_neq rfl rfl) (Ea (Ej rfl rfl) (Ea (Ee rfl) (Ef (Ed (Eb [1, 2, 3, 4, 8, 11, 91] rfl ?_))))))
 first | refine Eu rfl ?_ ?_ | refine Et rfl ?_ ?_
 intro h21
 try rw [nnp] at h21
 try have h21' := En h21
 try have h21' := inB12 h21
 try have h21' := inB12n h21
 refine Eg (Eh (Ea (Em rfl rfl rfl) (Ep (Eo rfl rfl rfl rfl rfl rfl rfl) (Ea (Ee rfl) (Ea (Ee rfl) (Ef (Ed (Eb [8, 9, 10] rfl (Ek (Ff (Ev ?_)))))))))))
 · first | (exfalso; simp_all; done) | (refine Ec [2, 3] (.inr rfl) rfl rfl rfl rfl (show (List.range 0 ++ [2, 3]).Nodup by decide) ?_; (have e : devDo d false a v = (d, 0, false) := by unfold devDo; (repeat' split) <;> first | rfl | (simp_all; done) | (exfalso; simp_all; omega)); rw [e]; exact ⟨(by first | rfl | (simp [List.map_set, iR]; done) | (rw [List.take_of_length_le (by simp)]; simp; done)), (by first | rfl | (simp [List.map_set, iR]; done) | (rw [List.take_of_length_le (by simp)]; simp; done))⟩) | (refine Ec [2, 3] (.inr rfl) rfl rfl rfl rfl (show (List.range 0 ++ [2, 3]).Nodup by decide) ?_; (have e : devDo d false a v = (d, y, true) := by unfold devDo; (repeat' split) <;> first | rfl | (simp_all; done) | (exfalso; simp_all; omega)); rw [e]; exact ⟨(by first | rfl | (simp [List.map_set, iR]; done) | (rw [List.take_of_length_le (by simp)]; simp; done)), (by first | rfl | (simp [List.map_set, iR]; done) | (rw [List.take_of_length_le (by simp)]; simp; done))⟩) | (refine Ec [2, 3] (.inr rfl) rfl rfl rfl rfl (show (List.range 0 ++ [2, 3]).Nodup by decide) ?_; (have e : devDo d false a v = (⟨d.regs, (d.timer + 1).tmod 4294967296, d.fifo⟩, d.timer, true) := by unfold devDo; (repeat' split) <;> first | rfl | (simp_all; done) | (exfalso; simp_all; omega)); rw [e]; exact ⟨(by first | rfl | (simp [List.map_set, iR]; done) | (rw [List.take_of_length_le (by simp)]; simp; done)), (by first | rfl | (simp [List.map_set, iR]; done) | (rw [List.take_of_length_le (by simp)]; simp; done))⟩) | (refine Ec [2, 5] (.inr rfl) rfl rfl rfl rfl (show (List.range 0 ++ [2, 5]).Nodup by decide) ?_; (have e : devDo d false a v = (⟨d.regs, d.timer, d.fifo.drop 1⟩, y, true) := by unfold devDo; (repeat' split) <;> first | rfl | (simp_all; done) | (exfalso; simp_all; omega)); rw [e]; exact ⟨(by first | rfl | (simp [List.map_set, iR]; done) | (rw [List.take_of_length_le (by simp)]; simp; done)), (by first | rfl | (simp [List.map_set, iR]; done) | (rw [List.take_of_length_le (by simp)]; simp; done))⟩)
 intro h21
 try rw [nnp] at h21
 try have h21' := En h21
 try have h21' := inB12 h21
 try have h21' := inB12n h21
 refine Eg (Eh (Ea (Ee rfl) (Ea (Ee rfl) (Ef (Ed (Eb [2, 3, 4, 8, 11, 104] rfl (Fe rfl (Eh (Ea (Ew rfl) (Ea (Fd rfl rfl rfl) (Ea (Ee rfl) ?_)))))))))))
 first | refine Ea (o_quo rfl rfl (by decide)) ?_ | refine Ea (o_quo rfl rfl (by omega)) ?_
 rw [(tdiv4 (by omega)).1]
 have hq := tdiv4 (a := a) (by omega)
 have h12 := mod4 (a := a) (by first | assumption | omega) (by omega) (by omega)
 refine s_iaM rfl rfl (by (try simp only [List.length_map]); omega) ?_
 intro y22 e22
 revert y22 e22; intro y hy
 refine Ea (o_ld rfl rfl) (Ea (Ee rfl) (Ef (Fg (Ed (Eb [3, 8, 11] rfl (Eg (Eh (Ea (Em rfl rfl rfl) (Ea (Ee rfl) (Ep (Eo rfl rfl rfl rfl rfl rfl rfl) (Ea (Ee rfl) ?_)))))))))))
 refine Ea (Ee rfl) (Ef (Ed (Eb [8, 9, 10] rfl (Ek ?_))))
 · first | (exfalso; simp_all; done) | (refine Ec [2, 3] (.inr rfl) rfl rfl rfl rfl (show (List.range 0 ++ [2, 3]).Nodup by decide) ?_; (have e : devDo d false a v = (d, 0, false) := by unfold devDo; (repeat' split) <;> first | rfl | (simp_all; done) | (exfalso; simp_all; omega)); rw [e]; exact ⟨(by first | rfl | (simp [List.map_set, iR]; done) | (rw [List.take_of_length_le (by simp)]; simp; done)), (by first | rfl | (simp [List.map_set, iR]; done) | (rw [List.take_of_length_le (by simp)]; simp; done))⟩) | (refine Ec [2, 3] (.inr rfl) rfl rfl rfl rfl (show (List.range 0 ++ [2, 3]).Nodup by decide) ?_; (have e : devDo d false a v = (d, y, true) := by unfold devDo; (repeat' split) <;> first | rfl | (simp_all; done) | (exfalso; simp_all; omega)); rw [e]; exact ⟨(by first | rfl | (simp [List.map_set, iR]; done) | (rw [List.take_of_length_le (by simp)]; simp; done)), (by first | rfl | (simp [List.map_set, iR]; done) | (rw [List.take_of_length_le (by simp)]; simp; done))⟩) | (refine Ec [2, 3] (.inr rfl) rfl rfl rfl rfl (show (List.range 0 ++ [2, 3]).Nodup by decide) ?_; (have e : devDo d false a v = (⟨d.regs, (d.timer + 1).tmod 4294967296, d.fifo⟩, d.timer, true) := by unfold devDo; (repeat' split) <;> first | rfl | (simp_all; done) | (exfalso; simp_all; omega)); rw [e]; exact ⟨(by first | rfl | (simp [List.map_set, iR]; done) | (rw [List.take_of_length_le (by simp)]; simp; done)), (by first | rfl | (simp [List.map_set, iR]; done) | (rw [List.take_of_length_le (by simp)]; simp; done))⟩) | (refine Ec [2, 5] (.inr rfl) rfl rfl rfl rfl (show (List.range 0 ++ [2, 5]).Nodup by decide) ?_; (have e : devDo d false a v = (⟨d.regs, d.timer, d.fifo.drop 1⟩, y, true) := by unfold devDo; (repeat' split) <;> first | rfl | (simp_all; done) | (exfalso; simp_all; omega)); rw [e]; exact ⟨(by first | rfl | (simp [List.map_set, iR]; done) | (rw [List.take_of_length_le (by simp)]; simp; done)), (by first | rfl | (simp [List.map_set, iR]; done) | (rw [List.take_of_length_le (by simp)]; simp; done))⟩)
 intro h20
 try rw [nnp] at h20
 try have h20' := En h20
 try have h20' := inB12 h20
 try have h20' := inB12n h20
 refine Ei rfl (Ei rfl (Ei rfl (Ea (Er rfl rfl) (Ea (Ee rfl) (Ef (Ed (Eb [1, 2, 3, 4, 8, 11, 91] rfl (Fh rfl (Eg (Eh (Ea (Em rfl rfl rfl) ?_)))))))))))
 refine Ep (Eo rfl rfl rfl rfl rfl rfl rfl) (Ea (Ee rfl) (Ea (Ee rfl) (Ef (Ed (Eb [8, 9, 10] rfl (Ek (Ff (Ev ?_))))))))
 · first | (exfalso; simp_all; done) | (refine Ec [2, 3] (.inr rfl) rfl rfl rfl rfl (show (List.range 0 ++ [2, 3]).Nodup by decide) ?_; (have e : devDo d false a v = (d, 0, false) := by unfold devDo; (repeat' split) <;> first | rfl | (simp_all; done) | (exfalso; simp_all; omega)); rw [e]; exact ⟨(by first | rfl | (simp [List.map_set, iR]; done) | (rw [List.take_of_length_le (by simp)]; simp; done)), (by first | rfl | (simp [List.map_set, iR]; done) | (rw [List.take_of_length_le (by simp)]; simp; done))⟩) | (refine Ec [2, 3] (.inr rfl) rfl rfl rfl rfl (show (List.range 0 ++ [2, 3]).Nodup by decide) ?_; (have e : devDo d false a v = (d, y, true) := by unfold devDo; (repeat' split) <;> first | rfl | (simp_all; done) | (exfalso; simp_all; omega)); rw [e]; exact ⟨(by first | rfl | (simp [List.map_set, iR]; done) | (rw [List.take_of_length_le (by simp)]; simp; done)), (by first | rfl | (simp [List.map_set, iR]; done) | (rw [List.take_of_length_le (by simp)]; simp; done))⟩) | (refine Ec [2, 3] (.inr rfl) rfl rfl rfl rfl (show (List.range 0 ++ [2, 3]).Nodup by decide) ?_; (have e : devDo d false a v = (⟨d.regs, (d.timer + 1).tmod 4294967296, d.fifo⟩, d.timer, true) := by unfold devDo; (repeat' split) <;> first | rfl | (simp_all; done) | (exfalso; simp_all; omega)); rw [e]; exact ⟨(by first | rfl | (simp [List.map_set, iR]; done) | (rw [List.take_of_length_le (by simp)]; simp; done)), (by first | rfl | (simp [List.map_set, iR]; done) | (rw [List.take_of_length_le (by simp)]; simp; done))⟩) | (refine Ec [2, 5] (.inr rfl) rfl rfl rfl rfl (show (List.range 0 ++ [2, 5]).Nodup by decide) ?_; (have e : devDo d false a v = (⟨d.regs, d.timer, d.fifo.drop 1⟩, y, true) := by unfold devDo; (repeat' split) <;> first | rfl | (simp_all; done) | (exfalso; simp_all; omega)); rw [e]; exact ⟨(by first | rfl | (simp [List.map_set, iR]; done) | (rw [List.take_of_length_le (by simp)]; simp; done)), (by first | rfl | (simp [List.map_set, iR]; done) | (rw [List.take_of_length_le (by simp)]; simp; done))⟩)
 intro h19
 try rw [nnp] at h19
 try have h19' := En h19
 try have h19' := inB12 h19
 try have h19' := inB12n h19
 refine Ei rfl (Ei rfl (Ea (Er rfl rfl) (Ea (Ee rfl) (Ei rfl (Ei rfl (Ei rfl (Ea (Er rfl rfl) (Ea (Ee rfl) (Ef (Ed (Eb [1, 2, 3, 4, 8, 11, 91] rfl ?_)))))))))))
 refine Fh rfl (Eg (Eh (Ea (Em rfl rfl rfl) (Ep (Eo rfl rfl rfl rfl rfl rfl rfl) (Ea (Ee rfl) (Ea (Ee rfl) (Ef (Ed (Eb [8, 9, 10] rfl (Ek (Ff ?_)))))))))))
 refine Ev ?_
 · first | (exfalso; simp_all; done) | (refine Ec [2, 3] (.inr rfl) rfl rfl rfl rfl (show (List.range 0 ++ [2, 3]).Nodup by decide) ?_; (have e : devDo d false a v = (d, 0, false) := by unfold devDo; (repeat' split) <;> first | rfl | (simp_all; done) | (exfalso; simp_all; omega)); rw [e]; exact ⟨(by first | rfl | (simp [List.map_set, iR]; done) | (rw [List.take_of_length_le (by simp)]; simp; done)), (by first | rfl | (simp [List.map_set, iR]; done) | (rw [List.take_of_length_le (by simp)]; simp; done))⟩) | (refine Ec [2, 3] (.inr rfl) rfl rfl rfl rfl (show (List.range 0 ++ [2, 3]).Nodup by decide) ?_; (have e : devDo d false a v = (d, y, true) := by unfold devDo; (repeat' split) <;> first | rfl | (simp_all; done) | (exfalso; simp_all; omega)); rw [e]; exact ⟨(by first | rfl | (simp [List.map_set, iR]; done) | (rw [List.take_of_length_le (by simp)]; simp; done)), (by first | rfl | (simp [List.map_set, iR]; done) | (rw [List.take_of_length_le (by simp)]; simp; done))⟩) | (refine Ec [2, 3] (.inr rfl) rfl rfl rfl rfl (show (List.range 0 ++ [2, 3]).Nodup by decide) ?_; (have e : devDo d false a v = (⟨d.regs, (d.timer + 1).tmod 4294967296, d.fifo⟩, d.timer, true) := by unfold devDo; (repeat' split) <;> first | rfl | (simp_all; done) | (exfalso; simp_all; omega)); rw [e]; exact ⟨(by first | rfl | (simp [List.map_set, iR]; done) | (rw [List.take_of_length_le (by simp)]; simp; done)), (by first | rfl | (simp [List.map_set, iR]; done) | (rw [List.take_of_length_le (by simp)]; simp; done))⟩) | (refine Ec [2, 5] (.inr rfl) rfl rfl rfl rfl (show (List.range 0 ++ [2, 5]).Nodup by decide) ?_; (have e : devDo d false a v = (⟨d.regs, d.timer, d.fifo.drop 1⟩, y, true) := by unfold devDo; (repeat' split) <;> first | rfl | (simp_all; done) | (exfalso; simp_all; omega)); rw [e]; exact ⟨(by first | rfl | (simp [List.map_set, iR]; done) | (rw [List.take_of_length_le (by simp)]; simp; done)), (by first | rfl | (simp [List.map_set, iR]; done) | (rw [List.take_of_length_le (by simp)]; simp; done))⟩)
 intro h16
 try rw [nnp] at h16
 try have h16' := En h16
 try have h16' := inB12 h16
 try have h16' := inB12n h16
 refine Ei rfl (Ei rfl (Ea (Ej rfl rfl) (Ea (Ee rfl) (Ei rfl (Ei rfl (Ei rfl (Ei rfl (Ea (Ej rfl rfl) (Ea (Ee rfl) (Ef (Ed ?_)))))))))))
 refine Eb [1, 2, 3, 4, 8, 11, 69] rfl (Fe rfl (Eg (Eh (Ea (Ee rfl) (Ea (o_geq rfl rfl) (Ea (Ee rfl) ?_))))))
 first | refine s_gDF rfl ?_ ?_ | refine s_gB rfl ?_ ?_
 intro h23
 try rw [nnp] at h23
 try have h23' := En h23
 try have h23' := inB12 h23
 try have h23' := inB12n h23
 refine Ea (Ee rfl) (Ez rfl (Ea (o_lss rfl rfl) (Ea (Ej rfl rfl) (Ea (Ee rfl) ?_))))
 first | refine s_gDF rfl ?_ ?_ | refine s_gB rfl ?_ ?_
 intro h24
 try rw [nnp] at h24
 try have h24' := En h24
 try have h24' := inB12 h24
 try have h24' := inB12n h24
 refine Ea (Ee rfl) (Ez rfl ?_)
 first | refine Ea (o_rem rfl rfl (by decide)) ?_ | refine Ea (o_rem rfl rfl (by omega)) ?_
 refine Ez rfl (Ea (o_neq rfl rfl) (Ea (Ej rfl rfl) (Ea (Ee rfl) (Ef (Ed (Eb [1, 2, 3, 4, 8, 11, 91] rfl ?_))))))
 first | refine Eu rfl ?_ ?_ | refine Et rfl ?_ ?_
 intro h25
 try rw [nnp] at h25
 try have h25' := En h25
 try have h25' := inB12 h25
 try have h25' := inB12n h25
 refine Eg (Eh (Ea (Em rfl rfl rfl) (Ep (Eo rfl rfl rfl rfl rfl rfl rfl) (Ea (Ee rfl) (Ea (Ee rfl) (Ef (Ed (Eb [8, 9, 10] rfl (Ek (Ff (Ev ?_)))))))))))
 · first | (exfalso; simp_all; done) | (refine Ec [2, 3] (.inr rfl) rfl rfl rfl rfl (show (List.range 0 ++ [2, 3]).Nodup by decide) ?_; (have e : devDo d false a v = (d, 0, false) := by unfold devDo; (repeat' split) <;> first | rfl | (simp_all; done) | (exfalso; simp_all; omega)); rw [e]; exact ⟨(by first | rfl | (simp [List.map_set, iR]; done) | (rw [List.take_of_length_le (by simp)]; simp; done)), (by first | rfl | (simp [List.map_set, iR]; done) | (rw [List.take_of_length_le (by simp)]; simp; done))⟩) | (refine Ec [2, 3] (.inr rfl) rfl rfl rfl rfl (show (List.range 0 ++ [2, 3]).Nodup by decide) ?_; (have e : devDo d false a v = (d, y, true) := by unfold devDo; (repeat' split) <;> first | rfl | (simp_all; done) | (exfalso; simp_all; omega)); rw [e]; exact ⟨(by first | rfl | (simp [List.map_set, iR]; done) | (rw [List.take_of_length_le (by simp)]; simp; done)), (by first | rfl | (simp [List.map_set, iR]; done) | (rw [List.take_of_length_le (by simp)]; simp; done))⟩) | (refine Ec [2, 3] (.inr rfl) rfl rfl rfl rfl (show (List.range 0 ++ [2, 3]).Nodup by decide) ?_; (have e : devDo d false a v = (⟨d.regs, (d.timer + 1).tmod 4294967296, d.fifo⟩, d.timer, true) := by unfold devDo; (repeat' split) <;> first | rfl | (simp_all; done) | (exfalso; simp_all; omega)); rw [e]; exact ⟨(by first | rfl | (simp [List.map_set, iR]; done) | (rw [List.take_of_length_le (by simp)]; simp; done)), (by first | rfl | (simp [List.map_set, iR]; done) | (rw [List.take_of_length_le (by simp)]; simp; done))⟩) | (refine Ec [2, 5] (.inr rfl) rfl rfl rfl rfl (show (List.range 0 ++ [2, 5]).Nodup by decide) ?_; (have e : devDo d false a v = (⟨d.regs, d.timer, d.fifo.drop 1⟩, y, true) := by unfold devDo; (repeat' split) <;> first | rfl | (simp_all; done) | (exfalso; simp_all; omega)); rw [e]; exact ⟨(by first | rfl | (simp [List.map_set, iR]; done) | (rw [List.take_of_length_le (by simp)]; simp; done)), (by first | rfl | (simp [List.map_set, iR]; done) | (rw [List.take_of_length_le (by simp)]; simp; done))⟩)
 intro h25
 try rw [nnp] at h25
 try have h25' := En h25
 try have h25' := inB12 h25
 try have h25' := inB12n h25
 refine Eg (Eh (Ea (Ee rfl) (Ea (Ee rfl) (Ef (Ed (Eb [2, 3, 4, 8, 11, 104] rfl (Fe rfl (Eh (Ea (Ew rfl) (Ea (Fd rfl rfl rfl) (Ea (Ee rfl) ?_)))))))))))
 first | refine Ea (o_quo rfl rfl (by decide)) ?_ | refine Ea (o_quo rfl rfl (by omega)) ?_
 rw [(tdiv4 (by omega)).1]
 have hq := tdiv4 (a := a) (by omega)
 have h12 := mod4 (a := a) (by first | assumption | omega) (by omega) (by omega)
 refine s_iaM rfl rfl (by (try simp only [List.length_map]); omega) ?_
 intro y26 e26
 revert y26 e26; intro y hy
 refine Ea (o_ld rfl rfl) (Ea (Ee rfl) (Ef (Fg (Ed (Eb [3, 8, 11] rfl (Eg (Eh (Ea (Em rfl rfl rfl) (Ea (Ee rfl) (Ep (Eo rfl rfl rfl rfl rfl rfl rfl) (Ea (Ee rfl) ?_)))))))))))
 refine Ea (Ee rfl) (Ef (Ed (Eb [8, 9, 10] rfl (Ek ?_))))
 · first | (exfalso; simp_all; done) | (refine Ec [2, 3] (.inr rfl) rfl rfl rfl rfl (show (List.range 0 ++ [2, 3]).Nodup by decide) ?_; (have e : devDo d false a v = (d, 0, false) := by unfold devDo; (repeat' split) <;> first | rfl | (simp_all; done) | (exfalso; simp_all; omega)); rw [e]; exact ⟨(by first | rfl | (simp [List.map_set, iR]; done) | (rw [List.take_of_length_le (by simp)]; simp; done)), (by first | rfl | (simp [List.map_set, iR]; done) | (rw [List.take_of_length_le (by simp)]; simp; done))⟩) | (refine Ec [2, 3] (.inr rfl) rfl rfl rfl rfl (show (List.range 0 ++ [2, 3]).Nodup by decide) ?_; (have e : devDo d false a v = (d, y, true) := by unfold devDo; (repeat' split) <;> first | rfl | (simp_all; done) | (exfalso; simp_all; omega)); rw [e]; exact ⟨(by first | rfl | (simp [List.map_set, iR]; done) | (rw [List.take_of_length_le (by simp)]; simp; done)), (by first | rfl | (simp [List.map_set, iR]; done) | (rw [List.take_of_length_le (by simp)]; simp; done))⟩) | (refine Ec [2, 3] (.inr rfl) rfl rfl rfl rfl (show (List.range 0 ++ [2, 3]).Nodup by decide) ?_; (have e : devDo d false a v = (⟨d.regs, (d.timer + 1).tmod 4294967296, d.fifo⟩, d.timer, true) := by unfold devDo; (repeat' split) <;> first | rfl | (simp_all; done) | (exfalso; simp_all; omega)); rw [e]; exact ⟨(by first | rfl | (simp [List.map_set, iR]; done) | (rw [List.take_of_length_le (by simp)]; simp; done)), (by first | rfl | (simp [List.map_set, iR]; done) | (rw [List.take_of_length_le (by simp)]; simp; done))⟩) | (refine Ec [2, 5] (.inr rfl) rfl rfl rfl rfl (show (List.range 0 ++ [2, 5]).Nodup by decide) ?_; (have e : devDo d false a v = (⟨d.regs, d.timer, d.fifo.drop 1⟩, y, true) := by unfold devDo; (repeat' split) <;> first | rfl | (simp_all; done) | (exfalso; simp_all; omega)); rw [e]; exact ⟨(by first | rfl | (simp [List.map_set, iR]; done) | (rw [List.take_of_length_le (by simp)]; simp; done)), (by first | rfl | (simp [List.map_set, iR]; done) | (rw [List.take_of_length_le (by simp)]; simp; done))⟩)
 intro h24
 try rw [nnp] at h24
 try have h24' := En h24
 try have h24' := inB12 h24
 try have h24' := inB12n h24
 refine Ei rfl (Ei rfl (Ei rfl (Ea (Er rfl rfl) (Ea (Ee rfl) (Ef (Ed (Eb [1, 2, 3, 4, 8, 11, 91] rfl (Fh rfl (Eg (Eh (Ea (Em rfl rfl rfl) ?_)))))))))))
 refine Ep (Eo rfl rfl rfl rfl rfl rfl rfl) (Ea (Ee rfl) (Ea (Ee rfl) (Ef (Ed (Eb [8, 9, 10] rfl (Ek (Ff (Ev ?_))))))))
 · first | (exfalso; simp_all; done) | (refine Ec [2, 3] (.inr rfl) rfl rfl rfl rfl (show (List.range 0 ++ [2, 3]).Nodup by decide) ?_; (have e : devDo d false a v = (d, 0, false) := by unfold devDo; (repeat' split) <;> first | rfl | (simp_all; done) | (exfalso; simp_all; omega)); rw [e]; exact ⟨(by first | rfl | (simp [List.map_set, iR]; done) | (rw [List.take_of_length_le (by simp)]; simp; done)), (by first | rfl | (simp [List.map_set, iR]; done) | (rw [List.take_of_length_le (by simp)]; simp; done))⟩) | (refine Ec [2, 3] (.inr rfl) rfl rfl rfl rfl (show (List.range 0 ++ [2, 3]).Nodup by decide) ?_; (have e : devDo d false a v = (d, y, true) := by unfold devDo; (repeat' split) <;> first | rfl | (simp_all; done) | (exfalso; simp_all; omega)); rw [e]; exact ⟨(by first | rfl | (simp [List.map_set, iR]; done) | (rw [List.take_of_length_le (by simp)]; simp; done)), (by first | rfl | (simp [List.map_set, iR]; done) | (rw [List.take_of_length_le (by simp)]; simp; done))⟩) | (refine Ec [2, 3] (.inr rfl) rfl rfl rfl rfl (show (List.range 0 ++ [2, 3]).Nodup by decide) ?_; (have e : devDo d false a v = (⟨d.regs, (d.timer + 1).tmod 4294967296, d.fifo⟩, d.timer, true) := by unfold devDo; (repeat' split) <;> first | rfl | (simp_all; done) | (exfalso; simp_all; omega)); rw [e]; exact ⟨(by first | rfl | (simp [List.map_set, iR]; done) | (rw [List.take_of_length_le (by simp)]; simp; done)), (by first | rfl | (simp [List.map_set, iR]; done) | (rw [List.take_of_length_le (by simp)]; simp; done))⟩) | (refine Ec [2, 5] (.inr rfl) rfl rfl rfl rfl (show (List.range 0 ++ [2, 5]).Nodup by decide) ?_; (have e : devDo d false a v = (⟨d.regs, d.timer, d.fifo.drop 1⟩, y, true) := by unfold devDo; (repeat' split) <;> first | rfl | (simp_all; done) | (exfalso; simp_all; omega)); rw [e]; exact ⟨(by first | rfl | (simp [List.map_set, iR]; done) | (rw [List.take_of_length_le (by simp)]; simp; done)), (by first | rfl | (simp [List.map_set, iR]; done) | (rw [List.take_of_length_le (by simp)]; simp; done))⟩)
 intro h23
 try rw [nnp] at h23
 try have h23' := En h23
 try have h23' := inB12 h23
 try have h23' := inB12n h23
 refine Ei rfl (Ei rfl (Ea (Er rfl rfl) (Ea (Ee rfl) (Ei rfl (Ei rfl (Ei rfl (Ea (Er rfl rfl) (Ea (Ee rfl) (Ef (Ed (Eb [1, 2, 3, 4, 8, 11, 91] rfl ?_)))))))))))
 refine Fh rfl (Eg (Eh (Ea (Em rfl rfl rfl) (Ep (Eo rfl rfl rfl rfl rfl rfl rfl) (Ea (Ee rfl) (Ea (Ee rfl) (Ef (Ed (Eb [8, 9, 10] rfl (Ek (Ff ?_)))))))))))
 refine Ev ?_
 · first | (exfalso; simp_all; done) | (refine Ec [2, 3] (.inr rfl) rfl rfl rfl rfl (show (List.range 0 ++ [2, 3]).Nodup by decide) ?_; (have e : devDo d false a v = (d, 0, false) := by unfold devDo; (repeat' split) <;> first | rfl | (simp_all; done) | (exfalso; simp_all; omega)); rw [e]; exact ⟨(by first | rfl | (simp [List.map_set, iR]; done) | (rw [List.take_of_length_le (by simp)]; simp; done)), (by first | rfl | (simp [List.map_set, iR]; done) | (rw [List.take_of_length_le (by simp)]; simp; done))⟩) | (refine Ec [2, 3] (.inr rfl) rfl rfl rfl rfl (show (List.range 0 ++ [2, 3]).Nodup by decide) ?_; (have e : devDo d false a v = (d, y, true) := by unfold devDo; (repeat' split) <;> first | rfl | (simp_all; done) | (exfalso; simp_all; omega)); rw [e]; exact ⟨(by first | rfl | (simp [List.map_set, iR]; done) | (rw [List.take_of_length_le (by simp)]; simp; done)), (by first | rfl | (simp [List.map_set, iR]; done) | (rw [List.take_of_length_le (by simp)]; simp; done))⟩) | (refine Ec [2, 3] (.inr rfl) rfl rfl rfl rfl (show (List.range 0 ++ [2, 3]).Nodup by decide) ?_; (have e : devDo d false a v = (⟨d.regs, (d.timer + 1).tmod 4294967296, d.fifo⟩, d.timer, true) := by unfold devDo; (repeat' split) <;> first | rfl | (simp_all; done) | (exfalso; simp_all; omega)); rw [e]; exact ⟨(by first | rfl | (simp [List.map_set, iR]; done) | (rw [List.take_of_length_le (by simp)]; simp; done)), (by first | rfl | (simp [List.map_set, iR]; done) | (rw [List.take_of_length_le (by simp)]; simp; done))⟩) | (refine Ec [2, 5] (.inr rfl) rfl rfl rfl rfl (show (List.range 0 ++ [2, 5]).Nodup by decide) ?_; (have e : devDo d false a v = (⟨d.regs, d.timer, d.fifo.drop 1⟩, y, true) := by unfold devDo; (repeat' split) <;> first | rfl | (simp_all; done) | (exfalso; simp_all; omega)); rw [e]; exact ⟨(by first | rfl | (simp [List.map_set, iR]; done) | (rw [List.take_of_length_le (by simp)]; simp; done)), (by first | rfl | (simp [List.map_set, iR]; done) | (rw [List.take_of_length_le (by simp)]; simp; done))⟩)
 intro h2
 try rw [nnp] at h2
 try have h2' := En h2
 try have h2' := inB12 h2
 try have h2' := inB12n h2
 refine Ei rfl (Ea (Ej rfl rfl) (Ea (Ee rfl) (Ef (Ed (Eb [1, 2, 3, 4, 8, 11, 32] rfl (Fe rfl (Eg (Eh (Ea (Ee rfl) (Ea (o_eql rfl rfl) (Ea (Ee rfl) ?_)))))))))))
 refine Ef (Ed (Eb [1, 2, 3, 4, 8, 11, 40] rfl ?_))
 first | refine Eu rfl ?_ ?_ | refine Et rfl ?_ ?_
 intro h27
 try rw [nnp] at h27
 try have h27' := En h27
 try have h27' := inB12 h27
 try have h27' := inB12n h27
 refine Eg (Eh (Ea (Ew rfl) (Ea (Fd rfl rfl rfl) (Ea (Ee rfl) (Ef (Ed (Eb [3, 4, 8, 11] rfl (Eh (Ea (Ew rfl) (Ea (Fd rfl rfl rfl) ?_))))))))))
 first | refine Ea (o_addn rfl rfl (by omega)) ?_ | refine Ea (o_add rfl rfl) ?_
 refine Fc rfl rfl c_51w ?_
 first | refine Ea (o_rem rfl rfl (by decide)) ?_ | refine Ea (o_rem rfl rfl (by omega)) ?_
 refine Ea (Ew rfl) (Ep (o_stC rfl rfl rfl rfl rfl rfl) (Ef (Fg (Ed (Eb [3, 8, 11] rfl (Eg (Eh (Ea (Em rfl rfl rfl) (Ea (Ee rfl) (Ep (Eo rfl rfl rfl rfl rfl rfl rfl) (Ea (Ee rfl) ?_)))))))))))
 refine Ea (Ee rfl) (Ef (Ed (Eb [8, 9, 10] rfl (Ek ?_))))
 · first | (exfalso; simp_all; done) | (refine Ec [2, 3] (.inr rfl) rfl rfl rfl rfl (show (List.range 0 ++ [2, 3]).Nodup by decide) ?_; (have e : devDo d false a v = (d, 0, false) := by unfold devDo; (repeat' split) <;> first | rfl | (simp_all; done) | (exfalso; simp_all; omega)); rw [e]; exact ⟨(by first | rfl | (simp [List.map_set, iR]; done) | (rw [List.take_of_length_le (by simp)]; simp; done)), (by first | rfl | (simp [List.map_set, iR]; done) | (rw [List.take_of_length_le (by simp)]; simp; done))⟩) | (refine Ec [2, 3] (.inr rfl) rfl rfl rfl rfl (show (List.range 0 ++ [2, 3]).Nodup by decide) ?_; (have e : devDo d false a v = (d, y, true) := by unfold devDo; (repeat' split) <;> first | rfl | (simp_all; done) | (exfalso; simp_all; omega)); rw [e]; exact ⟨(by first | rfl | (simp [List.map_set, iR]; done) | (rw [List.take_of_length_le (by simp)]; simp; done)), (by first | rfl | (simp [List.map_set, iR]; done) | (rw [List.take_of_length_le (by simp)]; simp; done))⟩) | (refine Ec [2, 3] (.inr rfl) rfl rfl rfl rfl (show (List.range 0 ++ [2, 3]).Nodup by decide) ?_; (have e : devDo d false a v = (⟨d.regs, (d.timer + 1).tmod 4294967296, d.fifo⟩, d.timer, true) := by unfold devDo; (repeat' split) <;> first | rfl | (simp_all; done) | (exfalso; simp_all; omega)); rw [e]; exact ⟨(by first | rfl | (simp [List.map_set, iR]; done) | (rw [List.take_of_length_le (by simp)]; simp; done)), (by first | rfl | (simp [List.map_set, iR]; done) | (rw [List.take_of_length_le (by simp)]; simp; done))⟩) | (refine Ec [2, 5] (.inr rfl) rfl rfl rfl rfl (show (List.range 0 ++ [2, 5]).Nodup by decide) ?_; (have e : devDo d false a v = (⟨d.regs, d.timer, d.fifo.drop 1⟩, y, true) := by unfold devDo; (repeat' split) <;> first | rfl | (simp_all; done) | (exfalso; simp_all; omega)); rw [e]; exact ⟨(by first | rfl | (simp [List.map_set, iR]; done) | (rw [List.take_of_length_le (by simp)]; simp; done)), (by first | rfl | (simp [List.map_set, iR]; done) | (rw [List.take_of_length_le (by simp)]; simp; done))⟩)
 intro h27
 try rw [nnp] at h27
 try have h27' := En h27
 try have h27' := inB12 h27
 try have h27' := inB12n h27
 refine Eg (Eh (Ea (Ee rfl) (Ea (o_eql rfl rfl) (Ea (Ee rfl) ?_))))
 first | refine s_gDT rfl ?_ ?_ | refine s_gB rfl ?_ ?_
 intro h28
 try rw [nnp] at h28
 try have h28' := En h28
 try have h28' := inB12 h28
 try have h28' := inB12n h28
 refine Ea (Ee rfl) (Ea (Er rfl rfl) (Ea (Ee rfl) (Ei rfl (Ei rfl (Ei rfl (Ei rfl (Ea (Ej rfl rfl) (Ea (Ee rfl) (Ef (Ed (Eb [1, 2, 3, 4, 8, 11, 51] rfl ?_)))))))))))
 refine Fe rfl (Eg (Eh (Ea (Ee rfl) (Ea (o_eql rfl rfl) (Ea (Ee rfl) ?_)))))
 first | refine s_gDT rfl ?_ ?_ | refine s_gB rfl ?_ ?_
 intro h29
 try rw [nnp] at h29
 try have h29' := En h29
 try have h29' := inB12 h29
 try have h29' := inB12n h29
 refine Ea (Ee rfl) (Ez rfl (Ea (o_not rfl) (Ea (Er rfl rfl) (Ea (Ee rfl) (Ez rfl (Ea (Ew rfl) (Ez rfl (Ea (Fd rfl rfl rfl) (Ez rfl ?_)))))))))
 first | refine Ea (o_lenM rfl) ?_ | refine Ea (o_len rfl) ?_ | refine Ea (o_lenL rfl rfl (by simp)) ?_ | refine Ea (o_lenN rfl) ?_
 refine Ez rfl (Ea (o_gtr rfl rfl) (Ea (Er rfl rfl) (Ea (Ee rfl) (Ef (Ed (Eb [1, 2, 3, 4, 8, 11, 69] rfl ?_))))))
 first | refine Eu rfl ?_ ?_ | refine Et rfl ?_ ?_
 intro h30
 try rw [nnp] at h30
 try have h30' := En h30
 try have h30' := inB12 h30
 try have h30' := inB12n h30
 refine Eg (Eh (Ea (Ew rfl) (Ea (Fd rfl rfl rfl) (s_iaM rfl rfl (by (try simp only [List.length_map]); omega) ?_))))
 intro y31 e31
 revert y31 e31; intro y hy
 refine Ea (o_ld rfl rfl) (Ea (Ee rfl) (Ef (Ed (Eb [3, 4, 8, 11] rfl (Eh (Ea (Ew rfl) (Ea (Fd rfl rfl rfl) (Ea (o_sl rfl rfl rfl (by simp; omega) (by simp; omega)) ?_))))))))
 rw [sl1_eq d.fifo]
 refine s_callG [] rfl rfl rfl rfl (by simp) (.inl rfl) (cg_253 (d.fifo.drop 1) (by simp; omega)) ?_
 rintro u L1 ⟨rfl, rfl⟩
 refine ⟨_, _, rfl, rfl, ?_⟩
 refine Ea (Ew rfl) (Ep (o_stC rfl rfl rfl rfl rfl rfl) (Ef (Fg (Ed (Eb [3, 8, 11] rfl (Eg (Eh (Ea (Em rfl rfl rfl) (Ea (Ee rfl) (Ep (Eo rfl rfl rfl rfl rfl rfl rfl) (Ea (Ee rfl) ?_)))))))))))
 refine Ea (Ee rfl) (Ef (Ed (Eb [8, 9, 10] rfl (Ek ?_))))
 · first | (exfalso; simp_all; done) | (refine Ec [2, 3] (.inr rfl) rfl rfl rfl rfl (show (List.range 0 ++ [2, 3]).Nodup by decide) ?_; (have e : devDo d false a v = (d, 0, false) := by unfold devDo; (repeat' split) <;> first | rfl | (simp_all; done) | (exfalso; simp_all; omega)); rw [e]; exact ⟨(by first | rfl | (simp [List.map_set, iR]; done) | (rw [List.take_of_length_le (by simp)]; simp; done)), (by first | rfl | (simp [List.map_set, iR]; done) | (rw [List.take_of_length_le (by simp)]; simp; done))⟩) | (refine Ec [2, 3] (.inr rfl) rfl rfl rfl rfl (show (List.range 0 ++ [2, 3]).Nodup by decide) ?_; (have e : devDo d false a v = (d, y, true) := by unfold devDo; (repeat' split) <;> first | rfl | (simp_all; done) | (exfalso; simp_all; omega)); rw [e]; exact ⟨(by first | rfl | (simp [List.map_set, iR]; done) | (rw [List.take_of_length_le (by simp)]; simp; done)), (by first | rfl | (simp [List.map_set, iR]; done) | (rw [List.take_of_length_le (by simp)]; simp; done))⟩) | (refine Ec [2, 3] (.inr rfl) rfl rfl rfl rfl (show (List.range 0 ++ [2, 3]).Nodup by decide) ?_; (have e : devDo d false a v = (⟨d.regs, (d.timer + 1).tmod 4294967296, d.fifo⟩, d.timer, true) := by unfold devDo; (repeat' split) <;> first | rfl | (simp_all; done) | (exfalso; simp_all; omega)); rw [e]; exact ⟨(by first | rfl | (simp [List.map_set, iR]; done) | (rw [List.take_of_length_le (by simp)]; simp; done)), (by first | rfl | (simp [List.map_set, iR]; done) | (rw [List.take_of_length_le (by simp)]; simp; done))⟩) | (refine Ec [2, 5] (.inr rfl) rfl rfl rfl rfl (show (List.range 0 ++ [2, 5]).Nodup by decide) ?_; (have e : devDo d false a v = (⟨d.regs, d.timer, d.fifo.drop 1⟩, y, true) := by unfold devDo; (repeat' split) <;> first | rfl | (simp_all; done) | (exfalso; simp_all; omega)); rw [e]; exact ⟨(by first | rfl | (simp [List.map_set, iR]; done) | (rw [List.take_of_length_le (by simp)]; simp; done)), (by first | rfl | (simp [List.map_set, iR]; done) | (rw [List.take_of_length_le (by simp)]; simp; done))⟩)
 intro h30
 try rw [nnp] at h30
 try have h30' := En h30
 try have h30' := inB12 h30
 try have h30' := inB12n h30
 refine Eg (Eh (Ea (Ee rfl) (Ea (o_geq rfl rfl) (Ea (Ee rfl) ?_))))
 first | refine s_gDF rfl ?_ ?_ | refine s_gB rfl ?_ ?_
 intro h32
 try rw [nnp] at h32
 try have h32' := En h32
 try have h32' := inB12 h32
 try have h32' := inB12n h32
 refine Ea (Ee rfl) (Ez rfl (Ea (o_lss rfl rfl) (Ea (Ej rfl rfl) (Ea (Ee rfl) ?_))))
 first | refine s_gDF rfl ?_ ?_ | refine s_gB rfl ?_ ?_
 intro h33
 try rw [nnp] at h33
 try have h33' := En h33
 try have h33' := inB12 h33
 try have h33' := inB12n h33
 refine Ea (Ee rfl) (Ez rfl ?_)
 first | refine Ea (o_rem rfl rfl (by decide)) ?_ | refine Ea (o_rem rfl rfl (by omega)) ?_
 refine Ez rfl (Ea (o_neq rfl rfl) (Ea (Ej rfl rfl) (Ea (Ee rfl) (Ef (Ed (Eb [1, 2, 3, 4, 8, 11, 91] rfl ?_))))))
 first | refine Eu rfl ?_ ?_ | refine Et rfl ?_ ?_
 intro h34
 try rw [nnp] at h34
 try have h34' := En h34
 try have h34' := inB12 h34
 try have h34' := inB12n h34
 refine Eg (Eh (Ea (Em rfl rfl rfl) (Ep (Eo rfl rfl rfl rfl rfl rfl rfl) (Ea (Ee rfl) (Ea (Ee rfl) (Ef (Ed (Eb [8, 9, 10] rfl (Ek (Ff (Ev ?_)))))))))))
 · first | (exfalso; simp_all; done) | (refine Ec [2, 3] (.inr rfl) rfl rfl rfl rfl (show (List.range 0 ++ [2, 3]).Nodup by decide) ?_; (have e : devDo d false a v = (d, 0, false) := by unfold devDo; (repeat' split) <;> first | rfl | (simp_all; done) | (exfalso; simp_all; omega)); rw [e]; exact ⟨(by first | rfl | (simp [List.map_set, iR]; done) | (rw [List.take_of_length_le (by simp)]; simp; done)), (by first | rfl | (simp [List.map_set, iR]; done) | (rw [List.take_of_length_le (by simp)]; simp; done))⟩) | (refine Ec [2, 3] (.inr rfl) rfl rfl rfl rfl (show (List.range 0 ++ [2, 3]).Nodup by decide) ?_; (have e : devDo d false a v = (d, y, true) := by unfold devDo; (repeat' split) <;> first | rfl | (simp_all; done) | (exfalso; simp_all; omega)); rw [e]; exact ⟨(by first | rfl | (simp [List.map_set, iR]; done) | (rw [List.take_of_length_le (by simp)]; simp; done)), (by first | rfl | (simp [List.map_set, iR]; done) | (rw [List.take_of_length_le (by simp)]; simp; done))⟩) | (refine Ec [2, 3] (.inr rfl) rfl rfl rfl rfl (show (List.range 0 ++ [2, 3]).Nodup by decide) ?_; (have e : devDo d false a v = (⟨d.regs, (d.timer + 1).tmod 4294967296, d.fifo⟩, d.timer, true) := by unfold devDo; (repeat' split) <;> first | rfl | (simp_all; done) | (exfalso; simp_all; omega)); rw [e]; exact ⟨(by first | rfl | (simp [List.map_set, iR]; done) | (rw [List.take_of_length_le (by simp)]; simp; done)), (by first | rfl | (simp [List.map_set, iR]; done) | (rw [List.take_of_length_le (by simp)]; simp; done))⟩) | (refine Ec [2, 5] (.inr rfl) rfl rfl rfl rfl (show (List.range 0 ++ [2, 5]).Nodup by decide) ?_; (have e : devDo d false a v = (⟨d.regs, d.timer, d.fifo.drop 1⟩, y, true) := by unfold devDo; (repeat' split) <;> first | rfl | (simp_all; done) | (exfalso; simp_all; omega)); rw [e]; exact ⟨(by first | rfl | (simp [List.map_set, iR]; done) | (rw [List.take_of_length_le (by simp)]; simp; done)), (by first | rfl | (simp [List.map_set, iR]; done) | (rw [List.take_of_length_le (by simp)]; simp; done))⟩)
 intro h34
 try rw [nnp] at h34
 try have h34' := En h34
 try have h34' := inB12 h34
 try have h34' := inB12n h34
 refine Eg (Eh (Ea (Ee rfl) (Ea (Ee rfl) (Ef (Ed (Eb [2, 3, 4, 8, 11, 104] rfl (Fe rfl (Eh (Ea (Ew rfl) (Ea (Fd rfl rfl rfl) (Ea (Ee rfl) ?_)))))))))))
 first | refine Ea (o_quo rfl rfl (by decide)) ?_ | refine Ea (o_quo rfl rfl (by omega)) ?_
 rw [(tdiv4 (by omega)).1]
 have hq := tdiv4 (a := a) (by omega)
 have h12 := mod4 (a := a) (by first | assumption | omega) (by omega) (by omega)
 refine s_iaM rfl rfl (by (try simp only [List.length_map]); omega) ?_
 intro y35 e35
 revert y35 e35; intro y hy
 refine Ea (o_ld rfl rfl) (Ea (Ee rfl) (Ef (Fg (Ed (Eb [3, 8, 11] rfl (Eg (Eh (Ea (Em rfl rfl rfl) (Ea (Ee rfl) (Ep (Eo rfl rfl rfl rfl rfl rfl rfl) (Ea (Ee rfl) ?_)))))))))))
 refine Ea (Ee rfl) (Ef (Ed (Eb [8, 9, 10] rfl (Ek ?_))))
 · first | (exfalso; simp_all; done) | (refine Ec [2, 3] (.inr rfl) rfl rfl rfl rfl (show (List.range 0 ++ [2, 3]).Nodup by decide) ?_; (have e : devDo d false a v = (d, 0, false) := by unfold devDo; (repeat' split) <;> first | rfl | (simp_all; done) | (exfalso; simp_all; omega)); rw [e]; exact ⟨(by first | rfl | (simp [List.map_set, iR]; done) | (rw [List.take_of_length_le (by simp)]; simp; done)), (by first | rfl | (simp [List.map_set, iR]; done) | (rw [List.take_of_length_le (by simp)]; simp; done))⟩) | (refine Ec [2, 3] (.inr rfl) rfl rfl rfl rfl (show (List.range 0 ++ [2, 3]).Nodup by decide) ?_; (have e : devDo d false a v = (d, y, true) := by unfold devDo; (repeat' split) <;> first | rfl | (simp_all; done) | (exfalso; simp_all; omega)); rw [e]; exact ⟨(by first | rfl | (simp [List.map_set, iR]; done) | (rw [List.take_of_length_le (by simp)]; simp; done)), (by first | rfl | (simp [List.map_set, iR]; done) | (rw [List.take_of_length_le (by simp)]; simp; done))⟩) | (refine Ec [2, 3] (.inr rfl) rfl rfl rfl rfl (show (List.range 0 ++ [2, 3]).Nodup by decide) ?_; (have e : devDo d false a v = (⟨d.regs, (d.timer + 1).tmod 4294967296, d.fifo⟩, d.timer, true) := by unfold devDo; (repeat' split) <;> first | rfl | (simp_all; done) | (exfalso; simp_all; omega)); rw [e]; exact ⟨(by first | rfl | (simp [List.map_set, iR]; done) | (rw [List.take_of_length_le (by simp)]; simp; done)), (by first | rfl | (simp [List.map_set, iR]; done) | (rw [List.take_of_length_le (by simp)]; simp; done))⟩) | (refine Ec [2, 5] (.inr rfl) rfl rfl rfl rfl (show (List.range 0 ++ [2, 5]).Nodup by decide) ?_; (have e : devDo d false a v = (⟨d.regs, d.timer, d.fifo.drop 1⟩, y, true) := by unfold devDo; (repeat' split) <;> first | rfl | (simp_all; done) | (exfalso; simp_all; omega)); rw [e]; exact ⟨(by first | rfl | (simp [List.map_set, iR]; done) | (rw [List.take_of_length_le (by simp)]; simp; done)), (by first | rfl | (simp [List.map_set, iR]; done) | (rw [List.take_of_length_le (by simp)]; simp; done))⟩)
 intro h33
 try rw [nnp] at h33
 try have h33' := En h33
 try have h33' := inB12 h33
 try have h33' := inB12n h33
 refine Ei rfl (Ei rfl (Ei rfl (Ea (Er rfl rfl) (Ea (Ee rfl) (Ef (Ed (Eb [1, 2, 3, 4, 8, 11, 91] rfl (Fh rfl (Eg (Eh (Ea (Em rfl rfl rfl) ?_)))))))))))
 refine Ep (Eo rfl rfl rfl rfl rfl rfl rfl) (Ea (Ee rfl) (Ea (Ee rfl) (Ef (Ed (Eb [8, 9, 10] rfl (Ek (Ff (Ev ?_))))))))
 · first | (exfalso; simp_all; done) | (refine Ec [2, 3] (.inr rfl) rfl rfl rfl rfl (show (List.range 0 ++ [2, 3]).Nodup by decide) ?_; (have e : devDo d false a v = (d, 0, false) := by unfold devDo; (repeat' split) <;> first | rfl | (simp_all; done) | (exfalso; simp_all; omega)); rw [e]; exact ⟨(by first | rfl | (simp [List.map_set, iR]; done) | (rw [List.take_of_length_le (by simp)]; simp; done)), (by first | rfl | (simp [List.map_set, iR]; done) | (rw [List.take_of_length_le (by simp)]; simp; done))⟩) | (refine Ec [2, 3] (.inr rfl) rfl rfl rfl rfl (show (List.range 0 ++ [2, 3]).Nodup by decide) ?_; (have e : devDo d false a v = (d, y, true) := by unfold devDo; (repeat' split) <;> first | rfl | (simp_all; done) | (exfalso; simp_all; omega)); rw [e]; exact ⟨(by first | rfl | (simp [List.map_set, iR]; done) | (rw [List.take_of_length_le (by simp)]; simp; done)), (by first | rfl | (simp [List.map_set, iR]; done) | (rw [List.take_of_length_le (by simp)]; simp; done))⟩) | (refine Ec [2, 3] (.inr rfl) rfl rfl rfl rfl (show (List.range 0 ++ [2, 3]).Nodup by decide) ?_; (have e : devDo d false a v = (⟨d.regs, (d.timer + 1).tmod 4294967296, d.fifo⟩, d.timer, true) := by unfold devDo; (repeat' split) <;> first | rfl | (simp_all; done) | (exfalso; simp_all; omega)); rw [e]; exact ⟨(by first | rfl | (simp [List.map_set, iR]; done) | (rw [List.take_of_length_le (by simp)]; simp; done)), (by first | rfl | (simp [List.map_set, iR]; done) | (rw [List.take_of_length_le (by simp)]; simp; done))⟩) | (refine Ec [2, 5] (.inr rfl) rfl rfl rfl rfl (show (List.range 0 ++ [2, 5]).Nodup by decide) ?_; (have e : devDo d false a v = (⟨d.regs, d.timer, d.fifo.drop 1⟩, y, true) := by unfold devDo; (repeat' split) <;> first | rfl | (simp_all; done) | (exfalso; simp_all; omega)); rw [e]; exact ⟨(by first | rfl | (simp [List.map_set, iR]; done) | (rw [List.take_of_length_le (by simp)]; simp; done)), (by first | rfl | (simp [List.map_set, iR]; done) | (rw [List.take_of_length_le (by simp)]; simp; done))⟩)
 intro h32
 try rw [nnp] at h32
 try have h32' := En h32
 try have h32' := inB12 h32
 try have h32' := inB12n h32
 refine Ei rfl (Ei rfl (Ea (Er rfl rfl) (Ea (Ee rfl) (Ei rfl (Ei rfl (Ei rfl (Ea (Er rfl rfl) (Ea (Ee rfl) (Ef (Ed (Eb [1, 2, 3, 4, 8, 11, 91] rfl ?_)))))))))))
 refine Fh rfl (Eg (Eh (Ea (Em rfl rfl rfl) (Ep (Eo rfl rfl rfl rfl rfl rfl rfl) (Ea (Ee rfl) (Ea (Ee rfl) (Ef (Ed (Eb [8, 9, 10] rfl (Ek (Ff ?_)))))))))))
 refine Ev ?_
 · first | (exfalso; simp_all; done) | (refine Ec [2, 3] (.inr rfl) rfl rfl rfl rfl (show (List.range 0 ++ [2, 3]).Nodup by decide) ?_; (have e : devDo d false a v = (d, 0, false) := by unfold devDo; (repeat' split) <;> first | rfl | (simp_all; done) | (exfalso; simp_all; omega)); rw [e]; exact ⟨(by first | rfl | (simp [List.map_set, iR]; done) | (rw [List.take_of_length_le (by simp)]; simp; done)), (by first | rfl | (simp [List.map_set, iR]; done) | (rw [List.take_of_length_le (by simp)]; simp; done))⟩) | (refine Ec [2, 3] (.inr rfl) rfl rfl rfl rfl (show (List.range 0 ++ [2, 3]).Nodup by decide) ?_; (have e : devDo d false a v = (d, y, true) := by unfold devDo; (repeat' split) <;> first | rfl | (simp_all; done) | (exfalso; simp_all; omega)); rw [e]; exact ⟨(by first | rfl | (simp [List.map_set, iR]; done) | (rw [List.take_of_length_le (by simp)]; simp; done)), (by first | rfl | (simp [List.map_set, iR]; done) | (rw [List.take_of_length_le (by simp)]; simp; done))⟩) | (refine Ec [2, 3] (.inr rfl) rfl rfl rfl rfl (show (List.range 0 ++ [2, 3]).Nodup by decide) ?_; (have e : devDo d false a v = (⟨d.regs, (d.timer + 1).tmod 4294967296, d.fifo⟩, d.timer, true) := by unfold devDo; (repeat' split) <;> first | rfl | (simp_all; done) | (exfalso; simp_all; omega)); rw [e]; exact ⟨(by first | rfl | (simp [List.map_set, iR]; done) | (rw [List.take_of_length_le (by simp)]; simp; done)), (by first | rfl | (simp [List.map_set, iR]; done) | (rw [List.take_of_length_le (by simp)]; simp; done))⟩) | (refine Ec [2, 5] (.inr rfl) rfl rfl rfl rfl (show (List.range 0 ++ [2, 5]).Nodup by decide) ?_; (have e : devDo d false a v = (⟨d.regs, d.timer, d.fifo.drop 1⟩, y, true) := by unfold devDo; (repeat' split) <;> first | rfl | (simp_all; done) | (exfalso; simp_all; omega)); rw [e]; exact ⟨(by first | rfl | (simp [List.map_set, iR]; done) | (rw [List.take_of_length_le (by simp)]; simp; done)), (by first | rfl | (simp [List.map_set, iR]; done) | (rw [List.take_of_length_le (by simp)]; simp; done))⟩)
 intro h29
 try rw [nnp] at h29
 try have h29' := En h29
 try have h29' := inB12 h29
 try have h29' := inB12n h29
 refine Ei rfl (Ei rfl (Ea (Ej rfl rfl) (Ea (Ee rfl) (Ei rfl (Ei rfl (Ei rfl (Ei rfl (Ea (Ej rfl rfl) (Ea (Ee rfl) (Ef (Ed ?_)))))))))))
 refine Eb [1, 2, 3, 4, 8, 11, 69] rfl (Fe rfl (Eg (Eh (Ea (Ee rfl) (Ea (o_geq rfl rfl) (Ea (Ee rfl) ?_))))))
 first | refine s_gDF rfl ?_ ?_ | refine s_gB rfl ?_ ?_
 intro h36
 try rw [nnp] at h36
 try have h36' := En h36
 try have h36' := inB12 h36
 try have h36' := inB12n h36
 refine Ea (Ee rfl) (Ez rfl (Ea (o_lss rfl rfl) (Ea (Ej rfl rfl) (Ea (Ee rfl) ?_))))
 first | refine s_gDF rfl ?_ ?_ | refine s_gB rfl ?_ ?_
 intro h37
 try rw [nnp] at h37
 try have h37' := En h37
 try have h37' := inB12 h37
 try have h37' := inB12n h37
 refine Ea (Ee rfl) (Ez rfl ?_)
 first | refine Ea (o_rem rfl rfl (by decide)) ?_ | refine Ea (o_rem rfl rfl (by omega)) ?_
 refine Ez rfl (Ea (o_neq rfl rfl) (Ea (Ej rfl rfl) (Ea (Ee rfl) (Ef (Ed (Eb [1, 2, 3, 4, 8, 11, 91] rfl ?_))))))
 first | refine Eu rfl ?_ ?_ | refine Et rfl ?_ ?_
 intro h38
 try rw [nnp] at h38
 try have h38' := En h38
 try have h38' := inB12 h38
 try have h38' := inB12n h38
 refine Eg (Eh (Ea (Em rfl rfl rfl) (Ep (Eo rfl rfl rfl rfl rfl rfl rfl) (Ea (Ee rfl) (Ea (Ee rfl) (Ef (Ed (Eb [8, 9, 10] rfl (Ek (Ff (Ev ?_)))))))))))
 · first | (exfalso; simp_all; done) | (refine Ec [2, 3] (.inr rfl) rfl rfl rfl rfl (show (List.range 0 ++ [2, 3]).Nodup by decide) ?_; (have e : devDo d false a v = (d, 0, false) := by unfold devDo; (repeat' split) <;> first | rfl | (simp_all; done) | (exfalso; simp_all; omega)); rw [e]; exact ⟨(by first | rfl | (simp [List.map_set, iR]; done) | (rw [List.take_of_length_le (by simp)]; simp; done)), (by first | rfl | (simp [List.map_set, iR]; done) | (rw [List.take_of_length_le (by simp)]; simp; done))⟩) | (refine Ec [2, 3] (.inr rfl) rfl rfl rfl rfl (show (List.range 0 ++ [2, 3]).Nodup by decide) ?_; (have e : devDo d false a v = (d, y, true) := by unfold devDo; (repeat' split) <;> first | rfl | (simp_all; done) | (exfalso; simp_all; omega)); rw [e]; exact ⟨(by first | rfl | (simp [List.map_set, iR]; done) | (rw [List.take_of_length_le (by simp)]; simp; done)), (by first | rfl | (simp [List.map_set, iR]; done) | (rw [List.take_of_length_le (by simp)]; simp; done))⟩) | (refine Ec [2, 3] (.inr rfl) rfl rfl rfl rfl (show (List.range 0 ++ [2, 3]).Nodup by decide) ?_; (have e : devDo d false a v = (⟨d.regs, (d.timer + 1).tmod 4294967296, d.fifo⟩, d.timer, true) := by unfold devDo; (repeat' split) <;> first | rfl | (simp_all; done) | (exfalso; simp_all; omega)); rw [e]; exact ⟨(by first | rfl | (simp [List.map_set, iR]; done) | (rw [List.take_of_length_le (by simp)]; simp; done)), (by first | rfl | (simp [List.map_set, iR]; done) | (rw [List.take_of_length_le (by simp)]; simp; done))⟩) | (refine Ec [2, 5] (.inr rfl) rfl rfl rfl rfl (show (List.range 0 ++ [2, 5]).Nodup by decide) ?_; (have e : devDo d false a v = (⟨d.regs, d.timer, d.fifo.drop 1⟩, y, true) := by unfold devDo; (repeat' split) <;> first | rfl | (simp_all; done) | (exfalso; simp_all; omega)); rw [e]; exact ⟨(by first | rfl | (simp [List.map_set, iR]; done) | (rw [List.take_of_length_le (by simp)]; simp; done)), (by first | rfl | (simp [List.map_set, iR]; done) | (rw [List.take_of_length_le (by simp)]; simp; done))⟩)
 intro h38
 try rw [nnp] at h38
 try have h38' := En h38
 try have h38' := inB12 h38
 try have h38' := inB12n h38
 refine Eg (Eh (Ea (Ee rfl) (Ea (Ee rfl) (Ef (Ed (Eb [2, 3, 4, 8, 11, 104] rfl (Fe rfl (Eh (Ea (Ew rfl) (Ea (Fd rfl rfl rfl) (Ea (Ee rfl) ?_)))))))))))
 first | refine Ea (o_quo rfl rfl (by decide)) ?_ | refine Ea (o_quo rfl rfl (by omega)) ?_
 rw [(tdiv4 (by omega)).1]
 have hq := tdiv4 (a := a) (by omega)
 have h12 := mod4 (a := a) (by first | assumption | omega) (by omega) (by omega)
 refine s_iaM rfl rfl (by (try simp only [List.length_map]); omega) ?_
 intro y39 e39
 revert y39 e39; intro y hy
 refine Ea (o_ld rfl rfl) (Ea (Ee rfl) (Ef (Fg (Ed (Eb [3, 8, 11] rfl (Eg (Eh (Ea (Em rfl rfl rfl) (Ea (Ee rfl) (Ep (Eo rfl rfl rfl rfl rfl rfl rfl) (Ea (Ee rfl) ?_)))))))))))
 refine Ea (Ee rfl) (Ef (Ed (Eb [8, 9, 10] rfl (Ek ?_))))
 · first | (exfalso; simp_all; done) | (refine Ec [2, 3] (.inr rfl) rfl rfl rfl rfl (show (List.range 0 ++ [2, 3]).Nodup by decide) ?_; (have e : devDo d false a v = (d, 0, false) := by unfold devDo; (repeat' split) <;> first | rfl | (simp_all; done) | (exfalso; simp_all; omega)); rw [e]; exact ⟨(by first | rfl | (simp [List.map_set, iR]; done) | (rw [List.take_of_length_le (by simp)]; simp; done)), (by first | rfl | (simp [List.map_set, iR]; done) | (rw [List.take_of_length_le (by simp)]; simp; done))⟩) | (refine Ec [2, 3] (.inr rfl) rfl rfl rfl rfl (show (List.range 0 ++ [2, 3]).Nodup by decide) ?_; (have e : devDo d false a v = (d, y, true) := by unfold devDo; (repeat' split) <;> first | rfl | (simp_all; done) | (exfalso; simp_all; omega)); rw [e]; exact ⟨(by first | rfl | (simp [List.map_set, iR]; done) | (rw [List.take_of_length_le (by simp)]; simp; done)), (by first | rfl | (simp [List.map_set, iR]; done) | (rw [List.take_of_length_le (by simp)]; simp; done))⟩) | (refine Ec [2, 3] (.inr rfl) rfl rfl rfl rfl (show (List.range 0 ++ [2, 3]).Nodup by decide) ?_; (have e : devDo d false a v = (⟨d.regs, (d.timer + 1).tmod 4294967296, d.fifo⟩, d.timer, true) := by unfold devDo; (repeat' split) <;> first | rfl | (simp_all; done) | (exfalso; simp_all; omega)); rw [e]; exact ⟨(by first | rfl | (simp [List.map_set, iR]; done) | (rw [List.take_of_length_le (by simp)]; simp; done)), (by first | rfl | (simp [List.map_set, iR]; done) | (rw [List.take_of_length_le (by simp)]; simp; done))⟩) | (refine Ec [2, 5] (.inr rfl) rfl rfl rfl rfl (show (List.range 0 ++ [2, 5]).Nodup by decide) ?_; (have e : devDo d false a v = (⟨d.regs, d.timer, d.fifo.drop 1⟩, y, true) := by unfold devDo; (repeat' split) <;> first | rfl | (simp_all; done) | (exfalso; simp_all; omega)); rw [e]; exact ⟨(by first | rfl | (simp [List.map_set, iR]; done) | (rw [List.take_of_length_le (by simp)]; simp; done)), (by first | rfl | (simp [List.map_set, iR]; done) | (rw [List.take_of_length_le (by simp)]; simp; done))⟩)
 intro h37
 try rw [nnp] at h37
 try have h37' := En h37
 try have h37' := inB12 h37
 try have h37' := inB12n h37
 refine Ei rfl (Ei rfl (Ei rfl (Ea (Er rfl rfl) (Ea (Ee rfl) (Ef (Ed (Eb [1, 2, 3, 4, 8, 11, 91] rfl (Fh rfl (Eg (Eh (Ea (Em rfl rfl rfl) ?_)))))))))))
 refine Ep (Eo rfl rfl rfl rfl rfl rfl rfl) (Ea (Ee rfl) (Ea (Ee rfl) (Ef (Ed (Eb [8, 9, 10] rfl (Ek (Ff (Ev ?_))))))))
 · first | (exfalso; simp_all; done) | (refine Ec [2, 3] (.inr rfl) rfl rfl rfl rfl (show (List.range 0 ++ [2, 3]).Nodup by decide) ?_; (have e : devDo d false a v = (d, 0, false) := by unfold devDo; (repeat' split) <;> first | rfl | (simp_all; done) | (exfalso; simp_all; omega)); rw [e]; exact ⟨(by first | rfl | (simp [List.map_set, iR]; done) | (rw [List.take_of_length_le (by simp)]; simp; done)), (by first | rfl | (simp [List.map_set, iR]; done) | (rw [List.take_of_length_le (by simp)]; simp; done))⟩) | (refine Ec [2, 3] (.inr rfl) rfl rfl rfl rfl (show (List.range 0 ++ [2, 3]).Nodup by decide) ?_; (have e : devDo d false a v = (d, y, true) := by unfold devDo; (repeat' split) <;> first | rfl | (simp_all; done) | (exfalso; simp_all; omega)); rw [e]; exact ⟨(by first | rfl | (simp [List.map_set, iR]; done) | (rw [List.take_of_length_le (by simp)]; simp; done)), (by first | rfl | (simp [List.map_set, iR]; done) | (rw [List.take_of_length_le (by simp)]; simp; done))⟩) | (refine Ec [2, 3] (.inr rfl) rfl rfl rfl rfl (show (List.range 0 ++ [2, 3]).Nodup by decide) ?_; (have e : devDo d false a v = (⟨d.regs, (d.timer + 1).tmod 4294967296, d.fifo⟩, d.timer, true) := by unfold devDo; (repeat' split) <;> first | rfl | (simp_all; done) | (exfalso; simp_all; omega)); rw [e]; exact ⟨(by first | rfl | (simp [List.map_set, iR]; done) | (rw [List.take_of_length_le (by simp)]; simp; done)), (by first | rfl | (simp [List.map_set, iR]; done) | (rw [List.take_of_length_le (by simp)]; simp; done))⟩) | (refine Ec [2, 5] (.inr rfl) rfl rfl rfl rfl (show (List.range 0 ++ [2, 5]).Nodup by decide) ?_; (have e : devDo d false a v = (⟨d.regs, d.timer, d.fifo.drop 1⟩, y, true) := by unfold devDo; (repeat' split) <;> first | rfl | (simp_all; done) | (exfalso; simp_all; omega)); rw [e]; exact ⟨(by first | rfl | (simp [List.map_set, iR]; done) | (rw [List.take_of_length_le (by simp)]; simp; done)), (by first | rfl | (simp [List.map_set, iR]; done) | (rw [List.take_of_length_le (by simp)]; simp; done))⟩)
 intro h36
 try rw [nnp] at h36
 try have h36' := En h36
 try have h36' := inB12 h36
 try have h36' := inB12n h36
 refine Ei rfl (Ei rfl (Ea (Er rfl rfl) (Ea (Ee rfl) (Ei rfl (Ei rfl (Ei rfl (Ea (Er rfl rfl) (Ea (Ee rfl) (Ef (Ed (Eb [1, 2, 3, 4, 8, 11, 91] rfl ?_)))))))))))
 refine Fh rfl (Eg (Eh (Ea (Em rfl rfl rfl) (Ep (Eo rfl rfl rfl rfl rfl rfl rfl) (Ea (Ee rfl) (Ea (Ee rfl) (Ef (Ed (Eb [8, 9, 10] rfl (Ek (Ff ?_)))))))))))
 refine Ev ?_
 · first | (exfalso; simp_all; done) | (refine Ec [2, 3] (.inr rfl) rfl rfl rfl rfl (show (List.range 0 ++ [2, 3]).Nodup by decide) ?_; (have e : devDo d false a v = (d, 0, false) := by unfold devDo; (repeat' split) <;> first | rfl | (simp_all; done) | (exfalso; simp_all; omega)); rw [e]; exact ⟨(by first | rfl | (simp [List.map_set, iR]; done) | (rw [List.take_of_length_le (by simp)]; simp; done)), (by first | rfl | (simp [List.map_set, iR]; done) | (rw [List.take_of_length_le (by simp)]; simp; done))⟩) | (refine Ec [2, 3] (.inr rfl) rfl rfl rfl rfl (show (List.range 0 ++ [2, 3]).Nodup by decide) ?_; (have e : devDo d false a v = (d, y, true) := by unfold devDo; (repeat' split) <;> first | rfl | (simp_all; done) | (exfalso; simp_all; omega)); rw [e]; exact ⟨(by first | rfl | (simp [List.map_set, iR]; done) | (rw [List.take_of_length_le (by simp)]; simp; done)), (by first | rfl | (simp [List.map_set, iR]; done) | (rw [List.take_of_length_le (by simp)]; simp; done))⟩) | (refine Ec [2, 3] (.inr rfl) rfl rfl rfl rfl (show (List.range 0 ++ [2, 3]).Nodup by decide) ?_; (have e : devDo d false a v = (⟨d.regs, (d.timer + 1).tmod 4294967296, d.fifo⟩, d.timer, true) := by unfold devDo; (repeat' split) <;> first | rfl | (simp_all; done) | (exfalso; simp_all; omega)); rw [e]; exact ⟨(by first | rfl | (simp [List.map_set, iR]; done) | (rw [List.take_of_length_le (by simp)]; simp; done)), (by first | rfl | (simp [List.map_set, iR]; done) | (rw [List.take_of_length_le (by simp)]; simp; done))⟩) | (refine Ec [2, 5] (.inr rfl) rfl rfl rfl rfl (show (List.range 0 ++ [2, 5]).Nodup by decide) ?_; (have e : devDo d false a v = (⟨d.regs, d.timer, d.fifo.drop 1⟩, y, true) := by unfold devDo; (repeat' split) <;> first | rfl | (simp_all; done) | (exfalso; simp_all; omega)); rw [e]; exact ⟨(by first | rfl | (simp [List.map_set, iR]; done) | (rw [List.take_of_length_le (by simp)]; simp; done)), (by first | rfl | (simp [List.map_set, iR]; done) | (rw [List.take_of_length_le (by simp)]; simp; done))⟩)
 intro h28
 try rw [nnp] at h28
 try have h28' := En h28
 try have h28' := inB12 h28
 try have h28' := inB12n h28
 refine Ei rfl (Ea (Ej rfl rfl) (Ea (Ee rfl) (Ei rfl (Ei rfl (Ei rfl (Ei rfl (Ea (Ej rfl rfl) (Ea (Ee rfl) (Ef (Ed (Eb [1, 2, 3, 4, 8, 11, 51] rfl ?_)))))))))))
 refine Fe rfl (Eg (Eh (Ea (Ee rfl) (Ea (o_eql rfl rfl) (Ea (Ee rfl) ?_)))))
 first | refine s_gDT rfl ?_ ?_ | refine s_gB rfl ?_ ?_
 intro h40
 try rw [nnp] at h40
 try have h40' := En h40
 try have h40' := inB12 h40
 try have h40' := inB12n h40
 refine Ea (Ee rfl) (Ez rfl (Ea (o_not rfl) (Ea (Er rfl rfl) (Ea (Ee rfl) (Ez rfl (Ea (Ew rfl) (Ez rfl (Ea (Fd rfl rfl rfl) (Ez rfl ?_)))))))))
 first | refine Ea (o_lenM rfl) ?_ | refine Ea (o_len rfl) ?_ | refine Ea (o_lenL rfl rfl (by simp)) ?_ | refine Ea (o_lenN rfl) ?_
 refine Ez rfl (Ea (o_gtr rfl rfl) (Ea (Er rfl rfl) (Ea (Ee rfl) (Ef (Ed (Eb [1, 2, 3, 4, 8, 11, 69] rfl ?_))))))
 first | refine Eu rfl ?_ ?_ | refine Et rfl ?_ ?_
 intro h41
 try rw [nnp] at h41
 try have h41' := En h41
 try have h41' := inB12 h41
 try have h41' := inB12n h41
 refine Eg (Eh (Ea (Ew rfl) (Ea (Fd rfl rfl rfl) (s_iaM rfl rfl (by (try simp only [List.length_map]); omega) ?_))))
 intro y42 e42
 revert y42 e42; intro y hy
 refine Ea (o_ld rfl rfl) (Ea (Ee rfl) (Ef (Ed (Eb [3, 4, 8, 11] rfl (Eh (Ea (Ew rfl) (Ea (Fd rfl rfl rfl) (Ea (o_sl rfl rfl rfl (by simp; omega) (by simp; omega)) ?_))))))))
 rw [sl1_eq d.fifo]
 refine s_callG [] rfl rfl rfl rfl (by simp) (.inl rfl) (cg_253 (d.fifo.drop 1) (by simp; omega)) ?_
 rintro u L1 ⟨rfl, rfl⟩
 refine ⟨_, _, rfl, rfl, ?_⟩
 refine Ea (Ew rfl) (Ep (o_stC rfl rfl rfl rfl rfl rfl) (Ef (Fg (Ed (Eb [3, 8, 11] rfl (Eg (Eh (Ea (Em rfl rfl rfl) (Ea (Ee rfl) (Ep (Eo rfl rfl rfl rfl rfl rfl rfl) (Ea (Ee rfl) ?_)))))))))))
 refine Ea (Ee rfl) (Ef (Ed (Eb [8, 9, 10] rfl (Ek ?_))))
 · first | (exfalso; simp_all; done) | (refine Ec [2, 3] (.inr rfl) rfl rfl rfl rfl (show (List.range 0 ++ [2, 3]).Nodup by decide) ?_; (have e : devDo d false a v = (d, 0, false) := by unfold devDo; (repeat' split) <;> first | rfl | (simp_all; done) | (exfalso; simp_all; omega)); rw [e]; exact ⟨(by first | rfl | (simp [List.map_set, iR]; done) | (rw [List.take_of_length_le (by simp)]; simp; done)), (by first | rfl | (simp [List.map_set, iR]; done) | (rw [List.take_of_length_le (by simp)]; simp; done))⟩) | (refine Ec [2, 3] (.inr rfl) rfl rfl rfl rfl (show (List.range 0 ++ [2, 3]).Nodup by decide) ?_; (have e : devDo d false a v = (d, y, true) := by unfold devDo; (repeat' split) <;> first | rfl | (simp_all; done) | (exfalso; simp_all; omega)); rw [e]; exact ⟨(by first | rfl | (simp [List.map_set, iR]; done) | (rw [List.take_of_length_le (by simp)]; simp; done)), (by first | rfl | (simp [List.map_set, iR]; done) | (rw [List.take_of_length_le (by simp)]; simp; done))⟩) | (refine Ec [2, 3] (.inr rfl) rfl rfl rfl rfl (show (List.range 0 ++ [2, 3]).Nodup by decide) ?_; (have e : devDo d false a v = (⟨d.regs, (d.timer + 1).tmod 4294967296, d.fifo⟩, d.timer, true) := by unfold devDo; (repeat' split) <;> first | rfl | (simp_all; done) | (exfalso; simp_all; omega)); rw [e]; exact ⟨(by first | rfl | (simp [List.map_set, iR]; done) | (rw [List.take_of_length_le (by simp)]; simp; done)), (by first | rfl | (simp [List.map_set, iR]; done) | (rw [List.take_of_length_le (by simp)]; simp; done))⟩) | (refine Ec [2, 5] (.inr rfl) rfl rfl rfl rfl (show (List.range 0 ++ [2, 5]).Nodup by decide) ?_; (have e : devDo d false a v = (⟨d.regs, d.timer, d.fifo.drop 1⟩, y, true) := by unfold devDo; (repeat' split) <;> first | rfl | (simp_all; done) | (exfalso; simp_all; omega)); rw [e]; exact ⟨(by first | rfl | (simp [List.map_set, iR]; done) | (rw [List.take_of_length_le (by simp)]; simp; done)), (by first | rfl | (simp [List.map_set, iR]; done) | (rw [List.take_of_length_le (by simp)]; simp; done))⟩)
 intro h41
 try rw [nnp] at h41
 try have h41' := En h41
 try have h41' := inB12 h41
 try have h41' := inB12n h41
 refine Eg (Eh (Ea (Ee rfl) (Ea (o_geq rfl rfl) (Ea (Ee rfl) ?_))))
 first | refine s_gDF rfl ?_ ?_ | refine s_gB rfl ?_ ?_
 intro h43
 try rw [nnp] at h43
 try have h43' := En h43
 try have h43' := inB12 h43
 try have h43' := inB12n h43
 refine Ea (Ee rfl) (Ez rfl (Ea (o_lss rfl rfl) (Ea (Ej rfl rfl) (Ea (Ee rfl) ?_))))
 first | refine s_gDF rfl ?_ ?_ | refine s_gB rfl ?_ ?_
 intro h44
 try rw [nnp] at h44
 try have h44' := En h44
 try have h44' := inB12 h44
 try have h44' := inB12n h44
 refine Ea (Ee rfl) (Ez rfl ?_)
 first | refine Ea (o_rem rfl rfl (by decide)) ?_ | refine Ea (o_rem rfl rfl (by omega)) ?_
 refine Ez rfl (Ea (o_neq rfl rfl) (Ea (Ej rfl rfl) (Ea (Ee rfl) (Ef (Ed (Eb [1, 2, 3, 4, 8, 11, 91] rfl ?_))))))
 first | refine Eu rfl ?_ ?_ | refine Et rfl ?_ ?_
 intro h45
 try rw [nnp] at h45
 try have h45' := En h45
 try have h45' := inB12 h45
 try have h45' := inB12n h45
 refine Eg (Eh (Ea (Em rfl rfl rfl) (Ep (Eo rfl rfl rfl rfl rfl rfl rfl) (Ea (Ee rfl) (Ea (Ee rfl) (Ef (Ed (Eb [8, 9, 10] rfl (Ek (Ff (Ev ?_)))))))))))
 · first | (exfalso; simp_all; done) | (refine Ec [2, 3] (.inr rfl) rfl rfl rfl rfl (show (List.range 0 ++ [2, 3]).Nodup by decide) ?_; (have e : devDo d false a v = (d, 0, false) := by unfold devDo; (repeat' split) <;> first | rfl | (simp_all; done) | (exfalso; simp_all; omega)); rw [e]; exact ⟨(by first | rfl | (simp [List.map_set, iR]; done) | (rw [List.take_of_length_le (by simp)]; simp; done)), (by first | rfl | (simp [List.map_set, iR]; done) | (rw [List.take_of_length_le (by simp)]; simp; done))⟩) | (refine Ec [2, 3] (.inr rfl) rfl rfl rfl rfl (show (List.range 0 ++ [2, 3]).Nodup by decide) ?_; (have e : devDo d false a v = (d, y, true) := by unfold devDo; (repeat' split) <;> first | rfl | (simp_all; done) | (exfalso; simp_all; omega)); rw [e]; exact ⟨(by first | rfl | (simp [List.map_set, iR]; done) | (rw [List.take_of_length_le (by simp)]; simp; done)), (by first | rfl | (simp [List.map_set, iR]; done) | (rw [List.take_of_length_le (by simp)]; simp; done))⟩) | (refine Ec [2, 3] (.inr rfl) rfl rfl rfl rfl (show (List.range 0 ++ [2, 3]).Nodup by decide) ?_; (have e : devDo d false a v = (⟨d.regs, (d.timer + 1).tmod 4294967296, d.fifo⟩, d.timer, true) := by unfold devDo; (repeat' split) <;> first | rfl | (simp_all; done) | (exfalso; simp_all; omega)); rw [e]; exact ⟨(by first | rfl | (simp [List.map_set, iR]; done) | (rw [List.take_of_length_le (by simp)]; simp; done)), (by first | rfl | (simp [List.map_set, iR]; done) | (rw [List.take_of_length_le (by simp)]; simp; done))⟩) | (refine Ec [2, 5] (.inr rfl) rfl rfl rfl rfl (show (List.range 0 ++ [2, 5]).Nodup by decide) ?_; (have e : devDo d false a v = (⟨d.regs, d.timer, d.fifo.drop 1⟩, y, true) := by unfold devDo; (repeat' split) <;> first | rfl | (simp_all; done) | (exfalso; simp_all; omega)); rw [e]; exact ⟨(by first | rfl | (simp [List.map_set, iR]; done) | (rw [List.take_of_length_le (by simp)]; simp; done)), (by first | rfl | (simp [List.map_set, iR]; done) | (rw [List.take_of_length_le (by simp)]; simp; done))⟩)
 intro h45
 try rw [nnp] at h45
 try have h45' := En h45
 try have h45' := inB12 h45
 try have h45' := inB12n h45
 refine Eg (Eh (Ea (Ee rfl) (Ea (Ee rfl) (Ef (Ed (Eb [2, 3, 4, 8, 11, 104] rfl (Fe rfl (Eh (Ea (Ew rfl) (Ea (Fd rfl rfl rfl) (Ea (Ee rfl) ?_)))))))))))
 first | refine Ea (o_quo rfl rfl (by decide)) ?_ | refine Ea (o_quo rfl rfl (by omega)) ?_
 rw [(tdiv4 (by omega)).1]
 have hq := tdiv4 (a := a) (by omega)
 have h12 := mod4 (a := a) (by first | assumption | omega) (by omega) (by omega)
 refine s_iaM rfl rfl (by (try simp only [List.length_map]); omega) ?_
 intro y46 e46
 revert y46 e46; intro y hy
 refine Ea (o_ld rfl rfl) (Ea (Ee rfl) (Ef (Fg (Ed (Eb [3, 8, 11] rfl (Eg (Eh (Ea (Em rfl rfl rfl) (Ea (Ee rfl) (Ep (Eo rfl rfl rfl rfl rfl rfl rfl) (Ea (Ee rfl) ?_)))))))))))
 refine Ea (Ee rfl) (Ef (Ed (Eb [8, 9, 10] rfl (Ek ?_))))
 · first | (exfalso; simp_all; done) | (refine Ec [2, 3] (.inr rfl) rfl rfl rfl rfl (show (List.range 0 ++ [2, 3]).Nodup by decide) ?_; (have e : devDo d false a v = (d, 0, false) := by unfold devDo; (repeat' split) <;> first | rfl | (simp_all; done) | (exfalso; simp_all; omega)); rw [e]; exact ⟨(by first | rfl | (simp [List.map_set, iR]; done) | (rw [List.take_of_length_le (by simp)]; simp; done)), (by first | rfl | (simp [List.map_set, iR]; done) | (rw [List.take_of_length_le (by simp)]; simp; done))⟩) | (refine Ec [2, 3] (.inr rfl) rfl rfl rfl rfl (show (List.range 0 ++ [2, 3]).Nodup by decide) ?_; (have e : devDo d false a v = (d, y, true) := by unfold devDo; (repeat' split) <;> first | rfl | (simp_all; done) | (exfalso; simp_all; omega)); rw [e]; exact ⟨(by first | rfl | (simp [List.map_set, iR]; done) | (rw [List.take_of_length_le (by simp)]; simp; done)), (by first | rfl | (simp [List.map_set, iR]; done) | (rw [List.take_of_length_le (by simp)]; simp; done))⟩) | (refine Ec [2, 3] (.inr rfl) rfl rfl rfl rfl (show (List.range 0 ++ [2, 3]).Nodup by decide) ?_; (have e : devDo d false a v = (⟨d.regs, (d.timer + 1).tmod 4294967296, d.fifo⟩, d.timer, true) := by unfold devDo; (repeat' split) <;> first | rfl | (simp_all; done) | (exfalso; simp_all; omega)); rw [e]; exact ⟨(by first | rfl | (simp [List.map_set, iR]; done) | (rw [List.take_of_length_le (by simp)]; simp; done)), (by first | rfl | (simp [List.map_set, iR]; done) | (rw [List.take_of_length_le (by simp)]; simp; done))⟩) | (refine Ec [2, 5] (.inr rfl) rfl rfl rfl rfl (show (List.range 0 ++ [2, 5]).Nodup by decide) ?_; (have e : devDo d false a v = (⟨d.regs, d.timer, d.fifo.drop 1⟩, y, true) := by unfold devDo; (repeat' split) <;> first | rfl | (simp_all; done) | (exfalso; simp_all; omega)); rw [e]; exact ⟨(by first | rfl | (simp [List.map_set, iR]; done) | (rw [List.take_of_length_le (by simp)]; simp; done)), (by first | rfl | (simp [List.map_set, iR]; done) | (rw [List.take_of_length_le (by simp)]; simp; done))⟩)
 intro h44
 try rw [nnp] at h44
 try have h44' := En h44
 try have h44' := inB12 h44
 try have h44' := inB12n h44
 refine Ei rfl (Ei rfl (Ei rfl (Ea (Er rfl rfl) (Ea (Ee rfl) (Ef (Ed (Eb [1, 2, 3, 4, 8, 11, 91] rfl (Fh rfl (Eg (Eh (Ea (Em rfl rfl rfl) ?_)))))))))))
 refine Ep (Eo rfl rfl rfl rfl rfl rfl rfl) (Ea (Ee rfl) (Ea (Ee rfl) (Ef (Ed (Eb [8, 9, 10] rfl (Ek (Ff (Ev ?_))))))))
 · first | (exfalso; simp_all; done) | (refine Ec [2, 3] (.inr rfl) rfl rfl rfl rfl (show (List.range 0 ++ [2, 3]).Nodup by decide) ?_; (have e : devDo d false a v = (d, 0, false) := by unfold devDo; (repeat' split) <;> first | rfl | (simp_all; done) | (exfalso; simp_all; omega)); rw [e]; exact ⟨(by first | rfl | (simp [List.map_set, iR]; done) | (rw [List.take_of_length_le (by simp)]; simp; done)), (by first | rfl | (simp [List.map_set, iR]; done) | (rw [List.take_of_length_le (by simp)]; simp; done))⟩) | (refine Ec [2, 3] (.inr rfl) rfl rfl rfl rfl (show (List.range 0 ++ [2, 3]).Nodup by decide) ?_; (have e : devDo d false a v = (d, y, true) := by unfold devDo; (repeat' split) <;> first | rfl | (simp_all; done) | (exfalso; simp_all; omega)); rw [e]; exact ⟨(by first | rfl | (simp [List.map_set, iR]; done) | (rw [List.take_of_length_le (by simp)]; simp; done)), (by first | rfl | (simp [List.map_set, iR]; done) | (rw [List.take_of_length_le (by simp)]; simp; done))⟩) | (refine Ec [2, 3] (.inr rfl) rfl rfl rfl rfl (show (List.range 0 ++ [2, 3]).Nodup by decide) ?_; (have e : devDo d false a v = (⟨d.regs, (d.timer + 1).tmod 4294967296, d.fifo⟩, d.timer, true) := by unfold devDo; (repeat' split) <;> first | rfl | (simp_all; done) | (exfalso; simp_all; omega)); rw [e]; exact ⟨(by first | rfl | (simp [List.map_set, iR]; done) | (rw [List.take_of_length_le (by simp)]; simp; done)), (by first | rfl | (simp [List.map_set, iR]; done) | (rw [List.take_of_length_le (by simp)]; simp; done))⟩) | (refine Ec [2, 5] (.inr rfl) rfl rfl rfl rfl (show (List.range 0 ++ [2, 5]).Nodup by decide) ?_; (have e : devDo d false a v = (⟨d.regs, d.timer, d.fifo.drop 1⟩, y, true) := by unfold devDo; (repeat' split) <;> first | rfl | (simp_all; done) | (exfalso; simp_all; omega)); rw [e]; exact ⟨(by first | rfl | (simp [List.map_set, iR]; done) | (rw [List.take_of_length_le (by simp)]; simp; done)), (by first | rfl | (simp [List.map_set, iR]; done) | (rw [List.take_of_length_le (by simp)]; simp; done))⟩)
 intro h43
 try rw [nnp] at h43
 try have h43' := En h43
 try have h43' := inB12 h43
 try have h43' := inB12n h43
 refine Ei rfl (Ei rfl (Ea (Er rfl rfl) (Ea (Ee rfl) (Ei rfl (Ei rfl (Ei rfl (Ea (Er rfl rfl) (Ea (Ee rfl) (Ef (Ed (Eb [1, 2, 3, 4, 8, 11, 91] rfl ?_)))))))))))
 refine Fh rfl (Eg (Eh (Ea (Em rfl rfl rfl) (Ep (Eo rfl rfl rfl rfl rfl rfl rfl) (Ea (Ee rfl) (Ea (Ee rfl) (Ef (Ed (Eb [8, 9, 10] rfl (Ek (Ff ?_)))))))))))
 refine Ev ?_
 · first | (exfalso; simp_all; done) | (refine Ec [2, 3] (.inr rfl) rfl rfl rfl rfl (show (List.range 0 ++ [2, 3]).Nodup by decide) ?_; (have e : devDo d false a v = (d, 0, false) := by unfold devDo; (repeat' split) <;> first | rfl | (simp_all; done) | (exfalso; simp_all; omega)); rw [e]; exact ⟨(by first | rfl | (simp [List.map_set, iR]; done) | (rw [List.take_of_length_le (by simp)]; simp; done)), (by first | rfl | (simp [List.map_set, iR]; done) | (rw [List.take_of_length_le (by simp)]; simp; done))⟩) | (refine Ec [2, 3] (.inr rfl) rfl rfl rfl rfl (show (List.range 0 ++ [2, 3]).Nodup by decide) ?_; (have e : devDo d false a v = (d, y, true) := by unfold devDo; (repeat' split) <;> first | rfl | (simp_all; done) | (exfalso; simp_all; omega)); rw [e]; exact ⟨(by first | rfl | (simp [List.map_set, iR]; done) | (rw [List.take_of_length_le (by simp)]; simp; done)), (by first | rfl | (simp [List.map_set, iR]; done) | (rw [List.take_of_length_le (by simp)]; simp; done))⟩) | (refine Ec [2, 3] (.inr rfl) rfl rfl rfl rfl (show (List.range 0 ++ [2, 3]).Nodup by decide) ?_; (have e : devDo d false a v = (⟨d.regs, (d.timer + 1).tmod 4294967296, d.fifo⟩, d.timer, true) := by unfold devDo; (repeat' split) <;> first | rfl | (simp_all; done) | (exfalso; simp_all; omega)); rw [e]; exact ⟨(by first | rfl | (simp [List.map_set, iR]; done) | (rw [List.take_of_length_le (by simp)]; simp; done)), (by first | rfl | (simp [List.map_set, iR]; done) | (rw [List.take_of_length_le (by simp)]; simp; done))⟩) | (refine Ec [2, 5] (.inr rfl) rfl rfl rfl rfl (show (List.range 0 ++ [2, 5]).Nodup by decide) ?_; (have e : devDo d false a v = (⟨d.regs, d.timer, d.fifo.drop 1⟩, y, true) := by unfold devDo; (repeat' split) <;> first | rfl | (simp_all; done) | (exfalso; simp_all; omega)); rw [e]; exact ⟨(by first | rfl | (simp [List.map_set, iR]; done) | (rw [List.take_of_length_le (by simp)]; simp; done)), (by first | rfl | (simp [List.map_set, iR]; done) | (rw [List.take_of_length_le (by simp)]; simp; done))⟩)
 intro h40
 try rw [nnp] at h40
 try have h40' := En h40
 try have h40' := inB12 h40
 try have h40' := inB12n h40
 refine Ei rfl (Ei rfl (Ea (Ej rfl rfl) (Ea (Ee rfl) (Ei rfl (Ei rfl (Ei rfl (Ei rfl (Ea (Ej rfl rfl) (Ea (Ee rfl) (Ef (Ed ?_)))))))))))
 refine Eb [1, 2, 3, 4, 8, 11, 69] rfl (Fe rfl (Eg (Eh (Ea (Ee rfl) (Ea (o_geq rfl rfl) (Ea (Ee rfl) ?_))))))
 first | refine s_gDF rfl ?_ ?_ | refine s_gB rfl ?_ ?_
 intro h47
 try rw [nnp] at h47
 try have h47' := En h47
 try have h47' := inB12 h47
 try have h47' := inB12n h47
 refine Ea (Ee rfl) (Ez rfl (Ea (o_lss rfl rfl) (Ea (Ej rfl rfl) (Ea (Ee rfl) ?_))))
 first | refine s_gDF rfl ?_ ?_ | refine s_gB rfl ?_ ?_
 intro h48
 try rw [nnp] at h48
 try have h48' := En h48
 try have h48' := inB12 h48
 try have h48' := inB12n h48
 refine Ea (Ee rfl) (Ez rfl ?_)
 first | refine Ea (o_rem rfl rfl (by decide)) ?_ | refine Ea (o_rem rfl rfl (by omega)) ?_
 refine Ez rfl (Ea (o_neq rfl rfl) (Ea (Ej rfl rfl) (Ea (Ee rfl) (Ef (Ed (Eb [1, 2, 3, 4, 8, 11, 91] rfl ?_))))))
 first | refine Eu rfl ?_ ?_ | refine Et rfl ?_ ?_
 intro h49
 try rw [nnp] at h49
 try have h49' := En h49
 try have h49' := inB12 h49
 try have h49' := inB12n h49
 refine Eg (Eh (Ea (Em rfl rfl rfl) (Ep (Eo rfl rfl rfl rfl rfl rfl rfl) (Ea (Ee rfl) (Ea (Ee rfl) (Ef (Ed (Eb [8, 9, 10] rfl (Ek (Ff (Ev ?_)))))))))))
 · first | (exfalso; simp_all; done) | (refine Ec [2, 3] (.inr rfl) rfl rfl rfl rfl (show (List.range 0 ++ [2, 3]).Nodup by decide) ?_; (have e : devDo d false a v = (d, 0, false) := by unfold devDo; (repeat' split) <;> first | rfl | (simp_all; done) | (exfalso; simp_all; omega)); rw [e]; exact ⟨(by first | rfl | (simp [List.map_set, iR]; done) | (rw [List.take_of_length_le (by simp)]; simp; done)), (by first | rfl | (simp [List.map_set, iR]; done) | (rw [List.take_of_length_le (by simp)]; simp; done))⟩) | (refine Ec [2, 3] (.inr rfl) rfl rfl rfl rfl (show (List.range 0 ++ [2, 3]).Nodup by decide) ?_; (have e : devDo d false a v = (d, y, true) := by unfold devDo; (repeat' split) <;> first | rfl | (simp_all; done) | (exfalso; simp_all; omega)); rw [e]; exact ⟨(by first | rfl | (simp [List.map_set, iR]; done) | (rw [List.take_of_length_le (by simp)]; simp; done)), (by first | rfl | (simp [List.map_set, iR]; done) | (rw [List.take_of_length_le (by simp)]; simp; done))⟩) | (refine Ec [2, 3] (.inr rfl) rfl rfl rfl rfl (show (List.range 0 ++ [2, 3]).Nodup by decide) ?_; (have e : devDo d false a v = (⟨d.regs, (d.timer + 1).tmod 4294967296, d.fifo⟩, d.timer, true) := by unfold devDo; (repeat' split) <;> first | rfl | (simp_all; done) | (exfalso; simp_all; omega)); rw [e]; exact ⟨(by first | rfl | (simp [List.map_set, iR]; done) | (rw [List.take_of_length_le (by simp)]; simp; done)), (by first | rfl | (simp [List.map_set, iR]; done) | (rw [List.take_of_length_le (by simp)]; simp; done))⟩) | (refine Ec [2, 5] (.inr rfl) rfl rfl rfl rfl (show (List.range 0 ++ [2, 5]).Nodup by decide) ?_; (have e : devDo d false a v = (⟨d.regs, d.timer, d.fifo.drop 1⟩, y, true) := by unfold devDo; (repeat' split) <;> first | rfl | (simp_all; done) | (exfalso; simp_all; omega)); rw [e]; exact ⟨(by first | rfl | (simp [List.map_set, iR]; done) | (rw [List.take_of_length_le (by simp)]; simp; done)), (by first | rfl | (simp [List.map_set, iR]; done) | (rw [List.take_of_length_le (by simp)]; simp; done))⟩)
 intro h49
 try rw [nnp] at h49
 try have h49' := En h49
 try have h49' := inB12 h49
 try have h49' := inB12n h49
 refine Eg (Eh (Ea (Ee rfl) (Ea (Ee rfl) (Ef (Ed (Eb [2, 3, 4, 8, 11, 104] rfl (Fe rfl (Eh (Ea (Ew rfl) (Ea (Fd rfl rfl rfl) (Ea (Ee rfl) ?_)))))))))))
 first | refine Ea (o_quo rfl rfl (by decide)) ?_ | refine Ea (o_quo rfl rfl (by omega)) ?_
 rw [(tdiv4 (by omega)).1]
 have hq := tdiv4 (a := a) (by omega)
 have h12 := mod4 (a := a) (by first | assumption | omega) (by omega) (by omega)
 refine s_iaM rfl rfl (by (try simp only [List.length_map]); omega) ?_
 intro y50 e50
 revert y50 e50; intro y hy
 refine Ea (o_ld rfl rfl) (Ea (Ee rfl) (Ef (Fg (Ed (Eb [3, 8, 11] rfl (Eg (Eh (Ea (Em rfl rfl rfl) (Ea (Ee rfl) (Ep (Eo rfl rfl rfl rfl rfl rfl rfl) (Ea (Ee rfl) ?_)))))))))))
 refine Ea (Ee rfl) (Ef (Ed (Eb [8, 9, 10] rfl (Ek ?_))))
 · first | (exfalso; simp_all; done) | (refine Ec [2, 3] (.inr rfl) rfl rfl rfl rfl (show (List.range 0 ++ [2, 3]).Nodup by decide) ?_; (have e : devDo d false a v = (d, 0, false) := by unfold devDo; (repeat' split) <;> first | rfl | (simp_all; done) | (exfalso; simp_all; omega)); rw [e]; exact ⟨(by first | rfl | (simp [List.map_set, iR]; done) | (rw [List.take_of_length_le (by simp)]; simp; done)), (by first | rfl | (simp [List.map_set, iR]; done) | (rw [List.take_of_length_le (by simp)]; simp; done))⟩) | (refine Ec [2, 3] (.inr rfl) rfl rfl rfl rfl (show (List.range 0 ++ [2, 3]).Nodup by decide) ?_; (have e : devDo d false a v = (d, y, true) := by unfold devDo; (repeat' split) <;> first | rfl | (simp_all; done) | (exfalso; simp_all; omega)); rw [e]; exact ⟨(by first | rfl | (simp [List.map_set, iR]; done) | (rw [List.take_of_length_le (by simp)]; simp; done)), (by first | rfl | (simp [List.map_set, iR]; done) | (rw [List.take_of_length_le (by simp)]; simp; done))⟩) | (refine Ec [2, 3] (.inr rfl) rfl rfl rfl rfl (show (List.range 0 ++ [2, 3]).Nodup by decide) ?_; (have e : devDo d false a v = (⟨d.regs, (d.timer + 1).tmod 4294967296, d.fifo⟩, d.timer, true) := by unfold devDo; (repeat' split) <;> first | rfl | (simp_all; done) | (exfalso; simp_all; omega)); rw [e]; exact ⟨(by first | rfl | (simp [List.map_set, iR]; done) | (rw [List.take_of_length_le (by simp)]; simp; done)), (by first | rfl | (simp [List.map_set, iR]; done) | (rw [List.take_of_length_le (by simp)]; simp; done))⟩) | (refine Ec [2, 5] (.inr rfl) rfl rfl rfl rfl (show (List.range 0 ++ [2, 5]).Nodup by decide) ?_; (have e : devDo d false a v = (⟨d.regs, d.timer, d.fifo.drop 1⟩, y, true) := by unfold devDo; (repeat' split) <;> first | rfl | (simp_all; done) | (exfalso; simp_all; omega)); rw [e]; exact ⟨(by first | rfl | (simp [List.map_set, iR]; done) | (rw [List.take_of_length_le (by simp)]; simp; done)), (by first | rfl | (simp [List.map_set, iR]; done) | (rw [List.take_of_length_le (by simp)]; simp; done))⟩)
 intro h48
 try rw [nnp] at h48
 try have h48' := En h48
 try have h48' := inB12 h48
 try have h48' := inB12n h48
 refine Ei rfl (Ei rfl (Ei rfl (Ea (Er rfl rfl) (Ea (Ee rfl) (Ef (Ed (Eb [1, 2, 3, 4, 8, 11, 91] rfl (Fh rfl (Eg (Eh (Ea (Em rfl rfl rfl) ?_)))))))))))
 refine Ep (Eo rfl rfl rfl rfl rfl rfl rfl) (Ea (Ee rfl) (Ea (Ee rfl) (Ef (Ed (Eb [8, 9, 10] rfl (Ek (Ff (Ev ?_))))))))
 · first | (exfalso; simp_all; done) | (refine Ec [2, 3] (.inr rfl) rfl rfl rfl rfl (show (List.range 0 ++ [2, 3]).Nodup by decide) ?_; (have e : devDo d false a v = (d, 0, false) := by unfold devDo; (repeat' split) <;> first | rfl | (simp_all; done) | (exfalso; simp_all; omega)); rw [e]; exact ⟨(by first | rfl | (simp [List.map_set, iR]; done) | (rw [List.take_of_length_le (by simp)]; simp; done)), (by first | rfl | (simp [List.map_set, iR]; done) | (rw [List.take_of_length_le (by simp)]; simp; done))⟩) | (refine Ec [2, 3] (.inr rfl) rfl rfl rfl rfl (show (List.range 0 ++ [2, 3]).Nodup by decide) ?_; (have e : devDo d false a v = (d, y, true) := by unfold devDo; (repeat' split) <;> first | rfl | (simp_all; done) | (exfalso; simp_all; omega)); rw [e]; exact ⟨(by first | rfl | (simp [List.map_set, iR]; done) | (rw [List.take_of_length_le (by simp)]; simp; done)), (by first | rfl | (simp [List.map_set, iR]; done) | (rw [List.take_of_length_le (by simp)]; simp; done))⟩) | (refine Ec [2, 3] (.inr rfl) rfl rfl rfl rfl (show (List.range 0 ++ [2, 3]).Nodup by decide) ?_; (have e : devDo d false a v = (⟨d.regs, (d.timer + 1).tmod 4294967296, d.fifo⟩, d.timer, true) := by unfold devDo; (repeat' split) <;> first | rfl | (simp_all; done) | (exfalso; simp_all; omega)); rw [e]; exact ⟨(by first | rfl | (simp [List.map_set, iR]; done) | (rw [List.take_of_length_le (by simp)]; simp; done)), (by first | rfl | (simp [List.map_set, iR]; done) | (rw [List.take_of_length_le (by simp)]; simp; done))⟩) | (refine Ec [2, 5] (.inr rfl) rfl rfl rfl rfl (show (List.range 0 ++ [2, 5]).Nodup by decide) ?_; (have e : devDo d false a v = (⟨d.regs, d.timer, d.fifo.drop 1⟩, y, true) := by unfold devDo; (repeat' split) <;> first | rfl | (simp_all; done) | (exfalso; simp_all; omega)); rw [e]; exact ⟨(by first | rfl | (simp [List.map_set, iR]; done) | (rw [List.take_of_length_le (by simp)]; simp; done)), (by first | rfl | (simp [List.map_set, iR]; done) | (rw [List.take_of_length_le (by simp)]; simp; done))⟩)
 intro h47
 try rw [nnp] at h47
 try have h47' := En h47
 try have h47' := inB12 h47
 try have h47' := inB12n h47
 refine Ei rfl (Ei rfl (Ea (Er rfl rfl) (Ea (Ee rfl) (Ei rfl (Ei rfl (Ei rfl (Ea (Er rfl rfl) (Ea (Ee rfl) (Ef (Ed (Eb [1, 2, 3, 4, 8, 11, 91] rfl ?_)))))))))))
 refine Fh rfl (Eg (Eh (Ea (Em rfl rfl rfl) (Ep (Eo rfl rfl rfl rfl rfl rfl rfl) (Ea (Ee rfl) (Ea (Ee rfl) (Ef (Ed (Eb [8, 9, 10] rfl (Ek (Ff ?_)))))))))))
 refine Ev ?_
 · first | (exfalso; simp_all; done) | (refine Ec [2, 3] (.inr rfl) rfl rfl rfl rfl (show (List.range 0 ++ [2, 3]).Nodup by decide) ?_; (have e : devDo d false a v = (d, 0, false) := by unfold devDo; (repeat' split) <;> first | rfl | (simp_all; done) | (exfalso; simp_all; omega)); rw [e]; exact ⟨(by first | rfl | (simp [List.map_set, iR]; done) | (rw [List.take_of_length_le (by simp)]; simp; done)), (by first | rfl | (simp [List.map_set, iR]; done) | (rw [List.take_of_length_le (by simp)]; simp; done))⟩) | (refine Ec [2, 3] (.inr rfl) rfl rfl rfl rfl (show (List.range 0 ++ [2, 3]).Nodup by decide) ?_; (have e : devDo d false a v = (d, y, true) := by unfold devDo; (repeat' split) <;> first | rfl | (simp_all; done) | (exfalso; simp_all; omega)); rw [e]; exact ⟨(by first | rfl | (simp [List.map_set, iR]; done) | (rw [List.take_of_length_le (by simp)]; simp; done)), (by first | rfl | (simp [List.map_set, iR]; done) | (rw [List.take_of_length_le (by simp)]; simp; done))⟩) | (refine Ec [2, 3] (.inr rfl) rfl rfl rfl rfl (show (List.range 0 ++ [2, 3]).Nodup by decide) ?_; (have e : devDo d false a v = (⟨d.regs, (d.timer + 1).tmod 4294967296, d.fifo⟩, d.timer, true) := by unfold devDo; (repeat' split) <;> first | rfl | (simp_all; done) | (exfalso; simp_all; omega)); rw [e]; exact ⟨(by first | rfl | (simp [List.map_set, iR]; done) | (rw [List.take_of_length_le (by simp)]; simp; done)), (by first | rfl | (simp [List.map_set, iR]; done) | (rw [List.take_of_length_le (by simp)]; simp; done))⟩) | (refine Ec [2, 5] (.inr rfl) rfl rfl rfl rfl (show (List.range 0 ++ [2, 5]).Nodup by decide) ?_; (have e : devDo d false a v = (⟨d.regs, d.timer, d.fifo.drop 1⟩, y, true) := by unfold devDo; (repeat' split) <;> first | rfl | (simp_all; done) | (exfalso; simp_all; omega)); rw [e]; exact ⟨(by first | rfl | (simp [List.map_set, iR]; done) | (rw [List.take_of_length_le (by simp)]; simp; done)), (by first | rfl | (simp [List.map_set, iR]; done) | (rw [List.take_of_length_le (by simp)]; simp; done))⟩)
 intro h1
 try rw [nnp] at h1
 try have h1' := En h1
 try have h1' := inB12 h1
 try have h1' := inB12n h1
 refine Ei rfl (Ei rfl (s_gN rfl (s_gN rfl (s_gN rfl (Ei rfl (Ea (Er rfl rfl) (Ef (Ed (Eb [1, 2, 3, 4, 8, 11, 24] rfl (Fh rfl (Eg ?_)))))))))))
 refine Eh (Ea (Em rfl rfl rfl) (Ep (Eo rfl rfl rfl rfl rfl rfl rfl) (Ea (Ee rfl) (Ea (Ee rfl) (Ef (Ed (Eb [8, 9, 10] rfl (Ek (Ev ?_)))))))))
 · first | (exfalso; simp_all; done) | (refine Ec [2, 3] (.inr rfl) rfl rfl rfl rfl (show (List.range 0 ++ [2, 3]).Nodup by decide) ?_; (have e : devDo d false a v = (d, 0, false) := by unfold devDo; (repeat' split) <;> first | rfl | (simp_all; done) | (exfalso; simp_all; omega)); rw [e]; exact ⟨(by first | rfl | (simp [List.map_set, iR]; done) | (rw [List.take_of_length_le (by simp)]; simp; done)), (by first | rfl | (simp [List.map_set, iR]; done) | (rw [List.take_of_length_le (by simp)]; simp; done))⟩) | (refine Ec [2, 3] (.inr rfl) rfl rfl rfl rfl (show (List.range 0 ++ [2, 3]).Nodup by decide) ?_; (have e : devDo d false a v = (d, y, true) := by unfold devDo; (repeat' split) <;> first | rfl | (simp_all; done) | (exfalso; simp_all; omega)); rw [e]; exact ⟨(by first | rfl | (simp [List.map_set, iR]; done) | (rw [List.take_of_length_le (by simp)]; simp; done)), (by first | rfl | (simp [List.map_set, iR]; done) | (rw [List.take_of_length_le (by simp)]; simp; done))⟩) | (refine Ec [2, 3] (.inr rfl) rfl rfl rfl rfl (show (List.range 0 ++ [2, 3]).Nodup by decide) ?_; (have e : devDo d false a v = (⟨d.regs, (d.timer + 1).tmod 4294967296, d.fifo⟩, d.timer, true) := by unfold devDo; (repeat' split) <;> first | rfl | (simp_all; done) | (exfalso; simp_all; omega)); rw [e]; exact ⟨(by first | rfl | (simp [List.map_set, iR]; done) | (rw [List.take_of_length_le (by simp)]; simp; done)), (by first | rfl | (simp [List.map_set, iR]; done) | (rw [List.take_of_length_le (by simp)]; simp; done))⟩) | (refine Ec [2, 5] (.inr rfl) rfl rfl rfl rfl (show (List.range 0 ++ [2, 5]).Nodup by decide) ?_; (have e : devDo d false a v = (⟨d.regs, d.timer, d.fifo.drop 1⟩, y, true) := by unfold devDo; (repeat' split) <;> first | rfl | (simp_all; done) | (exfalso; simp_all; omega)); rw [e]; exact ⟨(by first | rfl | (simp [List.map_set, iR]; done) | (rw [List.take_of_length_le (by simp)]; simp; done)), (by first | rfl | (simp [List.map_set, iR]; done) | (rw [List.take_of_length_le (by simp)]; simp; done))⟩)
theorem cg_39 (d : Dev) (w : Bool) (a v : Int) (hs : d.small) : GV prg 39 [] [.agg d.r, .w (.bool w), .w (.int .i64 a), .w (.int .i64 v)] (fun u L1 => u = .tup [.agg [.ls 0 (devDo d w a v).1.regs.length, .w (.int .i64 (devDo d w a v).1.timer), .ls 1 (devDo d w a v).1.fifo.length], .w (.int .i64 (devDo d w a v).2.1), .w (.bool (devDo d w a v).2.2)] ∧ L1 = [.arr 1 ((devDo d w a v).1.regs.map iR), .arr 1 ((devDo d w a v).1.fifo.map iR)]) := by
 cases w
 · exact cg_39f d a v hs
 · exact cg_39t d a v hs
def modelDo (m : Model) (w : Bool) (a z v : Int) : Model × Int × Int :=
 if (m.ok && aligned a z && (!w || inB v 0 (limit z - 1))) = true then
  if slaveOf a = 1 ∨ slaveOf a = 2 then (if w = true then (⟨(putN m.ram a z v).1, m.dev⟩, v, 0) else (m, (getN m.ram a z).1, 0))
  else if slaveOf a = 3 ∧ z = 2 ∧ (devDo m.dev w (a - 192) v).2.2 = true then (⟨m.ram, (devDo m.dev w (a - 192) v).1⟩, (devDo m.dev w (a - 192) v).2.1, 0)
  else (m, 0, 1)
 else (m, 0, 1)
theorem slave3 {a : Int} (h : slaveOf a = 3) : 192 ≤ a ∧ a < 224 := by
 unfold slaveOf at h
 split at h
 · omega
 · split at h
   · omega
   · split at h
     · omega
     · omega
theorem slave12 {a : Int} (h : slaveOf a = 1 ∨ slaveOf a = 2) : 0 ≤ a ∧ a < 192 := by
 unfold slaveOf at h
 split at h
 · omega
 · split at h
   · omega
   · split at h <;> omega
theorem mod_fits {m : Model} {a z : Int} (h : m.ok = true) (ha : aligned a z = true) (hs : slaveOf a = 1 ∨ slaveOf a = 2) : fitsB m.ram a z = true := by
 obtain ⟨h1, h2⟩ := slave12 hs
 simp only [Model.ok, Bool.and_eq_true, decide_eq_true_eq] at h
 unfold fitsB
 rw [ha, h.1.2]
 have hl := h.1.1
 simp only [aligned, Bool.and_eq_true, decide_eq_true_eq] at ha
 have hm := ha.2
 have hz := in3 ha.1.1
 have : a ≤ 192 - bytes z := by
  rw [Int.tmod_eq_emod_of_nonneg h1] at hm
  rcases hz with rfl | rfl | rfl
  · have e : bytes 0 = 1 := by decide
    rw [e]; omega
  · have e : bytes 1 = 2 := by decide
    rw [e] at hm ⊢; omega
  · have e : bytes 2 = 4 := by decide
    rw [e] at hm ⊢; omega
 simp only [Bool.and_true, Bool.and_eq_true, decide_eq_true_eq]
 omega
theorem put_ok {m : Model} {a z v : Int} (h : m.ok = true) (ha : aligned a z = true) (hv : inB v 0 (limit z - 1) = true) (hs : slaveOf a = 1 ∨ slaveOf a = 2) : (putN m.ram a z v).2 = true := by rw [put_yes (mod_fits h ha hs) hv]
theorem get_ok {m : Model} {a z : Int} (h : m.ok = true) (ha : aligned a z = true) (hs : slaveOf a = 1 ∨ slaveOf a = 2) : (getN m.ram a z).2 = true := by rw [get_yes (mod_fits h ha hs)]
theorem cg_52t (m : Model) (a z v : Int) (hs : m.small) : GV prg 52 [] [.agg m.r, .w (.bool true), .w (.int .i64 a), .w (.int .i64 z), .w (.int .i64 v)] (fun u L1 => u = .tup [.agg [.ls 0 (modelDo m true a z v).1.ram.length, .ls 1 (modelDo m true a z v).1.dev.regs.length, .w (.int .i64 (modelDo m true a z v).1.dev.timer), .ls 2 (modelDo m true a z v).1.dev.fifo.length], .w (.int .i64 (modelDo m true a z v).2.1), .w (.int .i64 (modelDo m true a z v).2.2)] ∧ L1 = [.arr 1 ((modelDo m true a z v).1.ram.map iR), .arr 1 ((modelDo m true a z v).1.dev.regs.map iR), .arr 1 ((modelDo m true a z v).1.dev.fifo.map iR)]) := by
 have hs1 := hs.1
 have hs2 := hs.2.1
 have hs3 := hs.2.2
 refine gv_in g52 (Eb [0, 1, 2, 3, 4] rfl (Eg (Eh (Ea (o_box rfl rfl rfl) (Ea (o_new rfl rfl) (Ea (Ee rfl) (Ea (Ee rfl) (Ef (Ed (Eb [1, 2, 3, 4, 5, 10] rfl (Eg ?_)))))))))))
 refine Eh (Ea (Em rfl rfl rfl) (s_callG [] rfl rfl rfl rfl (by simp) (.inl rfl) (cg_98 m hs) ?_))
 rintro u L1 ⟨rfl, rfl⟩
 refine ⟨_, _, rfl, rfl, ?_⟩
 refine Ea (o_new rfl rfl) (Ep (Eo rfl rfl rfl rfl rfl rfl rfl) (Ef (Ed (Eb [1, 2, 3, 4, 5, 10, 13] rfl (Eg (Eg (Eh (Ea (Em rfl rfl rfl) ?_))))))))
 first | refine Fc rfl rfl (c_53 m hs) ?_ | refine s_callL rfl rfl (by simp) (c_53 m hs) rfl ?_
 refine Ea (o_not rfl) (Ea (Ee rfl) ?_)
 first | refine s_gDF rfl ?_ ?_ | refine s_gNDF rfl ?_ ?_ | refine s_gNF rfl ?_ ?_ | refine s_gB rfl ?_ ?_
 intro h1
 try rw [nnp] at h1
 try have h1' := slave3 h1
 refine Ea (Ee rfl) (Ez rfl (Ea (Ee rfl) (Ez rfl (Fc rfl rfl (c_21 _ _) (Ez rfl (Ea (o_not rfl) (Ea (Ej rfl rfl) (Ea (Ee rfl) ?_))))))))
 first | refine s_gDF rfl ?_ ?_ | refine s_gNDF rfl ?_ ?_ | refine s_gNF rfl ?_ ?_ | refine s_gB rfl ?_ ?_
 intro h2
 try rw [nnp] at h2
 try have h2' := slave3 h2
 refine Ea (Ee rfl) (Ez rfl (Ea (Ee rfl) (Ez rfl (Ea (Ee rfl) (Ez rfl (Ea (Ee rfl) (s_keepO (is := [1, 2, 3, 4, 5, 10, 13, 27, 29, 30, 31]) rfl (Ez rfl (Fc rfl rfl (c_92 _ _) (Ez rfl (Ea (o_not rfl) ?_)))))))))))
 refine Ez rfl (Ea (Er rfl rfl) (Ea (Ej rfl rfl) (Ef (Ed (Eb [1, 2, 3, 4, 5, 10, 13, 35] rfl ?_)))))
 first | refine Eu rfl ?_ ?_ | refine s_condN rfl ?_ ?_ | refine s_condNB rfl ?_ ?_ | refine Et rfl ?_ ?_
 intro h3
 try rw [nnp] at h3
 try have h3' := slave3 h3
 refine Eg (Eh (Ea (Em rfl rfl rfl) (Ep (Eo rfl rfl rfl rfl rfl rfl rfl) (Ea (Ee rfl) (Ea (Ee rfl) (Ef (Ed (Eb [10, 11, 12] rfl (Ek (Ev ?_))))))))))
 · first | (exfalso; simp_all; done) | (refine Ec [2, 3, 4] (.inr rfl) rfl rfl rfl rfl (show (List.range 0 ++ [2, 3, 4]).Nodup by decide) ?_; (have e : modelDo m true a z v = (m, 0, 1) := by unfold modelDo; (repeat' split) <;> first | rfl | (simp_all; done) | (exfalso; simp_all; omega)); rw [e]; exact ⟨by first | rfl | (simp; done), rfl⟩) | (refine Ec [8, 9, 10] (.inr rfl) rfl rfl rfl rfl (show (List.range 0 ++ [8, 9, 10]).Nodup by decide) ?_; (have e : modelDo m true a z v = (m, 0, 1) := by unfold modelDo; (repeat' split) <;> first | rfl | (simp_all; done) | (exfalso; simp_all; omega)); rw [e]; exact ⟨by first | rfl | (simp; done), rfl⟩) | (refine Ec [7, 8, 9] (.inr rfl) rfl rfl rfl rfl (show (List.range 0 ++ [7, 8, 9]).Nodup by decide) ?_; (have e : modelDo m true a z v = (m, 0, 1) := by unfold modelDo; (repeat' split) <;> first | rfl | (simp_all; done) | (exfalso; simp_all; omega)); rw [e]; exact ⟨by first | rfl | (simp; done), rfl⟩) | (refine Ec [6, 7, 8] (.inr rfl) rfl rfl rfl rfl (show (List.range 0 ++ [6, 7, 8]).Nodup by decide) ?_; (have e : modelDo m true a z v = (m, 0, 1) := by unfold modelDo; (repeat' split) <;> first | rfl | (simp_all; done) | (exfalso; simp_all; omega)); rw [e]; exact ⟨by first | rfl | (simp; done), rfl⟩) | (refine Ec [6, 3, 4] (.inr rfl) rfl rfl rfl rfl (show (List.range 0 ++ [6, 3, 4]).Nodup by decide) ?_; (have e : modelDo m true a z v = (⟨(putN m.ram a z v).1, m.dev⟩, v, 0) := by unfold modelDo; (repeat' split) <;> first | rfl | (simp_all; done) | (exfalso; simp_all; omega)); rw [e]; exact ⟨by first | rfl | (simp; done), rfl⟩) | (refine Ec [2, 6, 7] (.inr rfl) rfl rfl rfl rfl (show (List.range 0 ++ [2, 6, 7]).Nodup by decide) ?_; (have e : modelDo m true a z v = (⟨m.ram, (devDo m.dev true (a - 192) v).1⟩, (devDo m.dev true (a - 192) v).2.1, 0) := by unfold modelDo; (repeat' split) <;> first | rfl | (simp_all; done) | (exfalso; simp_all; omega)); rw [e]; exact ⟨by first | rfl | (simp; done), rfl⟩)
 intro h3
 try rw [nnp] at h3
 try have h3' := slave3 h3
 refine Fb (Ed (Eb [1, 2, 3, 4, 5, 10, 13] rfl (Eg (Eh (Ea (Ee rfl) (Ef (Ed (Eb [1, 2, 3, 4, 5, 10, 13, 14] rfl (Eg (Eg (Eh ?_)))))))))))
 refine Ea (Ee rfl) (Fc rfl rfl (c_73 _) (Ea (Ee rfl) (Ef (Ed (Eb [1, 2, 3, 4, 5, 10, 13, 14, 15] rfl (S_block (Eg (Eh (Ea (Ee rfl) (Ea (o_eql rfl rfl) (Ea (Ee rfl) ?_)))))))))))
 first | refine s_gDT rfl ?_ ?_ | refine s_gB rfl ?_ ?_
 intro h4
 try rw [nnp] at h4
 try have h4' := slave3 h4
 refine Ea (Ee rfl) (Ez rfl (Ea (o_eql rfl rfl) (Ea (Er rfl rfl) (Ea (Ee rfl) (Ef (Ed (Eb [1, 2, 3, 4, 5, 10, 13, 14, 15, 39] rfl ?_)))))))
 first | refine Eu rfl ?_ ?_ | refine Et rfl ?_ ?_
 intro h5
 try rw [nnp] at h5
 try have h5' := slave3 h5
 refine Eh (Ea (Ew rfl) (Ea (Em rfl rfl rfl) (Ea (Ee rfl) (Ea (Ee rfl) ?_))))
 first | refine Ea (o_subn rfl rfl (by omega)) ?_ | refine Ea (o_sub rfl rfl) ?_
 refine Ea (Ee rfl) (s_callG [] rfl rfl rfl rfl (by simp) (.inl rfl) (cg_39 m.dev true (a - 192) v hs.2) ?_)
 rintro u L1 ⟨rfl, rfl⟩
 refine ⟨_, _, rfl, rfl, ?_⟩
 refine Ea (Ee rfl) (Ea (o_ext rfl rfl) (Ea (o_ext rfl rfl) (Ea (o_ext rfl rfl) (Ea (Ew rfl) (Ep (Eo rfl rfl rfl rfl rfl rfl rfl) (Ea (Ee rfl) (Ea (Ee rfl) (Ef (Fg (Ed (Eb [4, 5, 10, 13, 14] rfl ?_)))))))))))
 refine Eg (Eg (Eh (Ea (Ee rfl) (Ea (o_not rfl) (Ef (Ed (Eb [4, 5, 10, 13, 85] rfl ?_)))))))
 first | refine Eu rfl ?_ ?_ | refine s_condN rfl ?_ ?_ | refine s_condNB rfl ?_ ?_ | refine Et rfl ?_ ?_
 intro h6
 try rw [nnp] at h6
 try have h6' := slave3 h6
 refine Eg (Eh (Ea (Em rfl rfl rfl) (s_callG [] rfl rfl rfl rfl (by simp) (.inl rfl) (cg_98 m hs) ?_)))
 rintro u L1 ⟨rfl, rfl⟩
 refine ⟨_, _, rfl, rfl, ?_⟩
 refine Ep (Eo rfl rfl rfl rfl rfl rfl rfl) (Ea (Ee rfl) (Ea (Ee rfl) (Ef (Ed (Eb [10, 11, 12] rfl (Ek (Ev ?_)))))))
 · first | (exfalso; simp_all; done) | (refine Ec [2, 3, 4] (.inr rfl) rfl rfl rfl rfl (show (List.range 0 ++ [2, 3, 4]).Nodup by decide) ?_; (have e : modelDo m true a z v = (m, 0, 1) := by unfold modelDo; (repeat' split) <;> first | rfl | (simp_all; done) | (exfalso; simp_all; omega)); rw [e]; exact ⟨by first | rfl | (simp; done), rfl⟩) | (refine Ec [8, 9, 10] (.inr rfl) rfl rfl rfl rfl (show (List.range 0 ++ [8, 9, 10]).Nodup by decide) ?_; (have e : modelDo m true a z v = (m, 0, 1) := by unfold modelDo; (repeat' split) <;> first | rfl | (simp_all; done) | (exfalso; simp_all; omega)); rw [e]; exact ⟨by first | rfl | (simp; done), rfl⟩) | (refine Ec [7, 8, 9] (.inr rfl) rfl rfl rfl rfl (show (List.range 0 ++ [7, 8, 9]).Nodup by decide) ?_; (have e : modelDo m true a z v = (m, 0, 1) := by unfold modelDo; (repeat' split) <;> first | rfl | (simp_all; done) | (exfalso; simp_all; omega)); rw [e]; exact ⟨by first | rfl | (simp; done), rfl⟩) | (refine Ec [6, 7, 8] (.inr rfl) rfl rfl rfl rfl (show (List.range 0 ++ [6, 7, 8]).Nodup by decide) ?_; (have e : modelDo m true a z v = (m, 0, 1) := by unfold modelDo; (repeat' split) <;> first | rfl | (simp_all; done) | (exfalso; simp_all; omega)); rw [e]; exact ⟨by first | rfl | (simp; done), rfl⟩) | (refine Ec [6, 3, 4] (.inr rfl) rfl rfl rfl rfl (show (List.range 0 ++ [6, 3, 4]).Nodup by decide) ?_; (have e : modelDo m true a z v = (⟨(putN m.ram a z v).1, m.dev⟩, v, 0) := by unfold modelDo; (repeat' split) <;> first | rfl | (simp_all; done) | (exfalso; simp_all; omega)); rw [e]; exact ⟨by first | rfl | (simp; done), rfl⟩) | (refine Ec [2, 6, 7] (.inr rfl) rfl rfl rfl rfl (show (List.range 0 ++ [2, 6, 7]).Nodup by decide) ?_; (have e : modelDo m true a z v = (⟨m.ram, (devDo m.dev true (a - 192) v).1⟩, (devDo m.dev true (a - 192) v).2.1, 0) := by unfold modelDo; (repeat' split) <;> first | rfl | (simp_all; done) | (exfalso; simp_all; omega)); rw [e]; exact ⟨by first | rfl | (simp; done), rfl⟩)
 intro h6
 try rw [nnp] at h6
 try have h6' := slave3 h6
 refine Fb (Ed (Eb [4, 10, 13] rfl (Eg (Eh (Ea (Em rfl rfl rfl) (Ea (Ee rfl) (Ep (Eo rfl rfl rfl rfl rfl rfl rfl) (Ea (Ee rfl) (Ea (Ee rfl) (Ef (Ed ?_)))))))))))
 refine Eb [10, 11, 12] rfl (Ek ?_)
 · first | (exfalso; simp_all; done) | (refine Ec [2, 3, 4] (.inr rfl) rfl rfl rfl rfl (show (List.range 0 ++ [2, 3, 4]).Nodup by decide) ?_; (have e : modelDo m true a z v = (m, 0, 1) := by unfold modelDo; (repeat' split) <;> first | rfl | (simp_all; done) | (exfalso; simp_all; omega)); rw [e]; exact ⟨by first | rfl | (simp; done), rfl⟩) | (refine Ec [8, 9, 10] (.inr rfl) rfl rfl rfl rfl (show (List.range 0 ++ [8, 9, 10]).Nodup by decide) ?_; (have e : modelDo m true a z v = (m, 0, 1) := by unfold modelDo; (repeat' split) <;> first | rfl | (simp_all; done) | (exfalso; simp_all; omega)); rw [e]; exact ⟨by first | rfl | (simp; done), rfl⟩) | (refine Ec [7, 8, 9] (.inr rfl) rfl rfl rfl rfl (show (List.range 0 ++ [7, 8, 9]).Nodup by decide) ?_; (have e : modelDo m true a z v = (m, 0, 1) := by unfold modelDo; (repeat' split) <;> first | rfl | (simp_all; done) | (exfalso; simp_all; omega)); rw [e]; exact ⟨by first | rfl | (simp; done), rfl⟩) | (refine Ec [6, 7, 8] (.inr rfl) rfl rfl rfl rfl (show (List.range 0 ++ [6, 7, 8]).Nodup by decide) ?_; (have e : modelDo m true a z v = (m, 0, 1) := by unfold modelDo; (repeat' split) <;> first | rfl | (simp_all; done) | (exfalso; simp_all; omega)); rw [e]; exact ⟨by first | rfl | (simp; done), rfl⟩) | (refine Ec [6, 3, 4] (.inr rfl) rfl rfl rfl rfl (show (List.range 0 ++ [6, 3, 4]).Nodup by decide) ?_; (have e : modelDo m true a z v = (⟨(putN m.ram a z v).1, m.dev⟩, v, 0) := by unfold modelDo; (repeat' split) <;> first | rfl | (simp_all; done) | (exfalso; simp_all; omega)); rw [e]; exact ⟨by first | rfl | (simp; done), rfl⟩) | (refine Ec [2, 6, 7] (.inr rfl) rfl rfl rfl rfl (show (List.range 0 ++ [2, 6, 7]).Nodup by decide) ?_; (have e : modelDo m true a z v = (⟨m.ram, (devDo m.dev true (a - 192) v).1⟩, (devDo m.dev true (a - 192) v).2.1, 0) := by unfold modelDo; (repeat' split) <;> first | rfl | (simp_all; done) | (exfalso; simp_all; omega)); rw [e]; exact ⟨by first | rfl | (simp; done), rfl⟩)
 intro h5
 try rw [nnp] at h5
 try have h5' := slave3 h5
 refine Eg (Eh (Ea (Ee rfl) (Ea (o_eql rfl rfl) (Ea (Ee rfl) ?_))))
 first | refine s_gDF rfl ?_ ?_ | refine s_gB rfl ?_ ?_
 intro h7
 try rw [nnp] at h7
 try have h7' := slave3 h7
 refine Ea (Ee rfl) (Ez rfl (Ea (o_eql rfl rfl) (Ea (Ej rfl rfl) (Ea (Ee rfl) (Ef (Ed (Eb [1, 2, 3, 4, 5, 10, 13, 14, 58] rfl ?_)))))))
 first | refine Eu rfl ?_ ?_ | refine Et rfl ?_ ?_
 intro h8
 try rw [nnp] at h8
 try have h8' := slave3 h8
 refine Eg (Eh (Ea (Ee rfl) (Ef (Ed (Eb [2, 3, 4, 5, 10, 13, 65] rfl (Fh rfl (Eh (Ea (Ew rfl) (Ea (Fd rfl rfl rfl) (Ea (Ee rfl) (Ea (Ee rfl) ?_)))))))))))
 refine Ea (Ee rfl) (s_callG [] rfl rfl rfl rfl (by simp) (.inl rfl) (cg_62 m.ram a z v hs.1) ?_)
 rintro u L1 ⟨rfl, rfl⟩
 refine ⟨_, _, rfl, rfl, ?_⟩
 refine Ea (Ee rfl) (Ea (o_ext rfl rfl) (Ea (o_ext rfl rfl) ?_))
 rw [put_ok (m := m) (a := a) (z := z) (v := v) (by assumption) (by assumption) (by assumption) (by omega)]
 refine Ea (Ew rfl) (Ep (o_stC rfl rfl rfl rfl rfl rfl) (Ea (Ee rfl) (Ef (Fg (Ed (Eb [4, 5, 10, 13, 14] rfl (Eg (Eg (Eh (Ea (Ee rfl) (Ea (o_not rfl) ?_)))))))))))
 refine Ef (Ed (Eb [4, 5, 10, 13, 85] rfl (Fe rfl (Fb (Ed (Eb [4, 10, 13] rfl (Eg (Eh (Ea (Em rfl rfl rfl) (Ea (Ee rfl) (Ep (Eo rfl rfl rfl rfl rfl rfl rfl) ?_)))))))))))
 refine Ea (Ee rfl) (Ea (Ee rfl) (Ef (Ed (Eb [10, 11, 12] rfl (Ek ?_)))))
 · first | (exfalso; simp_all; done) | (refine Ec [2, 3, 4] (.inr rfl) rfl rfl rfl rfl (show (List.range 0 ++ [2, 3, 4]).Nodup by decide) ?_; (have e : modelDo m true a z v = (m, 0, 1) := by unfold modelDo; (repeat' split) <;> first | rfl | (simp_all; done) | (exfalso; simp_all; omega)); rw [e]; exact ⟨by first | rfl | (simp; done), rfl⟩) | (refine Ec [8, 9, 10] (.inr rfl) rfl rfl rfl rfl (show (List.range 0 ++ [8, 9, 10]).Nodup by decide) ?_; (have e : modelDo m true a z v = (m, 0, 1) := by unfold modelDo; (repeat' split) <;> first | rfl | (simp_all; done) | (exfalso; simp_all; omega)); rw [e]; exact ⟨by first | rfl | (simp; done), rfl⟩) | (refine Ec [7, 8, 9] (.inr rfl) rfl rfl rfl rfl (show (List.range 0 ++ [7, 8, 9]).Nodup by decide) ?_; (have e : modelDo m true a z v = (m, 0, 1) := by unfold modelDo; (repeat' split) <;> first | rfl | (simp_all; done) | (exfalso; simp_all; omega)); rw [e]; exact ⟨by first | rfl | (simp; done), rfl⟩) | (refine Ec [6, 7, 8] (.inr rfl) rfl rfl rfl rfl (show (List.range 0 ++ [6, 7, 8]).Nodup by decide) ?_; (have e : modelDo m true a z v = (m, 0, 1) := by unfold modelDo; (repeat' split) <;> first | rfl | (simp_all; done) | (exfalso; simp_all; omega)); rw [e]; exact ⟨by first | rfl | (simp; done), rfl⟩) | (refine Ec [6, 3, 4] (.inr rfl) rfl rfl rfl rfl (show (List.range 0 ++ [6, 3, 4]).Nodup by decide) ?_; (have e : modelDo m true a z v = (⟨(putN m.ram a z v).1, m.dev⟩, v, 0) := by unfold modelDo; (repeat' split) <;> first | rfl | (simp_all; done) | (exfalso; simp_all; omega)); rw [e]; exact ⟨by first | rfl | (simp; done), rfl⟩) | (refine Ec [2, 6, 7] (.inr rfl) rfl rfl rfl rfl (show (List.range 0 ++ [2, 6, 7]).Nodup by decide) ?_; (have e : modelDo m true a z v = (⟨m.ram, (devDo m.dev true (a - 192) v).1⟩, (devDo m.dev true (a - 192) v).2.1, 0) := by unfold modelDo; (repeat' split) <;> first | rfl | (simp_all; done) | (exfalso; simp_all; omega)); rw [e]; exact ⟨by first | rfl | (simp; done), rfl⟩)
 intro h8
 try rw [nnp] at h8
 try have h8' := slave3 h8
 refine Fb (Fg (Ed (Eb [4, 5, 10, 13, 14] rfl (Eg (Eg (Eh (Ea (Ee rfl) (Ea (o_not rfl) (Ef (Ed (Eb [4, 5, 10, 13, 85] rfl ?_)))))))))))
 refine Fh rfl (Eg (Eh (Ea (Em rfl rfl rfl) (s_callG [] rfl rfl rfl rfl (by simp) (.inl rfl) (cg_98 m hs) ?_))))
 rintro u L1 ⟨rfl, rfl⟩
 refine ⟨_, _, rfl, rfl, ?_⟩
 refine Ep (Eo rfl rfl rfl rfl rfl rfl rfl) (Ea (Ee rfl) (Ea (Ee rfl) (Ef (Ed (Eb [10, 11, 12] rfl (Ek (Ev ?_)))))))
 · first | (exfalso; simp_all; done) | (refine Ec [2, 3, 4] (.inr rfl) rfl rfl rfl rfl (show (List.range 0 ++ [2, 3, 4]).Nodup by decide) ?_; (have e : modelDo m true a z v = (m, 0, 1) := by unfold modelDo; (repeat' split) <;> first | rfl | (simp_all; done) | (exfalso; simp_all; omega)); rw [e]; exact ⟨by first | rfl | (simp; done), rfl⟩) | (refine Ec [8, 9, 10] (.inr rfl) rfl rfl rfl rfl (show (List.range 0 ++ [8, 9, 10]).Nodup by decide) ?_; (have e : modelDo m true a z v = (m, 0, 1) := by unfold modelDo; (repeat' split) <;> first | rfl | (simp_all; done) | (exfalso; simp_all; omega)); rw [e]; exact ⟨by first | rfl | (simp; done), rfl⟩) | (refine Ec [7, 8, 9] (.inr rfl) rfl rfl rfl rfl (show (List.range 0 ++ [7, 8, 9]).Nodup by decide) ?_; (have e : modelDo m true a z v = (m, 0, 1) := by unfold modelDo; (repeat' split) <;> first | rfl | (simp_all; done) | (exfalso; simp_all; omega)); rw [e]; exact ⟨by first | rfl | (simp; done), rfl⟩) | (refine Ec [6, 7, 8] (.inr rfl) rfl rfl rfl rfl (show (List.range 0 ++ [6, 7, 8]).Nodup by decide) ?_; (have e : modelDo m true a z v = (m, 0, 1) := by unfold modelDo; (repeat' split) <;> first | rfl | (simp_all; done) | (exfalso; simp_all; omega)); rw [e]; exact ⟨by first | rfl | (simp; done), rfl⟩) | (refine Ec [6, 3, 4] (.inr rfl) rfl rfl rfl rfl (show (List.range 0 ++ [6, 3, 4]).Nodup by decide) ?_; (have e : modelDo m true a z v = (⟨(putN m.ram a z v).1, m.dev⟩, v, 0) := by unfold modelDo; (repeat' split) <;> first | rfl | (simp_all; done) | (exfalso; simp_all; omega)); rw [e]; exact ⟨by first | rfl | (simp; done), rfl⟩) | (refine Ec [2, 6, 7] (.inr rfl) rfl rfl rfl rfl (show (List.range 0 ++ [2, 6, 7]).Nodup by decide) ?_; (have e : modelDo m true a z v = (⟨m.ram, (devDo m.dev true (a - 192) v).1⟩, (devDo m.dev true (a - 192) v).2.1, 0) := by unfold modelDo; (repeat' split) <;> first | rfl | (simp_all; done) | (exfalso; simp_all; omega)); rw [e]; exact ⟨by first | rfl | (simp; done), rfl⟩)
 intro h7
 try rw [nnp] at h7
 try have h7' := slave3 h7
 refine Ei rfl (Ei rfl (Ea (Er rfl rfl) (Ea (Ee rfl) (Ef (Ed (Eb [1, 2, 3, 4, 5, 10, 13, 14, 58] rfl (Fh rfl (Eg (Eh (Ea (Ee rfl) (Ef ?_)))))))))))
 refine Ed (Eb [2, 3, 4, 5, 10, 13, 65] rfl (Fh rfl (Eh (Ea (Ew rfl) (Ea (Fd rfl rfl rfl) (Ea (Ee rfl) (Ea (Ee rfl) (Ea (Ee rfl) (s_callG [] rfl rfl rfl rfl (by simp) (.inl rfl) (cg_62 m.ram a z v hs.1) ?_)))))))))
 rintro u L1 ⟨rfl, rfl⟩
 refine ⟨_, _, rfl, rfl, ?_⟩
 refine Ea (Ee rfl) (Ea (o_ext rfl rfl) (Ea (o_ext rfl rfl) ?_))
 rw [put_ok (m := m) (a := a) (z := z) (v := v) (by assumption) (by assumption) (by assumption) (by omega)]
 refine Ea (Ew rfl) (Ep (o_stC rfl rfl rfl rfl rfl rfl) (Ea (Ee rfl) (Ef (Fg (Ed (Eb [4, 5, 10, 13, 14] rfl (Eg (Eg (Eh (Ea (Ee rfl) (Ea (o_not rfl) ?_)))))))))))
 refine Ef (Ed (Eb [4, 5, 10, 13, 85] rfl (Fe rfl (Fb (Ed (Eb [4, 10, 13] rfl (Eg (Eh (Ea (Em rfl rfl rfl) (Ea (Ee rfl) (Ep (Eo rfl rfl rfl rfl rfl rfl rfl) ?_)))))))))))
 refine Ea (Ee rfl) (Ea (Ee rfl) (Ef (Ed (Eb [10, 11, 12] rfl (Ek ?_)))))
 · first | (exfalso; simp_all; done) | (refine Ec [2, 3, 4] (.inr rfl) rfl rfl rfl rfl (show (List.range 0 ++ [2, 3, 4]).Nodup by decide) ?_; (have e : modelDo m true a z v = (m, 0, 1) := by unfold modelDo; (repeat' split) <;> first | rfl | (simp_all; done) | (exfalso; simp_all; omega)); rw [e]; exact ⟨by first | rfl | (simp; done), rfl⟩) | (refine Ec [8, 9, 10] (.inr rfl) rfl rfl rfl rfl (show (List.range 0 ++ [8, 9, 10]).Nodup by decide) ?_; (have e : modelDo m true a z v = (m, 0, 1) := by unfold modelDo; (repeat' split) <;> first | rfl | (simp_all; done) | (exfalso; simp_all; omega)); rw [e]; exact ⟨by first | rfl | (simp; done), rfl⟩) | (refine Ec [7, 8, 9] (.inr rfl) rfl rfl rfl rfl (show (List.range 0 ++ [7, 8, 9]).Nodup by decide) ?_; (have e : modelDo m true a z v = (m, 0, 1) := by unfold modelDo; (repeat' split) <;> first | rfl | (simp_all; done) | (exfalso; simp_all; omega)); rw [e]; exact ⟨by first | rfl | (simp; done), rfl⟩) | (refine Ec [6, 7, 8] (.inr rfl) rfl rfl rfl rfl (show (List.range 0 ++ [6, 7, 8]).Nodup by decide) ?_; (have e : modelDo m true a z v = (m, 0, 1) := by unfold modelDo; (repeat' split) <;> first | rfl | (simp_all; done) | (exfalso; simp_all; omega)); rw [e]; exact ⟨by first | rfl | (simp; done), rfl⟩) | (refine Ec [6, 3, 4] (.inr rfl) rfl rfl rfl rfl (show (List.range 0 ++ [6, 3, 4]).Nodup by decide) ?_; (have e : modelDo m true a z v = (⟨(putN m.ram a z v).1, m.dev⟩, v, 0) := by unfold modelDo; (repeat' split) <;> first | rfl | (simp_all; done) | (exfalso; simp_all; omega)); rw [e]; exact ⟨by first | rfl | (simp; done), rfl⟩) | (refine Ec [2, 6, 7] (.inr rfl) rfl rfl rfl rfl (show (List.range 0 ++ [2, 6, 7]).Nodup by decide) ?_; (have e : modelDo m true a z v = (⟨m.ram, (devDo m.dev true (a - 192) v).1⟩, (devDo m.dev true (a - 192) v).2.1, 0) := by unfold modelDo; (repeat' split) <;> first | rfl | (simp_all; done) | (exfalso; simp_all; omega)); rw [e]; exact ⟨by first | rfl | (simp; done), rfl⟩)
 intro h4
 try rw [nnp] at h4
 try have h4' := slave3 h4
 refine Ei rfl (Ei rfl (Ea (Ej rfl rfl) (Ea (Ee rfl) (Ef (Ed (Eb [1, 2, 3, 4, 5, 10, 13, 14, 15, 39] rfl (Fe rfl (Eg (Eh (Ea (Ee rfl) (Ea (o_eql rfl rfl) ?_)))))))))))
 refine Ea (Ee rfl) ?_
 first | refine s_gDF rfl ?_ ?_ | refine s_gB rfl ?_ ?_
 intro h9
 try rw [nnp] at h9
 try have h9' := slave3 h9
 refine Ea (Ee rfl) (Ez rfl (Ea (o_eql rfl rfl) (Ea (Ej rfl rfl) (Ea (Ee rfl) (Ef (Ed (Eb [1, 2, 3, 4, 5, 10, 13, 14, 58] rfl ?_)))))))
 first | refine Eu rfl ?_ ?_ | refine Et rfl ?_ ?_
 intro h10
 try rw [nnp] at h10
 try have h10' := slave3 h10
 refine Eg (Eh (Ea (Ee rfl) (Ef (Ed (Eb [2, 3, 4, 5, 10, 13, 65] rfl (Fh rfl (Eh (Ea (Ew rfl) (Ea (Fd rfl rfl rfl) (Ea (Ee rfl) (Ea (Ee rfl) ?_)))))))))))
 refine Ea (Ee rfl) (s_callG [] rfl rfl rfl rfl (by simp) (.inl rfl) (cg_62 m.ram a z v hs.1) ?_)
 rintro u L1 ⟨rfl, rfl⟩
 refine ⟨_, _, rfl, rfl, ?_⟩
 refine Ea (Ee rfl) (Ea (o_ext rfl rfl) (Ea (o_ext rfl rfl) ?_))
 rw [put_ok (m := m) (a := a) (z := z) (v := v) (by assumption) (by assumption) (by assumption) (by omega)]
 refine Ea (Ew rfl) (Ep (o_stC rfl rfl rfl rfl rfl rfl) (Ea (Ee rfl) (Ef (Fg (Ed (Eb [4, 5, 10, 13, 14] rfl (Eg (Eg (Eh (Ea (Ee rfl) (Ea (o_not rfl) ?_)))))))))))
 refine Ef (Ed (Eb [4, 5, 10, 13, 85] rfl (Fe rfl (Fb (Ed (Eb [4, 10, 13] rfl (Eg (Eh (Ea (Em rfl rfl rfl) (Ea (Ee rfl) (Ep (Eo rfl rfl rfl rfl rfl rfl rfl) ?_)))))))))))
 refine Ea (Ee rfl) (Ea (Ee rfl) (Ef (Ed (Eb [10, 11, 12] rfl (Ek ?_)))))
 · first | (exfalso; simp_all; done) | (refine Ec [2, 3, 4] (.inr rfl) rfl rfl rfl rfl (show (List.range 0 ++ [2, 3, 4]).Nodup by decide) ?_; (have e : modelDo m true a z v = (m, 0, 1) := by unfold modelDo; (repeat' split) <;> first | rfl | (simp_all; done) | (exfalso; simp_all; omega)); rw [e]; exact ⟨by first | rfl | (simp; done), rfl⟩) | (refine Ec [8, 9, 10] (.inr rfl) rfl rfl rfl rfl (show (List.range 0 ++ [8, 9, 10]).Nodup by decide) ?_; (have e : modelDo m true a z v = (m, 0, 1) := by unfold modelDo; (repeat' split) <;> first | rfl | (simp_all; done) | (exfalso; simp_all; omega)); rw [e]; exact ⟨by first | rfl | (simp; done), rfl⟩) | (refine Ec [7, 8, 9] (.inr rfl) rfl rfl rfl rfl (show (List.range 0 ++ [7, 8, 9]).Nodup by decide) ?_; (have e : modelDo m true a z v = (m, 0, 1) := by unfold modelDo; (repeat' split) <;> first | rfl | (simp_all; done) | (exfalso; simp_all; omega)); rw [e]; exact ⟨by first | rfl | (simp; done), rfl⟩) | (refine Ec [6, 7, 8] (.inr rfl) rfl rfl rfl rfl (show (List.range 0 ++ [6, 7, 8]).Nodup by decide) ?_; (have e : modelDo m true a z v = (m, 0, 1) := by unfold modelDo; (repeat' split) <;> first | rfl | (simp_all; done) | (exfalso; simp_all; omega)); rw [e]; exact ⟨by first | rfl | (simp; done), rfl⟩) | (refine Ec [6, 3, 4] (.inr rfl) rfl rfl rfl rfl (show (List.range 0 ++ [6, 3, 4]).Nodup by decide) ?_; (have e : modelDo m true a z v = (⟨(putN m.ram a z v).1, m.dev⟩, v, 0) := by unfold modelDo; (repeat' split) <;> first | rfl | (simp_all; done) | (exfalso; simp_all; omega)); rw [e]; exact ⟨by first | rfl | (simp; done), rfl⟩) | (refine Ec [2, 6, 7] (.inr rfl) rfl rfl rfl rfl (show (List.range 0 ++ [2, 6, 7]).Nodup by decide) ?_; (have e : modelDo m true a z v = (⟨m.ram, (devDo m.dev true (a - 192) v).1⟩, (devDo m.dev true (a - 192) v).2.1, 0) := by unfold modelDo; (repeat' split) <;> first | rfl | (simp_all; done) | (exfalso; simp_all; omega)); rw [e]; exact ⟨by first | rfl | (simp; done), rfl⟩)
 intro h10
 try rw [nnp] at h10
 try have h10' := slave3 h10
 refine Fb (Fg (Ed (Eb [4, 5, 10, 13, 14] rfl (Eg (Eg (Eh (Ea (Ee rfl) (Ea (o_not rfl) (Ef (Ed (Eb [4, 5, 10, 13, 85] rfl ?_)))))))))))
 refine Fh rfl (Eg (Eh (Ea (Em rfl rfl rfl) (s_callG [] rfl rfl rfl rfl (by simp) (.inl rfl) (cg_98 m hs) ?_))))
 rintro u L1 ⟨rfl, rfl⟩
 refine ⟨_, _, rfl, rfl, ?_⟩
 refine Ep (Eo rfl rfl rfl rfl rfl rfl rfl) (Ea (Ee rfl) (Ea (Ee rfl) (Ef (Ed (Eb [10, 11, 12] rfl (Ek (Ev ?_)))))))
 · first | (exfalso; simp_all; done) | (refine Ec [2, 3, 4] (.inr rfl) rfl rfl rfl rfl (show (List.range 0 ++ [2, 3, 4]).Nodup by decide) ?_; (have e : modelDo m true a z v = (m, 0, 1) := by unfold modelDo; (repeat' split) <;> first | rfl | (simp_all; done) | (exfalso; simp_all; omega)); rw [e]; exact ⟨by first | rfl | (simp; done), rfl⟩) | (refine Ec [8, 9, 10] (.inr rfl) rfl rfl rfl rfl (show (List.range 0 ++ [8, 9, 10]).Nodup by decide) ?_; (have e : modelDo m true a z v = (m, 0, 1) := by unfold modelDo; (repeat' split) <;> first | rfl | (simp_all; done) | (exfalso; simp_all; omega)); rw [e]; exact ⟨by first | rfl | (simp; done), rfl⟩) | (refine Ec [7, 8, 9] (.inr rfl) rfl rfl rfl rfl (show (List.range 0 ++ [7, 8, 9]).Nodup by decide) ?_; (have e : modelDo m true a z v = (m, 0, 1) := by unfold modelDo; (repeat' split) <;> first | rfl | (simp_all; done) | (exfalso; simp_all; omega)); rw [e]; exact ⟨by first | rfl | (simp; done), rfl⟩) | (refine Ec [6, 7, 8] (.inr rfl) rfl rfl rfl rfl (show (List.range 0 ++ [6, 7, 8]).Nodup by decide) ?_; (have e : modelDo m true a z v = (m, 0, 1) := by unfold modelDo; (repeat' split) <;> first | rfl | (simp_all; done) | (exfalso; simp_all; omega)); rw [e]; exact ⟨by first | rfl | (simp; done), rfl⟩) | (refine Ec [6, 3, 4] (.inr rfl) rfl rfl rfl rfl (show (List.range 0 ++ [6, 3, 4]).Nodup by decide) ?_; (have e : modelDo m true a z v = (⟨(putN m.ram a z v).1, m.dev⟩, v, 0) := by unfold modelDo; (repeat' split) <;> first | rfl | (simp_all; done) | (exfalso; simp_all; omega)); rw [e]; exact ⟨by first | rfl | (simp; done), rfl⟩) | (refine Ec [2, 6, 7] (.inr rfl) rfl rfl rfl rfl (show (List.range 0 ++ [2, 6, 7]).Nodup by decide) ?_; (have e : modelDo m true a z v = (⟨m.ram, (devDo m.dev true (a - 192) v).1⟩, (devDo m.dev true (a - 192) v).2.1, 0) := by unfold modelDo; (repeat' split) <;> first | rfl | (simp_all; done) | (exfalso; simp_all; omega)); rw [e]; exact ⟨by first | rfl | (simp; done), rfl⟩)
 intro h9
 try rw [nnp] at h9
 try have h9' := slave3 h9
 refine Ei rfl (Ei rfl (Ea (Er rfl rfl) (Ea (Ee rfl) (Ef (Ed (Eb [1, 2, 3, 4, 5, 10, 13, 14, 58] rfl (Fh rfl (Eg (Eh (Ea (Ee rfl) (Ef ?_)))))))))))
 refine Ed (Eb [2, 3, 4, 5, 10, 13, 65] rfl (Fh rfl (Eh (Ea (Ew rfl) (Ea (Fd rfl rfl rfl) (Ea (Ee rfl) (Ea (Ee rfl) (Ea (Ee rfl) (s_callG [] rfl rfl rfl rfl (by simp) (.inl rfl) (cg_62 m.ram a z v hs.1) ?_)))))))))
 rintro u L1 ⟨rfl, rfl⟩
 refine ⟨_, _, rfl, rfl, ?_⟩
 refine Ea (Ee rfl) (Ea (o_ext rfl rfl) (Ea (o_ext rfl rfl) ?_))
 rw [put_ok (m := m) (a := a) (z := z) (v := v) (by assumption) (by assumption) (by assumption) (by omega)]
 refine Ea (Ew rfl) (Ep (o_stC rfl rfl rfl rfl rfl rfl) (Ea (Ee rfl) (Ef (Fg (Ed (Eb [4, 5, 10, 13, 14] rfl (Eg (Eg (Eh (Ea (Ee rfl) (Ea (o_not rfl) ?_)))))))))))
 refine Ef (Ed (Eb [4, 5, 10, 13, 85] rfl (Fe rfl (Fb (Ed (Eb [4, 10, 13] rfl (Eg (Eh (Ea (Em rfl rfl rfl) (Ea (Ee rfl) (Ep (Eo rfl rfl rfl rfl rfl rfl rfl) ?_)))))))))))
 refine Ea (Ee rfl) (Ea (Ee rfl) (Ef (Ed (Eb [10, 11, 12] rfl (Ek ?_)))))
 · first | (exfalso; simp_all; done) | (refine Ec [2, 3, 4] (.inr rfl) rfl rfl rfl rfl (show (List.range 0 ++ [2, 3, 4]).Nodup by decide) ?_; (have e : modelDo m true a z v = (m, 0, 1) := by unfold modelDo; (repeat' split) <;> first | rfl | (simp_all; done) | (exfalso; simp_all; omega)); rw [e]; exact ⟨by first | rfl | (simp; done), rfl⟩) | (refine Ec [8, 9, 10] (.inr rfl) rfl rfl rfl rfl (show (List.range 0 ++ [8, 9, 10]).Nodup by decide) ?_; (have e : modelDo m true a z v = (m, 0, 1) := by unfold modelDo; (repeat' split) <;> first | rfl | (simp_all; done) | (exfalso; simp_all; omega)); rw [e]; exact ⟨by first | rfl | (simp; done), rfl⟩) | (refine Ec [7, 8, 9] (.inr rfl) rfl rfl rfl rfl (show (List.range 0 ++ [7, 8, 9]).Nodup by decide) ?_; (have e : modelDo m true a z v = (m, 0, 1) := by unfold modelDo; (repeat' split) <;> first | rfl | (simp_all; done) | (exfalso; simp_all; omega)); rw [e]; exact ⟨by first | rfl | (simp; done), rfl⟩) | (refine Ec [6, 7, 8] (.inr rfl) rfl rfl rfl rfl (show (List.range 0 ++ [6, 7, 8]).Nodup by decide) ?_; (have e : modelDo m true a z v = (m, 0, 1) := by unfold modelDo; (repeat' split) <;> first | rfl | (simp_all; done) | (exfalso; simp_all; omega)); rw [e]; exact ⟨by first | rfl | (simp; done), rfl⟩) | (refine Ec [6, 3, 4] (.inr rfl) rfl rfl rfl rfl (show (List.range 0 ++ [6, 3, 4]).Nodup by decide) ?_; (have e : modelDo m true a z v = (⟨(putN m.ram a z v).1, m.dev⟩, v, 0) := by unfold modelDo; (repeat' split) <;> first | rfl | (simp_all; done) | (exfalso; simp_all; omega)); rw [e]; exact ⟨by first | rfl | (simp; done), rfl⟩) | (refine Ec [2, 6, 7] (.inr rfl) rfl rfl rfl rfl (show (List.range 0 ++ [2, 6, 7]).Nodup by decide) ?_; (have e : modelDo m true a z v = (⟨m.ram, (devDo m.dev true (a - 192) v).1⟩, (devDo m.dev true (a - 192) v).2.1, 0) := by unfold modelDo; (repeat' split) <;> first | rfl | (simp_all; done) | (exfalso; simp_all; omega)); rw [e]; exact ⟨by first | rfl | (simp; done), rfl⟩)
 intro h2
 try rw [nnp] at h2
 try have h2' := slave3 h2
 refine Ei rfl (Ei rfl (s_gN rfl (s_gN rfl (s_keepO (is := [1, 2, 3, 4, 5, 10, 13, 27, 29, 30, 31]) rfl (s_gN rfl (s_gN rfl (Ei rfl (Ea (Er rfl rfl) (Ef (Ed (Eb [1, 2, 3, 4, 5, 10, 13, 35] rfl ?_)))))))))))
 refine Fh rfl (Eg (Eh (Ea (Em rfl rfl rfl) (Ep (Eo rfl rfl rfl rfl rfl rfl rfl) (Ea (Ee rfl) (Ea (Ee rfl) (Ef (Ed (Eb [10, 11, 12] rfl (Ek (Ev ?_)))))))))))
 · first | (exfalso; simp_all; done) | (refine Ec [2, 3, 4] (.inr rfl) rfl rfl rfl rfl (show (List.range 0 ++ [2, 3, 4]).Nodup by decide) ?_; (have e : modelDo m true a z v = (m, 0, 1) := by unfold modelDo; (repeat' split) <;> first | rfl | (simp_all; done) | (exfalso; simp_all; omega)); rw [e]; exact ⟨by first | rfl | (simp; done), rfl⟩) | (refine Ec [8, 9, 10] (.inr rfl) rfl rfl rfl rfl (show (List.range 0 ++ [8, 9, 10]).Nodup by decide) ?_; (have e : modelDo m true a z v = (m, 0, 1) := by unfold modelDo; (repeat' split) <;> first | rfl | (simp_all; done) | (exfalso; simp_all; omega)); rw [e]; exact ⟨by first | rfl | (simp; done), rfl⟩) | (refine Ec [7, 8, 9] (.inr rfl) rfl rfl rfl rfl (show (List.range 0 ++ [7, 8, 9]).Nodup by decide) ?_; (have e : modelDo m true a z v = (m, 0, 1) := by unfold modelDo; (repeat' split) <;> first | rfl | (simp_all; done) | (exfalso; simp_all; omega)); rw [e]; exact ⟨by first | rfl | (simp; done), rfl⟩) | (refine Ec [6, 7, 8] (.inr rfl) rfl rfl rfl rfl (show (List.range 0 ++ [6, 7, 8]).Nodup by decide) ?_; (have e : modelDo m true a z v = (m, 0, 1) := by unfold modelDo; (repeat' split) <;> first | rfl | (simp_all; done) | (exfalso; simp_all; omega)); rw [e]; exact ⟨by first | rfl | (simp; done), rfl⟩) | (refine Ec [6, 3, 4] (.inr rfl) rfl rfl rfl rfl (show (List.range 0 ++ [6, 3, 4]).Nodup by decide) ?_; (have e : modelDo m true a z v = (⟨(putN m.ram a z v).1, m.dev⟩, v, 0) := by unfold modelDo; (repeat' split) <;> first | rfl | (simp_all; done) | (exfalso; simp_all; omega)); rw [e]; exact ⟨by first | rfl | (simp; done), rfl⟩) | (refine Ec [2, 6, 7] (.inr rfl) rfl rfl rfl rfl (show (List.range 0 ++ [2, 6, 7]).Nodup by decide) ?_; (have e : modelDo m true a z v = (⟨m.ram, (devDo m.dev true (a - 192) v).1⟩, (devDo m.dev true (a - 192) v).2.1, 0) := by unfold modelDo; (repeat' split) <;> first | rfl | (simp_all; done) | (exfalso; simp_all; omega)); rw [e]; exact ⟨by first | rfl | (simp; done), rfl⟩)
 intro h1
 try rw [nnp] at h1
 try have h1' := slave3 h1
 refine Ei rfl (Ei rfl (Ei rfl (Ei rfl (Ea (Er rfl rfl) (Ea (Ee rfl) (Ei rfl (Ei rfl (s_gN rfl (s_gN rfl (s_keepO (is := [1, 2, 3, 4, 5, 10, 13, 27, 29, 30, 31]) rfl (s_gN rfl ?_)))))))))))
 refine s_gN rfl (Ei rfl (Ea (Er rfl rfl) (Ef (Ed (Eb [1, 2, 3, 4, 5, 10, 13, 35] rfl (Fh rfl (Eg (Eh (Ea (Em rfl rfl rfl) (Ep (Eo rfl rfl rfl rfl rfl rfl rfl) (Ea (Ee rfl) ?_)))))))))))
 refine Ea (Ee rfl) (Ef (Ed (Eb [10, 11, 12] rfl (Ek (Ev ?_)))))
 · first | (exfalso; simp_all; done) | (refine Ec [2, 3, 4] (.inr rfl) rfl rfl rfl rfl (show (List.range 0 ++ [2, 3, 4]).Nodup by decide) ?_; (have e : modelDo m true a z v = (m, 0, 1) := by unfold modelDo; (repeat' split) <;> first | rfl | (simp_all; done) | (exfalso; simp_all; omega)); rw [e]; exact ⟨by first | rfl | (simp; done), rfl⟩) | (refine Ec [8, 9, 10] (.inr rfl) rfl rfl rfl rfl (show (List.range 0 ++ [8, 9, 10]).Nodup by decide) ?_; (have e : modelDo m true a z v = (m, 0, 1) := by unfold modelDo; (repeat' split) <;> first | rfl | (simp_all; done) | (exfalso; simp_all; omega)); rw [e]; exact ⟨by first | rfl | (simp; done), rfl⟩) | (refine Ec [7, 8, 9] (.inr rfl) rfl rfl rfl rfl (show (List.range 0 ++ [7, 8, 9]).Nodup by decide) ?_; (have e : modelDo m true a z v = (m, 0, 1) := by unfold modelDo; (repeat' split) <;> first | rfl | (simp_all; done) | (exfalso; simp_all; omega)); rw [e]; exact ⟨by first | rfl | (simp; done), rfl⟩) | (refine Ec [6, 7, 8] (.inr rfl) rfl rfl rfl rfl (show (List.range 0 ++ [6, 7, 8]).Nodup by decide) ?_; (have e : modelDo m true a z v = (m, 0, 1) := by unfold modelDo; (repeat' split) <;> first | rfl | (simp_all; done) | (exfalso; simp_all; omega)); rw [e]; exact ⟨by first | rfl | (simp; done), rfl⟩) | (refine Ec [6, 3, 4] (.inr rfl) rfl rfl rfl rfl (show (List.range 0 ++ [6, 3, 4]).Nodup by decide) ?_; (have e : modelDo m true a z v = (⟨(putN m.ram a z v).1, m.dev⟩, v, 0) := by unfold modelDo; (repeat' split) <;> first | rfl | (simp_all; done) | (exfalso; simp_all; omega)); rw [e]; exact ⟨by first | rfl | (simp; done), rfl⟩) | (refine Ec [2, 6, 7] (.inr rfl) rfl rfl rfl rfl (show (List.range 0 ++ [2, 6, 7]).Nodup by decide) ?_; (have e : modelDo m true a z v = (⟨m.ram, (devDo m.dev true (a - 192) v).1⟩, (devDo m.dev true (a - 192) v).2.1, 0) := by unfold modelDo; (repeat' split) <;> first | rfl | (simp_all; done) | (exfalso; simp_all; omega)); rw [e]; exact ⟨by first | rfl | (simp; done), rfl⟩)
theorem cg_52f (m : Model) (a z v : Int) (hs : m.small) : GV prg 52 [] [.agg m.r, .w (.bool false), .w (.int .i64 a), .w (.int .i64 z), .w (.int .i64 v)] (fun u L1 => u = .tup [.agg [.ls 0 (modelDo m false a z v).1.ram.length, .ls 1 (modelDo m false a z v).1.dev.regs.length, .w (.int .i64 (modelDo m false a z v).1.dev.timer), .ls 2 (modelDo m false a z v).1.dev.fifo.length], .w (.int .i64 (modelDo m false a z v).2.1), .w (.int .i64 (modelDo m false a z v).2.2)] ∧ L1 = [.arr 1 ((modelDo m false a z v).1.ram.map iR), .arr 1 ((modelDo m false a z v).1.dev.regs.map iR), .arr 1 ((modelDo m false a z v).1.dev.fifo.map iR)]) := by
 have hs1 := hs.1
 have hs2 := hs.2.1
 have hs3 := hs.2.2
 refine gv_in g52 (Eb [0, 1, 2, 3, 4] rfl (Eg (Eh (Ea (o_box rfl rfl rfl) (Ea (o_new rfl rfl) (Ea (Ee rfl) (Ea (Ee rfl) (Ef (Ed (Eb [1, 2, 3, 4, 5, 10] rfl (Eg ?_)))))))))))
 refine Eh (Ea (Em rfl rfl rfl) (s_callG [] rfl rfl rfl rfl (by simp) (.inl rfl) (cg_98 m hs) ?_))
 rintro u L1 ⟨rfl, rfl⟩
 refine ⟨_, _, rfl, rfl, ?_⟩
 refine Ea (o_new rfl rfl) (Ep (Eo rfl rfl rfl rfl rfl rfl rfl) (Ef (Ed (Eb [1, 2, 3, 4, 5, 10, 13] rfl (Eg (Eg (Eh (Ea (Em rfl rfl rfl) ?_))))))))
 first | refine Fc rfl rfl (c_53 m hs) ?_ | refine s_callL rfl rfl (by simp) (c_53 m hs) rfl ?_
 refine Ea (o_not rfl) (Ea (Ee rfl) ?_)
 first | refine s_gDF rfl ?_ ?_ | refine s_gNDF rfl ?_ ?_ | refine s_gNF rfl ?_ ?_ | refine s_gB rfl ?_ ?_
 intro h1
 try rw [nnp] at h1
 try have h1' := slave3 h1
 refine Ea (Ee rfl) (Ez rfl (Ea (Ee rfl) (Ez rfl (Fc rfl rfl (c_21 _ _) (Ez rfl (Ea (o_not rfl) (Ea (Ej rfl rfl) (Ea (Ee rfl) ?_))))))))
 first | refine s_gDF rfl ?_ ?_ | refine s_gNDF rfl ?_ ?_ | refine s_gNF rfl ?_ ?_ | refine s_gB rfl ?_ ?_
 intro h2
 try rw [nnp] at h2
 try have h2' := slave3 h2
 refine Ea (Ee rfl) (Ez rfl (Ea (Ee rfl) (Ei rfl (Ei rfl (s_keepO (is := [1, 2, 3, 4, 5, 10, 13, 27, 29, 30, 31]) rfl (Ei rfl (Ei rfl (Ez rfl (Ea (Ej rfl rfl) (Ea (Ej rfl rfl) (Ef ?_)))))))))))
 refine Ed (Eb [1, 2, 3, 4, 5, 10, 13, 35] rfl (Fe rfl (Fb (Ed (Eb [1, 2, 3, 4, 5, 10, 13] rfl (Eg (Eh (Ea (Ee rfl) (Ef (Ed (Eb [1, 2, 3, 4, 5, 10, 13, 14] rfl ?_)))))))))))
 refine Eg (Eg (Eh (Ea (Ee rfl) (Fc rfl rfl (c_73 _) (Ea (Ee rfl) (Ef (Ed (Eb [1, 2, 3, 4, 5, 10, 13, 14, 15] rfl (S_block (Eg (Eh ?_)))))))))))
 refine Ea (Ee rfl) (Ea (o_eql rfl rfl) (Ea (Ee rfl) ?_))
 first | refine s_gDT rfl ?_ ?_ | refine s_gB rfl ?_ ?_
 intro h3
 try rw [nnp] at h3
 try have h3' := slave3 h3
 refine Ea (Ee rfl) (Ez rfl (Ea (o_eql rfl rfl) (Ea (Er rfl rfl) (Ea (Ee rfl) (Ef (Ed (Eb [1, 2, 3, 4, 5, 10, 13, 14, 15, 39] rfl ?_)))))))
 first | refine Eu rfl ?_ ?_ | refine Et rfl ?_ ?_
 intro h4
 try rw [nnp] at h4
 try have h4' := slave3 h4
 refine Eh (Ea (Ew rfl) (Ea (Em rfl rfl rfl) (Ea (Ee rfl) (Ea (Ee rfl) ?_))))
 first | refine Ea (o_subn rfl rfl (by omega)) ?_ | refine Ea (o_sub rfl rfl) ?_
 refine Ea (Ee rfl) (s_callG [] rfl rfl rfl rfl (by simp) (.inl rfl) (cg_39 m.dev false (a - 192) v hs.2) ?_)
 rintro u L1 ⟨rfl, rfl⟩
 refine ⟨_, _, rfl, rfl, ?_⟩
 refine Ea (Ee rfl) (Ea (o_ext rfl rfl) (Ea (o_ext rfl rfl) (Ea (o_ext rfl rfl) (Ea (Ew rfl) (Ep (Eo rfl rfl rfl rfl rfl rfl rfl) (Ea (Ee rfl) (Ea (Ee rfl) (Ef (Fg (Ed (Eb [4, 5, 10, 13, 14] rfl ?_)))))))))))
 refine Eg (Eg (Eh (Ea (Ee rfl) (Ea (o_not rfl) (Ef (Ed (Eb [4, 5, 10, 13, 85] rfl ?_)))))))
 first | refine Eu rfl ?_ ?_ | refine s_condN rfl ?_ ?_ | refine s_condNB rfl ?_ ?_ | refine Et rfl ?_ ?_
 intro h5
 try rw [nnp] at h5
 try have h5' := slave3 h5
 refine Eg (Eh (Ea (Em rfl rfl rfl) (s_callG [] rfl rfl rfl rfl (by simp) (.inl rfl) (cg_98 m hs) ?_)))
 rintro u L1 ⟨rfl, rfl⟩
 refine ⟨_, _, rfl, rfl, ?_⟩
 refine Ep (Eo rfl rfl rfl rfl rfl rfl rfl) (Ea (Ee rfl) (Ea (Ee rfl) (Ef (Ed (Eb [10, 11, 12] rfl (Ek (Ev ?_)))))))
 · first | (exfalso; simp_all; done) | (refine Ec [2, 3, 4] (.inr rfl) rfl rfl rfl rfl (show (List.range 0 ++ [2, 3, 4]).Nodup by decide) ?_; (have e : modelDo m false a z v = (m, 0, 1) := by unfold modelDo; (repeat' split) <;> first | rfl | (simp_all; done) | (exfalso; simp_all; omega)); rw [e]; exact ⟨by first | rfl | (simp; done), rfl⟩) | (refine Ec [8, 9, 10] (.inr rfl) rfl rfl rfl rfl (show (List.range 0 ++ [8, 9, 10]).Nodup by decide) ?_; (have e : modelDo m false a z v = (m, 0, 1) := by unfold modelDo; (repeat' split) <;> first | rfl | (simp_all; done) | (exfalso; simp_all; omega)); rw [e]; exact ⟨by first | rfl | (simp; done), rfl⟩) | (refine Ec [7, 8, 9] (.inr rfl) rfl rfl rfl rfl (show (List.range 0 ++ [7, 8, 9]).Nodup by decide) ?_; (have e : modelDo m false a z v = (m, 0, 1) := by unfold modelDo; (repeat' split) <;> first | rfl | (simp_all; done) | (exfalso; simp_all; omega)); rw [e]; exact ⟨by first | rfl | (simp; done), rfl⟩) | (refine Ec [6, 7, 8] (.inr rfl) rfl rfl rfl rfl (show (List.range 0 ++ [6, 7, 8]).Nodup by decide) ?_; (have e : modelDo m false a z v = (m, 0, 1) := by unfold modelDo; (repeat' split) <;> first | rfl | (simp_all; done) | (exfalso; simp_all; omega)); rw [e]; exact ⟨by first | rfl | (simp; done), rfl⟩) | (refine Ec [2, 3, 4] (.inr rfl) rfl rfl rfl rfl (show (List.range 0 ++ [2, 3, 4]).Nodup by decide) ?_; (have e : modelDo m false a z v = (m, (getN m.ram a z).1, 0) := by unfold modelDo; (repeat' split) <;> first | rfl | (simp_all; done) | (exfalso; simp_all; omega)); rw [e]; exact ⟨by first | rfl | (simp; done), rfl⟩) | (refine Ec [2, 6, 7] (.inr rfl) rfl rfl rfl rfl (show (List.range 0 ++ [2, 6, 7]).Nodup by decide) ?_; (have e : modelDo m false a z v = (⟨m.ram, (devDo m.dev false (a - 192) v).1⟩, (devDo m.dev false (a - 192) v).2.1, 0) := by unfold modelDo; (repeat' split) <;> first | rfl | (simp_all; done) | (exfalso; simp_all; omega)); rw [e]; exact ⟨by first | rfl | (simp; done), rfl⟩)
 intro h5
 try rw [nnp] at h5
 try have h5' := slave3 h5
 refine Fb (Ed (Eb [4, 10, 13] rfl (Eg (Eh (Ea (Em rfl rfl rfl) (Ea (Ee rfl) (Ep (Eo rfl rfl rfl rfl rfl rfl rfl) (Ea (Ee rfl) (Ea (Ee rfl) (Ef (Ed ?_)))))))))))
 refine Eb [10, 11, 12] rfl (Ek ?_)
 · first | (exfalso; simp_all; done) | (refine Ec [2, 3, 4] (.inr rfl) rfl rfl rfl rfl (show (List.range 0 ++ [2, 3, 4]).Nodup by decide) ?_; (have e : modelDo m false a z v = (m, 0, 1) := by unfold modelDo; (repeat' split) <;> first | rfl | (simp_all; done) | (exfalso; simp_all; omega)); rw [e]; exact ⟨by first | rfl | (simp; done), rfl⟩) | (refine Ec [8, 9, 10] (.inr rfl) rfl rfl rfl rfl (show (List.range 0 ++ [8, 9, 10]).Nodup by decide) ?_; (have e : modelDo m false a z v = (m, 0, 1) := by unfold modelDo; (repeat' split) <;> first | rfl | (simp_all; done) | (exfalso; simp_all; omega)); rw [e]; exact ⟨by first | rfl | (simp; done), rfl⟩) | (refine Ec [7, 8, 9] (.inr rfl) rfl rfl rfl rfl (show (List.range 0 ++ [7, 8, 9]).Nodup by decide) ?_; (have e : modelDo m false a z v = (m, 0, 1) := by unfold modelDo; (repeat' split) <;> first | rfl | (simp_all; done) | (exfalso; simp_all; omega)); rw [e]; exact ⟨by first | rfl | (simp; done), rfl⟩) | (refine Ec [6, 7, 8] (.inr rfl) rfl rfl rfl rfl (show (List.range 0 ++ [6, 7, 8]).Nodup by decide) ?_; (have e : modelDo m false a z v = (m, 0, 1) := by unfold modelDo; (repeat' split) <;> first | rfl | (simp_all; done) | (exfalso; simp_all; omega)); rw [e]; exact ⟨by first | rfl | (simp; done), rfl⟩) | (refine Ec [2, 3, 4] (.inr rfl) rfl rfl rfl rfl (show (List.range 0 ++ [2, 3, 4]).Nodup by decide) ?_; (have e : modelDo m false a z v = (m, (getN m.ram a z).1, 0) := by unfold modelDo; (repeat' split) <;> first | rfl | (simp_all; done) | (exfalso; simp_all; omega)); rw [e]; exact ⟨by first | rfl | (simp; done), rfl⟩) | (refine Ec [2, 6, 7] (.inr rfl) rfl rfl rfl rfl (show (List.range 0 ++ [2, 6, 7]).Nodup by decide) ?_; (have e : modelDo m false a z v = (⟨m.ram, (devDo m.dev false (a - 192) v).1⟩, (devDo m.dev false (a - 192) v).2.1, 0) := by unfold modelDo; (repeat' split) <;> first | rfl | (simp_all; done) | (exfalso; simp_all; omega)); rw [e]; exact ⟨by first | rfl | (simp; done), rfl⟩)
 intro h4
 try rw [nnp] at h4
 try have h4' := slave3 h4
 refine Eg (Eh (Ea (Ee rfl) (Ea (o_eql rfl rfl) (Ea (Ee rfl) ?_))))
 first | refine s_gDF rfl ?_ ?_ | refine s_gB rfl ?_ ?_
 intro h6
 try rw [nnp] at h6
 try have h6' := slave3 h6
 refine Ea (Ee rfl) (Ez rfl (Ea (o_eql rfl rfl) (Ea (Ej rfl rfl) (Ea (Ee rfl) (Ef (Ed (Eb [1, 2, 3, 4, 5, 10, 13, 14, 58] rfl ?_)))))))
 first | refine Eu rfl ?_ ?_ | refine Et rfl ?_ ?_
 intro h7
 try rw [nnp] at h7
 try have h7' := slave3 h7
 refine Eg (Eh (Ea (Ee rfl) (Ef (Ed (Eb [2, 3, 4, 5, 10, 13, 65] rfl (Fe rfl (Eh (Ea (Ew rfl) (Ea (Fd rfl rfl rfl) (Ea (Ee rfl) (Ea (Ee rfl) ?_)))))))))))
 first | refine Fc rfl rfl (c_47 m.ram a z hs.1) ?_ | refine s_callL rfl rfl (by simp) (c_47 m.ram a z hs.1) rfl ?_
 refine Ea (Ee rfl) (Ea (o_ext rfl rfl) (Ea (o_ext rfl rfl) ?_))
 rw [show V.w (.bool (getN m.ram a z).2) = V.w (.bool true) from by rw [get_ok (m := m) (by assumption) (by assumption) (by omega)]]
 refine Ea (Ee rfl) (Ea (Ee rfl) (Ef (Fg (Ed (Eb [4, 5, 10, 13, 14] rfl (Eg (Eg (Eh (Ea (Ee rfl) (Ea (o_not rfl) (Ef ?_)))))))))))
 refine Ed (Eb [4, 5, 10, 13, 85] rfl (Fe rfl (Fb (Ed (Eb [4, 10, 13] rfl (Eg (Eh (Ea (Em rfl rfl rfl) (Ea (Ee rfl) (Ep (Eo rfl rfl rfl rfl rfl rfl rfl) (Ea (Ee rfl) ?_)))))))))))
 refine Ea (Ee rfl) (Ef (Ed (Eb [10, 11, 12] rfl (Ek ?_))))
 · first | (exfalso; simp_all; done) | (refine Ec [2, 3, 4] (.inr rfl) rfl rfl rfl rfl (show (List.range 0 ++ [2, 3, 4]).Nodup by decide) ?_; (have e : modelDo m false a z v = (m, 0, 1) := by unfold modelDo; (repeat' split) <;> first | rfl | (simp_all; done) | (exfalso; simp_all; omega)); rw [e]; exact ⟨by first | rfl | (simp; done), rfl⟩) | (refine Ec [8, 9, 10] (.inr rfl) rfl rfl rfl rfl (show (List.range 0 ++ [8, 9, 10]).Nodup by decide) ?_; (have e : modelDo m false a z v = (m, 0, 1) := by unfold modelDo; (repeat' split) <;> first | rfl | (simp_all; done) | (exfalso; simp_all; omega)); rw [e]; exact ⟨by first | rfl | (simp; done), rfl⟩) | (refine Ec [7, 8, 9] (.inr rfl) rfl rfl rfl rfl (show (List.range 0 ++ [7, 8, 9]).Nodup by decide) ?_; (have e : modelDo m false a z v = (m, 0, 1) := by unfold modelDo; (repeat' split) <;> first | rfl | (simp_all; done) | (exfalso; simp_all; omega)); rw [e]; exact ⟨by first | rfl | (simp; done), rfl⟩) | (refine Ec [6, 7, 8] (.inr rfl) rfl rfl rfl rfl (show (List.range 0 ++ [6, 7, 8]).Nodup by decide) ?_; (have e : modelDo m false a z v = (m, 0, 1) := by unfold modelDo; (repeat' split) <;> first | rfl | (simp_all; done) | (exfalso; simp_all; omega)); rw [e]; exact ⟨by first | rfl | (simp; done), rfl⟩) | (refine Ec [2, 3, 4] (.inr rfl) rfl rfl rfl rfl (show (List.range 0 ++ [2, 3, 4]).Nodup by decide) ?_; (have e : modelDo m false a z v = (m, (getN m.ram a z).1, 0) := by unfold modelDo; (repeat' split) <;> first | rfl | (simp_all; done) | (exfalso; simp_all; omega)); rw [e]; exact ⟨by first | rfl | (simp; done), rfl⟩) | (refine Ec [2, 6, 7] (.inr rfl) rfl rfl rfl rfl (show (List.range 0 ++ [2, 6, 7]).Nodup by decide) ?_; (have e : modelDo m false a z v = (⟨m.ram, (devDo m.dev false (a - 192) v).1⟩, (devDo m.dev false (a - 192) v).2.1, 0) := by unfold modelDo; (repeat' split) <;> first | rfl | (simp_all; done) | (exfalso; simp_all; omega)); rw [e]; exact ⟨by first | rfl | (simp; done), rfl⟩)
 intro h7
 try rw [nnp] at h7
 try have h7' := slave3 h7
 refine Fb (Fg (Ed (Eb [4, 5, 10, 13, 14] rfl (Eg (Eg (Eh (Ea (Ee rfl) (Ea (o_not rfl) (Ef (Ed (Eb [4, 5, 10, 13, 85] rfl ?_)))))))))))
 refine Fh rfl (Eg (Eh (Ea (Em rfl rfl rfl) (s_callG [] rfl rfl rfl rfl (by simp) (.inl rfl) (cg_98 m hs) ?_))))
 rintro u L1 ⟨rfl, rfl⟩
 refine ⟨_, _, rfl, rfl, ?_⟩
 refine Ep (Eo rfl rfl rfl rfl rfl rfl rfl) (Ea (Ee rfl) (Ea (Ee rfl) (Ef (Ed (Eb [10, 11, 12] rfl (Ek (Ev ?_)))))))
 · first | (exfalso; simp_all; done) | (refine Ec [2, 3, 4] (.inr rfl) rfl rfl rfl rfl (show (List.range 0 ++ [2, 3, 4]).Nodup by decide) ?_; (have e : modelDo m false a z v = (m, 0, 1) := by unfold modelDo; (repeat' split) <;> first | rfl | (simp_all; done) | (exfalso; simp_all; omega)); rw [e]; exact ⟨by first | rfl | (simp; done), rfl⟩) | (refine Ec [8, 9, 10] (.inr rfl) rfl rfl rfl rfl (show (List.range 0 ++ [8, 9, 10]).Nodup by decide) ?_; (have e : modelDo m false a z v = (m, 0, 1) := by unfold modelDo; (repeat' split) <;> first | rfl | (simp_all; done) | (exfalso; simp_all; omega)); rw [e]; exact ⟨by first | rfl | (simp; done), rfl⟩) | (refine Ec [7, 8, 9] (.inr rfl) rfl rfl rfl rfl (show (List.range 0 ++ [7, 8, 9]).Nodup by decide) ?_; (have e : modelDo m false a z v = (m, 0, 1) := by unfold modelDo; (repeat' split) <;> first | rfl | (simp_all; done) | (exfalso; simp_all; omega)); rw [e]; exact ⟨by first | rfl | (simp; done), rfl⟩) | (refine Ec [6, 7, 8] (.inr rfl) rfl rfl rfl rfl (show (List.range 0 ++ [6, 7, 8]).Nodup by decide) ?_; (have e : modelDo m false a z v = (m, 0, 1) := by unfold modelDo; (repeat' split) <;> first | rfl | (simp_all; done) | (exfalso; simp_all; omega)); rw [e]; exact ⟨by first | rfl | (simp; done), rfl⟩) | (refine Ec [2, 3, 4] (.inr rfl) rfl rfl rfl rfl (show (List.range 0 ++ [2, 3, 4]).Nodup by decide) ?_; (have e : modelDo m false a z v = (m, (getN m.ram a z).1, 0) := by unfold modelDo; (repeat' split) <;> first | rfl | (simp_all; done) | (exfalso; simp_all; omega)); rw [e]; exact ⟨by first | rfl | (simp; done), rfl⟩) | (refine Ec [2, 6, 7] (.inr rfl) rfl rfl rfl rfl (show (List.range 0 ++ [2, 6, 7]).Nodup by decide) ?_; (have e : modelDo m false a z v = (⟨m.ram, (devDo m.dev false (a - 192) v).1⟩, (devDo m.dev false (a - 192) v).2.1, 0) := by unfold modelDo; (repeat' split) <;> first | rfl | (simp_all; done) | (exfalso; simp_all; omega)); rw [e]; exact ⟨by first | rfl | (simp; done), rfl⟩)
 intro h6
 try rw [nnp] at h6
 try have h6' := slave3 h6
 refine Ei rfl (Ei rfl (Ea (Er rfl rfl) (Ea (Ee rfl) (Ef (Ed (Eb [1, 2, 3, 4, 5, 10, 13, 14, 58] rfl (Fh rfl (Eg (Eh (Ea (Ee rfl) (Ef ?_)))))))))))
 refine Ed (Eb [2, 3, 4, 5, 10, 13, 65] rfl (Fe rfl (Eh (Ea (Ew rfl) (Ea (Fd rfl rfl rfl) (Ea (Ee rfl) (Ea (Ee rfl) ?_)))))))
 first | refine Fc rfl rfl (c_47 m.ram a z hs.1) ?_ | refine s_callL rfl rfl (by simp) (c_47 m.ram a z hs.1) rfl ?_
 refine Ea (Ee rfl) (Ea (o_ext rfl rfl) (Ea (o_ext rfl rfl) ?_))
 rw [show V.w (.bool (getN m.ram a z).2) = V.w (.bool true) from by rw [get_ok (m := m) (by assumption) (by assumption) (by omega)]]
 refine Ea (Ee rfl) (Ea (Ee rfl) (Ef (Fg (Ed (Eb [4, 5, 10, 13, 14] rfl (Eg (Eg (Eh (Ea (Ee rfl) (Ea (o_not rfl) (Ef ?_)))))))))))
 refine Ed (Eb [4, 5, 10, 13, 85] rfl (Fe rfl (Fb (Ed (Eb [4, 10, 13] rfl (Eg (Eh (Ea (Em rfl rfl rfl) (Ea (Ee rfl) (Ep (Eo rfl rfl rfl rfl rfl rfl rfl) (Ea (Ee rfl) ?_)))))))))))
 refine Ea (Ee rfl) (Ef (Ed (Eb [10, 11, 12] rfl (Ek ?_))))
 · first | (exfalso; simp_all; done) | (refine Ec [2, 3, 4] (.inr rfl) rfl rfl rfl rfl (show (List.range 0 ++ [2, 3, 4]).Nodup by decide) ?_; (have e : modelDo m false a z v = (m, 0, 1) := by unfold modelDo; (repeat' split) <;> first | rfl | (simp_all; done) | (exfalso; simp_all; omega)); rw [e]; exact ⟨by first | rfl | (simp; done), rfl⟩) | (refine Ec [8, 9, 10] (.inr rfl) rfl rfl rfl rfl (show (List.range 0 ++ [8, 9, 10]).Nodup by decide) ?_; (have e : modelDo m false a z v = (m, 0, 1) := by unfold modelDo; (repeat' split) <;> first | rfl | (simp_all; done) | (exfalso; simp_all; omega)); rw [e]; exact ⟨by first | rfl | (simp; done), rfl⟩) | (refine Ec [7, 8, 9] (.inr rfl) rfl rfl rfl rfl (show (List.range 0 ++ [7, 8, 9]).Nodup by decide) ?_; (have e : modelDo m false a z v = (m, 0, 1) := by unfold modelDo; (repeat' split) <;> first | rfl | (simp_all; done) | (exfalso; simp_all; omega)); rw [e]; exact ⟨by first | rfl | (simp; done), rfl⟩) | (refine Ec [6, 7, 8] (.inr rfl) rfl rfl rfl rfl (show (List.range 0 ++ [6, 7, 8]).Nodup by decide) ?_; (have e : modelDo m false a z v = (m, 0, 1) := by unfold modelDo; (repeat' split) <;> first | rfl | (simp_all; done) | (exfalso; simp_all; omega)); rw [e]; exact ⟨by first | rfl | (simp; done), rfl⟩) | (refine Ec [2, 3, 4] (.inr rfl) rfl rfl rfl rfl (show (List.range 0 ++ [2, 3, 4]).Nodup by decide) ?_; (have e : modelDo m false a z v = (m, (getN m.ram a z).1, 0) := by unfold modelDo; (repeat' split) <;> first | rfl | (simp_all; done) | (exfalso; simp_all; omega)); rw [e]; exact ⟨by first | rfl | (simp; done), rfl⟩) | (refine Ec [2, 6, 7] (.inr rfl) rfl rfl rfl rfl (show (List.range 0 ++ [2, 6, 7]).Nodup by decide) ?_; (have e : modelDo m false a z v = (⟨m.ram, (devDo m.dev false (a - 192) v).1⟩, (devDo m.dev false (a - 192) v).2.1, 0) := by unfold modelDo; (repeat' split) <;> first | rfl | (simp_all; done) | (exfalso; simp_all; omega)); rw [e]; exact ⟨by first | rfl | (simp; done), rfl⟩)
 intro h3
 try rw [nnp] at h3
 try have h3' := slave3 h3
 refine Ei rfl (Ei rfl (Ea (Ej rfl rfl) (Ea (Ee rfl) (Ef (Ed (Eb [1, 2, 3, 4, 5, 10, 13, 14, 15, 39] rfl (Fe rfl (Eg (Eh (Ea (Ee rfl) (Ea (o_eql rfl rfl) ?_)))))))))))
 refine Ea (Ee rfl) ?_
 first | refine s_gDF rfl ?_ ?_ | refine s_gB rfl ?_ ?_
 intro h8
 try rw [nnp] at h8
 try have h8' := slave3 h8
 refine Ea (Ee rfl) (Ez rfl (Ea (o_eql rfl rfl) (Ea (Ej rfl rfl) (Ea (Ee rfl) (Ef (Ed (Eb [1, 2, 3, 4, 5, 10, 13, 14, 58] rfl ?_)))))))
 first | refine Eu rfl ?_ ?_ | refine Et rfl ?_ ?_
 intro h9
 try rw [nnp] at h9
 try have h9' := slave3 h9
 refine Eg (Eh (Ea (Ee rfl) (Ef (Ed (Eb [2, 3, 4, 5, 10, 13, 65] rfl (Fe rfl (Eh (Ea (Ew rfl) (Ea (Fd rfl rfl rfl) (Ea (Ee rfl) (Ea (Ee rfl) ?_)))))))))))
 first | refine Fc rfl rfl (c_47 m.ram a z hs.1) ?_ | refine s_callL rfl rfl (by simp) (c_47 m.ram a z hs.1) rfl ?_
 refine Ea (Ee rfl) (Ea (o_ext rfl rfl) (Ea (o_ext rfl rfl) ?_))
 rw [show V.w (.bool (getN m.ram a z).2) = V.w (.bool true) from by rw [get_ok (m := m) (by assumption) (by assumption) (by omega)]]
 refine Ea (Ee rfl) (Ea (Ee rfl) (Ef (Fg (Ed (Eb [4, 5, 10, 13, 14] rfl (Eg (Eg (Eh (Ea (Ee rfl) (Ea (o_not rfl) (Ef ?_)))))))))))
 refine Ed (Eb [4, 5, 10, 13, 85] rfl (Fe rfl (Fb (Ed (Eb [4, 10, 13] rfl (Eg (Eh (Ea (Em rfl rfl rfl) (Ea (Ee rfl) (Ep (Eo rfl rfl rfl rfl rfl rfl rfl) (Ea (Ee rfl) ?_)))))))))))
 refine Ea (Ee rfl) (Ef (Ed (Eb [10, 11, 12] rfl (Ek ?_))))
 · first | (exfalso; simp_all; done) | (refine Ec [2, 3, 4] (.inr rfl) rfl rfl rfl rfl (show (List.range 0 ++ [2, 3, 4]).Nodup by decide) ?_; (have e : modelDo m false a z v = (m, 0, 1) := by unfold modelDo; (repeat' split) <;> first | rfl | (simp_all; done) | (exfalso; simp_all; omega)); rw [e]; exact ⟨by first | rfl | (simp; done), rfl⟩) | (refine Ec [8, 9, 10] (.inr rfl) rfl rfl rfl rfl (show (List.range 0 ++ [8, 9, 10]).Nodup by decide) ?_; (have e : modelDo m false a z v = (m, 0, 1) := by unfold modelDo; (repeat' split) <;> first | rfl | (simp_all; done) | (exfalso; simp_all; omega)); rw [e]; exact ⟨by first | rfl | (simp; done), rfl⟩) | (refine Ec [7, 8, 9] (.inr rfl) rfl rfl rfl rfl (show (List.range 0 ++ [7, 8, 9]).Nodup by decide) ?_; (have e : modelDo m false a z v = (m, 0, 1) := by unfold modelDo; (repeat' split) <;> first | rfl | (simp_all; done) | (exfalso; simp_all; omega)); rw [e]; exact ⟨by first | rfl | (simp; done), rfl⟩) | (refine Ec [6, 7, 8] (.inr rfl) rfl rfl rfl rfl (show (List.range 0 ++ [6, 7, 8]).Nodup by decide) ?_; (have e : modelDo m false a z v = (m, 0, 1) := by unfold modelDo; (repeat' split) <;> first | rfl | (simp_all; done) | (exfalso; simp_all; omega)); rw [e]; exact ⟨by first | rfl | (simp; done), rfl⟩) | (refine Ec [2, 3, 4] (.inr rfl) rfl rfl rfl rfl (show (List.range 0 ++ [2, 3, 4]).Nodup by decide) ?_; (have e : modelDo m false a z v = (m, (getN m.ram a z).1, 0) := by unfold modelDo; (repeat' split) <;> first | rfl | (simp_all; done) | (exfalso; simp_all; omega)); rw [e]; exact ⟨by first | rfl | (simp; done), rfl⟩) | (refine Ec [2, 6, 7] (.inr rfl) rfl rfl rfl rfl (show (List.range 0 ++ [2, 6, 7]).Nodup by decide) ?_; (have e : modelDo m false a z v = (⟨m.ram, (devDo m.dev false (a - 192) v).1⟩, (devDo m.dev false (a - 192) v).2.1, 0) := by unfold modelDo; (repeat' split) <;> first | rfl | (simp_all; done) | (exfalso; simp_all; omega)); rw [e]; exact ⟨by first | rfl | (simp; done), rfl⟩)
 intro h9
 try rw [nnp] at h9
 try have h9' := slave3 h9
 refine Fb (Fg (Ed (Eb [4, 5, 10, 13, 14] rfl (Eg (Eg (Eh (Ea (Ee rfl) (Ea (o_not rfl) (Ef (Ed (Eb [4, 5, 10, 13, 85] rfl ?_)))))))))))
 refine Fh rfl (Eg (Eh (Ea (Em rfl rfl rfl) (s_callG [] rfl rfl rfl rfl (by simp) (.inl rfl) (cg_98 m hs) ?_))))
 rintro u L1 ⟨rfl, rfl⟩
 refine ⟨_, _, rfl, rfl, ?_⟩
 refine Ep (Eo rfl rfl rfl rfl rfl rfl rfl) (Ea (Ee rfl) (Ea (Ee rfl) (Ef (Ed (Eb [10, 11, 12] rfl (Ek (Ev ?_)))))))
 · first | (exfalso; simp_all; done) | (refine Ec [2, 3, 4] (.inr rfl) rfl rfl rfl rfl (show (List.range 0 ++ [2, 3, 4]).Nodup by decide) ?_; (have e : modelDo m false a z v = (m, 0, 1) := by unfold modelDo; (repeat' split) <;> first | rfl | (simp_all; done) | (exfalso; simp_all; omega)); rw [e]; exact ⟨by first | rfl | (simp; done), rfl⟩) | (refine Ec [8, 9, 10] (.inr rfl) rfl rfl rfl rfl (show (List.range 0 ++ [8, 9, 10]).Nodup by decide) ?_; (have e : modelDo m false a z v = (m, 0, 1) := by unfold modelDo; (repeat' split) <;> first | rfl | (simp_all; done) | (exfalso; simp_all; omega)); rw [e]; exact ⟨by first | rfl | (simp; done), rfl⟩) | (refine Ec [7, 8, 9] (.inr rfl) rfl rfl rfl rfl (show (List.range 0 ++ [7, 8, 9]).Nodup by decide) ?_; (have e : modelDo m false a z v = (m, 0, 1) := by unfold modelDo; (repeat' split) <;> first | rfl | (simp_all; done) | (exfalso; simp_all; omega)); rw [e]; exact ⟨by first | rfl | (simp; done), rfl⟩) | (refine Ec [6, 7, 8] (.inr rfl) rfl rfl rfl rfl (show (List.range 0 ++ [6, 7, 8]).Nodup by decide) ?_; (have e : modelDo m false a z v = (m, 0, 1) := by unfold modelDo; (repeat' split) <;> first | rfl | (simp_all; done) | (exfalso; simp_all; omega)); rw [e]; exact ⟨by first | rfl | (simp; done), rfl⟩) | (refine Ec [2, 3, 4] (.inr rfl) rfl rfl rfl rfl (show (List.range 0 ++ [2, 3, 4]).Nodup by decide) ?_; (have e : modelDo m false a z v = (m, (getN m.ram a z).1, 0) := by unfold modelDo; (repeat' split) <;> first | rfl | (simp_all; done) | (exfalso; simp_all; omega)); rw [e]; exact ⟨by first | rfl | (simp; done), rfl⟩) | (refine Ec [2, 6, 7] (.inr rfl) rfl rfl rfl rfl (show (List.range 0 ++ [2, 6, 7]).Nodup by decide) ?_; (have e : modelDo m false a z v = (⟨m.ram, (devDo m.dev false (a - 192) v).1⟩, (devDo m.dev false (a - 192) v).2.1, 0) := by unfold modelDo; (repeat' split) <;> first | rfl | (simp_all; done) | (exfalso; simp_all; omega)); rw [e]; exact ⟨by first | rfl | (simp; done), rfl⟩)
 intro h8
 try rw [nnp] at h8
 try have h8' := slave3 h8
 refine Ei rfl (Ei rfl (Ea (Er rfl rfl) (Ea (Ee rfl) (Ef (Ed (Eb [1, 2, 3, 4, 5, 10, 13, 14, 58] rfl (Fh rfl (Eg (Eh (Ea (Ee rfl) (Ef ?_)))))))))))
 refine Ed (Eb [2, 3, 4, 5, 10, 13, 65] rfl (Fe rfl (Eh (Ea (Ew rfl) (Ea (Fd rfl rfl rfl) (Ea (Ee rfl) (Ea (Ee rfl) ?_)))))))
 first | refine Fc rfl rfl (c_47 m.ram a z hs.1) ?_ | refine s_callL rfl rfl (by simp) (c_47 m.ram a z hs.1) rfl ?_
 refine Ea (Ee rfl) (Ea (o_ext rfl rfl) (Ea (o_ext rfl rfl) ?_))
 rw [show V.w (.bool (getN m.ram a z).2) = V.w (.bool true) from by rw [get_ok (m := m) (by assumption) (by assumption) (by omega)]]
 refine Ea (Ee rfl) (Ea (Ee rfl) (Ef (Fg (Ed (Eb [4, 5, 10, 13, 14] rfl (Eg (Eg (Eh (Ea (Ee rfl) (Ea (o_not rfl) (Ef ?_)))))))))))
 refine Ed (Eb [4, 5, 10, 13, 85] rfl (Fe rfl (Fb (Ed (Eb [4, 10, 13] rfl (Eg (Eh (Ea (Em rfl rfl rfl) (Ea (Ee rfl) (Ep (Eo rfl rfl rfl rfl rfl rfl rfl) (Ea (Ee rfl) ?_)))))))))))
 refine Ea (Ee rfl) (Ef (Ed (Eb [10, 11, 12] rfl (Ek ?_))))
 · first | (exfalso; simp_all; done) | (refine Ec [2, 3, 4] (.inr rfl) rfl rfl rfl rfl (show (List.range 0 ++ [2, 3, 4]).Nodup by decide) ?_; (have e : modelDo m false a z v = (m, 0, 1) := by unfold modelDo; (repeat' split) <;> first | rfl | (simp_all; done) | (exfalso; simp_all; omega)); rw [e]; exact ⟨by first | rfl | (simp; done), rfl⟩) | (refine Ec [8, 9, 10] (.inr rfl) rfl rfl rfl rfl (show (List.range 0 ++ [8, 9, 10]).Nodup by decide) ?_; (have e : modelDo m false a z v = (m, 0, 1) := by unfold modelDo; (repeat' split) <;> first | rfl | (simp_all; done) | (exfalso; simp_all; omega)); rw [e]; exact ⟨by first | rfl | (simp; done), rfl⟩) | (refine Ec [7, 8, 9] (.inr rfl) rfl rfl rfl rfl (show (List.range 0 ++ [7, 8, 9]).Nodup by decide) ?_; (have e : modelDo m false a z v = (m, 0, 1) := by unfold modelDo; (repeat' split) <;> first | rfl | (simp_all; done) | (exfalso; simp_all; omega)); rw [e]; exact ⟨by first | rfl | (simp; done), rfl⟩) | (refine Ec [6, 7, 8] (.inr rfl) rfl rfl rfl rfl (show (List.range 0 ++ [6, 7, 8]).Nodup by decide) ?_; (have e : modelDo m false a z v = (m, 0, 1) := by unfold modelDo; (repeat' split) <;> first | rfl | (simp_all; done) | (exfalso; simp_all; omega)); rw [e]; exact ⟨by first | rfl | (simp; done), rfl⟩) | (refine Ec [2, 3, 4] (.inr rfl) rfl rfl rfl rfl (show (List.range 0 ++ [2, 3, 4]).Nodup by decide) ?_; (have e : modelDo m false a z v = (m, (getN m.ram a z).1, 0) := by unfold modelDo; (repeat' split) <;> first | rfl | (simp_all; done) | (exfalso; simp_all; omega)); rw [e]; exact ⟨by first | rfl | (simp; done), rfl⟩) | (refine Ec [2, 6, 7] (.inr rfl) rfl rfl rfl rfl (show (List.range 0 ++ [2, 6, 7]).Nodup by decide) ?_; (have e : modelDo m false a z v = (⟨m.ram, (devDo m.dev false (a - 192) v).1⟩, (devDo m.dev false (a - 192) v).2.1, 0) := by unfold modelDo; (repeat' split) <;> first | rfl | (simp_all; done) | (exfalso; simp_all; omega)); rw [e]; exact ⟨by first | rfl | (simp; done), rfl⟩)
 intro h2
 try rw [nnp] at h2
 try have h2' := slave3 h2
 refine Ei rfl (Ei rfl (s_gN rfl (s_gN rfl (s_keepO (is := [1, 2, 3, 4, 5, 10, 13, 27, 29, 30, 31]) rfl (s_gN rfl (s_gN rfl (Ei rfl (Ea (Er rfl rfl) (Ef (Ed (Eb [1, 2, 3, 4, 5, 10, 13, 35] rfl ?_)))))))))))
 refine Fh rfl (Eg (Eh (Ea (Em rfl rfl rfl) (Ep (Eo rfl rfl rfl rfl rfl rfl rfl) (Ea (Ee rfl) (Ea (Ee rfl) (Ef (Ed (Eb [10, 11, 12] rfl (Ek (Ev ?_)))))))))))
 · first | (exfalso; simp_all; done) | (refine Ec [2, 3, 4] (.inr rfl) rfl rfl rfl rfl (show (List.range 0 ++ [2, 3, 4]).Nodup by decide) ?_; (have e : modelDo m false a z v = (m, 0, 1) := by unfold modelDo; (repeat' split) <;> first | rfl | (simp_all; done) | (exfalso; simp_all; omega)); rw [e]; exact ⟨by first | rfl | (simp; done), rfl⟩) | (refine Ec [8, 9, 10] (.inr rfl) rfl rfl rfl rfl (show (List.range 0 ++ [8, 9, 10]).Nodup by decide) ?_; (have e : modelDo m false a z v = (m, 0, 1) := by unfold modelDo; (repeat' split) <;> first | rfl | (simp_all; done) | (exfalso; simp_all; omega)); rw [e]; exact ⟨by first | rfl | (simp; done), rfl⟩) | (refine Ec [7, 8, 9] (.inr rfl) rfl rfl rfl rfl (show (List.range 0 ++ [7, 8, 9]).Nodup by decide) ?_; (have e : modelDo m false a z v = (m, 0, 1) := by unfold modelDo; (repeat' split) <;> first | rfl | (simp_all; done) | (exfalso; simp_all; omega)); rw [e]; exact ⟨by first | rfl | (simp; done), rfl⟩) | (refine Ec [6, 7, 8] (.inr rfl) rfl rfl rfl rfl (show (List.range 0 ++ [6, 7, 8]).Nodup by decide) ?_; (have e : modelDo m false a z v = (m, 0, 1) := by unfold modelDo; (repeat' split) <;> first | rfl | (simp_all; done) | (exfalso; simp_all; omega)); rw [e]; exact ⟨by first | rfl | (simp; done), rfl⟩) | (refine Ec [2, 3, 4] (.inr rfl) rfl rfl rfl rfl (show (List.range 0 ++ [2, 3, 4]).Nodup by decide) ?_; (have e : modelDo m false a z v = (m, (getN m.ram a z).1, 0) := by unfold modelDo; (repeat' split) <;> first | rfl | (simp_all; done) | (exfalso; simp_all; omega)); rw [e]; exact ⟨by first | rfl | (simp; done), rfl⟩) | (refine Ec [2, 6, 7] (.inr rfl) rfl rfl rfl rfl (show (List.range 0 ++ [2, 6, 7]).Nodup by decide) ?_; (have e : modelDo m false a z v = (⟨m.ram, (devDo m.dev false (a - 192) v).1⟩, (devDo m.dev false (a - 192) v).2.1, 0) := by unfold modelDo; (repeat' split) <;> first | rfl | (simp_all; done) | (exfalso; simp_all; omega)); rw [e]; exact ⟨by first | rfl | (simp; done), rfl⟩)
 intro h1
 try rw [nnp] at h1
 try have h1' := slave3 h1
 refine Ei rfl (Ei rfl (Ei rfl (Ei rfl (Ea (Er rfl rfl) (Ea (Ee rfl) (Ei rfl (Ei rfl (s_gN rfl (s_gN rfl (s_keepO (is := [1, 2, 3, 4, 5, 10, 13, 27, 29, 30, 31]) rfl (s_gN rfl ?_)))))))))))
 refine s_gN rfl (Ei rfl (Ea (Er rfl rfl) (Ef (Ed (Eb [1, 2, 3, 4, 5, 10, 13, 35] rfl (Fh rfl (Eg (Eh (Ea (Em rfl rfl rfl) (Ep (Eo rfl rfl rfl rfl rfl rfl rfl) (Ea (Ee rfl) ?_)))))))))))
 refine Ea (Ee rfl) (Ef (Ed (Eb [10, 11, 12] rfl (Ek (Ev ?_)))))
 · first | (exfalso; simp_all; done) | (refine Ec [2, 3, 4] (.inr rfl) rfl rfl rfl rfl (show (List.range 0 ++ [2, 3, 4]).Nodup by decide) ?_; (have e : modelDo m false a z v = (m, 0, 1) := by unfold modelDo; (repeat' split) <;> first | rfl | (simp_all; done) | (exfalso; simp_all; omega)); rw [e]; exact ⟨by first | rfl | (simp; done), rfl⟩) | (refine Ec [8, 9, 10] (.inr rfl) rfl rfl rfl rfl (show (List.range 0 ++ [8, 9, 10]).Nodup by decide) ?_; (have e : modelDo m false a z v = (m, 0, 1) := by unfold modelDo; (repeat' split) <;> first | rfl | (simp_all; done) | (exfalso; simp_all; omega)); rw [e]; exact ⟨by first | rfl | (simp; done), rfl⟩) | (refine Ec [7, 8, 9] (.inr rfl) rfl rfl rfl rfl (show (List.range 0 ++ [7, 8, 9]).Nodup by decide) ?_; (have e : modelDo m false a z v = (m, 0, 1) := by unfold modelDo; (repeat' split) <;> first | rfl | (simp_all; done) | (exfalso; simp_all; omega)); rw [e]; exact ⟨by first | rfl | (simp; done), rfl⟩) | (refine Ec [6, 7, 8] (.inr rfl) rfl rfl rfl rfl (show (List.range 0 ++ [6, 7, 8]).Nodup by decide) ?_; (have e : modelDo m false a z v = (m, 0, 1) := by unfold modelDo; (repeat' split) <;> first | rfl | (simp_all; done) | (exfalso; simp_all; omega)); rw [e]; exact ⟨by first | rfl | (simp; done), rfl⟩) | (refine Ec [2, 3, 4] (.inr rfl) rfl rfl rfl rfl (show (List.range 0 ++ [2, 3, 4]).Nodup by decide) ?_; (have e : modelDo m false a z v = (m, (getN m.ram a z).1, 0) := by unfold modelDo; (repeat' split) <;> first | rfl | (simp_all; done) | (exfalso; simp_all; omega)); rw [e]; exact ⟨by first | rfl | (simp; done), rfl⟩) | (refine Ec [2, 6, 7] (.inr rfl) rfl rfl rfl rfl (show (List.range 0 ++ [2, 6, 7]).Nodup by decide) ?_; (have e : modelDo m false a z v = (⟨m.ram, (devDo m.dev false (a - 192) v).1⟩, (devDo m.dev false (a - 192) v).2.1, 0) := by unfold modelDo; (repeat' split) <;> first | rfl | (simp_all; done) | (exfalso; simp_all; omega)); rw [e]; exact ⟨by first | rfl | (simp; done), rfl⟩)
theorem cg_52 (m : Model) (w : Bool) (a z v : Int) (hs : m.small) : GV prg 52 [] [.agg m.r, .w (.bool w), .w (.int .i64 a), .w (.int .i64 z), .w (.int .i64 v)] (fun u L1 => u = .tup [.agg [.ls 0 (modelDo m w a z v).1.ram.length, .ls 1 (modelDo m w a z v).1.dev.regs.length, .w (.int .i64 (modelDo m w a z v).1.dev.timer), .ls 2 (modelDo m w a z v).1.dev.fifo.length], .w (.int .i64 (modelDo m w a z v).2.1), .w (.int .i64 (modelDo m w a z v).2.2)] ∧ L1 = [.arr 1 ((modelDo m w a z v).1.ram.map iR), .arr 1 ((modelDo m w a z v).1.dev.regs.map iR), .arr 1 ((modelDo m w a z v).1.dev.fifo.map iR)]) := by
 cases w
 · exact cg_52f m a z v hs
 · exact cg_52t m a z v hs
theorem c_377t (m : Model) (a z v : Int) (hs : m.small) : CV prg 377 [.agg m.r, .w (.bool true), .w (.int .i64 a), .w (.int .i64 z), .w (.int .i64 v)] (fun res => res = .tup [.agg (modelDo m true a z v).1.r, .w (.int .i64 (modelDo m true a z v).2.1), .w (.int .i64 (modelDo m true a z v).2.2)]) := by
 have hs1 := hs.1
 have hs2 := hs.2.1
 have hs3 := hs.2.2
 have hlz := limit_bd z
 refine cv_in g377 (Eb [0, 1, 2, 3, 4] rfl (Eg (Eh (Ea (o_box rfl rfl rfl) (Ea (o_new rfl rfl) (Ea (Ee rfl) (Ea (Ee rfl) (Ef (Ed (Eb [1, 2, 3, 4, 5, 10] rfl (Eg ?_)))))))))))
 refine Eh (Ea (Em rfl rfl rfl) (s_callG [] rfl rfl rfl rfl (by simp) (.inl rfl) (cg_395 m hs) ?_))
 rintro u L1 ⟨rfl, rfl⟩
 refine ⟨_, _, rfl, rfl, ?_⟩
 refine Ea (o_new rfl rfl) (Ep (Eo rfl rfl rfl rfl rfl rfl rfl) (Ef (Ed (Eb [1, 2, 3, 4, 5, 10, 13] rfl (Eg (Eg (Eh (Ea (Em rfl rfl rfl) ?_))))))))
 first | refine Fc rfl rfl (c_203 m hs) ?_ | refine s_callL rfl rfl (by simp) (c_203 m hs) rfl ?_
 refine Ea (o_not rfl) (Ea (Ee rfl) ?_)
 first | refine s_gDF rfl ?_ ?_ | refine s_gNDF rfl ?_ ?_ | refine s_gNF rfl ?_ ?_ | refine s_gB rfl ?_ ?_
 intro h1
 try rw [nnp] at h1
 try have h1' := slave3 h1
 refine Ea (Ee rfl) (Ez rfl (Ea (Ee rfl) (Ez rfl (Fc rfl rfl (c_172 _ _) (Ez rfl (Ea (o_not rfl) (Ea (Ej rfl rfl) (Ea (Ee rfl) ?_))))))))
 first | refine s_gDF rfl ?_ ?_ | refine s_gNDF rfl ?_ ?_ | refine s_gNF rfl ?_ ?_ | refine s_gB rfl ?_ ?_
 intro h2
 try rw [nnp] at h2
 try have h2' := slave3 h2
 refine Ea (Ee rfl) (Ez rfl (Ea (Ee rfl) (Ez rfl (Ea (Ee rfl) (Ez rfl (Ea (Ee rfl) (s_keepO (is := [1, 2, 3, 4, 5, 10, 13, 30, 32, 33, 34]) rfl (Ez rfl (Fc rfl rfl (c_201 _) (Ez rfl ?_))))))))))
 first | refine Ea (o_subn rfl rfl (by omega)) ?_ | refine Ea (o_sub rfl rfl) ?_
 refine Ez rfl (Fc rfl rfl (c_230 _ _ _) (Ez rfl (Ea (o_not rfl) (Ez rfl (Ea (Er rfl rfl) (Ea (Ej rfl rfl) (Ef (Ed (Eb [1, 2, 3, 4, 5, 10, 13, 40] rfl ?_)))))))))
 first | refine Eu rfl ?_ ?_ | refine s_condN rfl ?_ ?_ | refine s_condNB rfl ?_ ?_ | refine Et rfl ?_ ?_
 intro h3
 try rw [nnp] at h3
 try have h3' := slave3 h3
 refine Eg (Eh (Ea (Em rfl rfl rfl) (Ep (Eo rfl rfl rfl rfl rfl rfl rfl) (Ea (Ee rfl) (Ea (Ee rfl) (Ef (Ed (Eb [10, 11, 12] rfl (Ek (Ev ?_))))))))))
 · first | (exfalso; simp_all; done) | (refine Ey (.inr rfl) rfl rfl (by simp) ?_; (have e : modelDo m true a z v = (m, 0, 1) := by unfold modelDo; (repeat' split) <;> first | rfl | (simp_all; done) | (exfalso; simp_all; omega)); rw [e]; first | rfl | (simp [Model.r]; done)) | (refine Ey (.inr rfl) rfl rfl (by simp) ?_; (have e : modelDo m true a z v = (⟨(putN m.ram a z v).1, m.dev⟩, v, 0) := by unfold modelDo; (repeat' split) <;> first | rfl | (simp_all; done) | (exfalso; simp_all; omega)); rw [e]; first | rfl | (simp [Model.r]; done)) | (refine Ey (.inr rfl) rfl rfl (by simp) ?_; (have e : modelDo m true a z v = (⟨m.ram, (devDo m.dev true (a - 192) v).1⟩, (devDo m.dev true (a - 192) v).2.1, 0) := by unfold modelDo; (repeat' split) <;> first | rfl | (simp_all; done) | (exfalso; simp_all; omega)); rw [e]; first | rfl | (simp [Model.r]; done))
 intro h3
 try rw [nnp] at h3
 try have h3' := slave3 h3
 refine Fb (Ed (Eb [1, 2, 3, 4, 5, 10, 13] rfl (Eg (Eg (Eh (Ea (Ee rfl) (Fc rfl rfl (c_396 _) (Ef (Ed (Eb [1, 2, 3, 4, 5, 10, 13, 43] rfl (S_block ?_)))))))))))
 refine Eg (Eg (Eh (Ea (o_eql rfl rfl) (Ea (Ee rfl) (Ef (Ed (Eb [1, 2, 3, 4, 5, 10, 13, 43, 44] rfl ?_)))))))
 first | refine Eu rfl ?_ ?_ | refine Et rfl ?_ ?_
 intro h4
 try rw [nnp] at h4
 try have h4' := slave3 h4
 refine Fb (Ed (Eb [1, 2, 3, 4, 5, 10, 13, 43, 44] rfl ?_))
 first | refine Eu rfl ?_ ?_ | refine Et rfl ?_ ?_
 intro h5
 try rw [nnp] at h5
 try have h5' := slave3 h5
 refine Eg (Eg (Eh (Ea (Ee rfl) (Ef (Ed (Eb [2, 3, 4, 5, 10, 13, 47] rfl (Fh rfl (Eg (Eh (Ea (Ew rfl) (Ea (Fd rfl rfl rfl) ?_)))))))))))
 refine Ea (Ee rfl) (Ea (Ee rfl) (Ea (Ee rfl) ?_))
 first | refine Fc rfl rfl (c_397 m.ram a z v hs.1) ?_ | refine s_callL rfl rfl (by simp) (c_397 m.ram a z v hs.1) rfl ?_
 refine Ea (Ee rfl) (Ea (o_ext rfl rfl) (Ea (o_ext rfl rfl) (Ea (Ew rfl) (Ep (o_stC rfl rfl rfl rfl rfl rfl) (Ef (Ed (Eb [4, 10, 13] rfl (Eg (Eh (Ea (Em rfl rfl rfl) (Ea (Ee rfl) ?_)))))))))))
 refine Ep (Eo rfl rfl rfl rfl rfl rfl rfl) (Ea (Ee rfl) (Ea (Ee rfl) (Ef (Ed (Eb [10, 11, 12] rfl (Ek (Ev (Ff (Ev ?_)))))))))
 · first | (exfalso; simp_all; done) | (refine Ey (.inr rfl) rfl rfl (by simp) ?_; (have e : modelDo m true a z v = (m, 0, 1) := by unfold modelDo; (repeat' split) <;> first | rfl | (simp_all; done) | (exfalso; simp_all; omega)); rw [e]; first | rfl | (simp [Model.r]; done)) | (refine Ey (.inr rfl) rfl rfl (by simp) ?_; (have e : modelDo m true a z v = (⟨(putN m.ram a z v).1, m.dev⟩, v, 0) := by unfold modelDo; (repeat' split) <;> first | rfl | (simp_all; done) | (exfalso; simp_all; omega)); rw [e]; first | rfl | (simp [Model.r]; done)) | (refine Ey (.inr rfl) rfl rfl (by simp) ?_; (have e : modelDo m true a z v = (⟨m.ram, (devDo m.dev true (a - 192) v).1⟩, (devDo m.dev true (a - 192) v).2.1, 0) := by unfold modelDo; (repeat' split) <;> first | rfl | (simp_all; done) | (exfalso; simp_all; omega)); rw [e]; first | rfl | (simp [Model.r]; done))
 intro h5
 try rw [nnp] at h5
 try have h5' := slave3 h5
 refine Eg (Eh (Ea (o_eql rfl rfl) (Ea (Ee rfl) (Ef (Ed (Eb [1, 2, 3, 4, 5, 10, 13, 70] rfl ?_))))))
 first | refine Eu rfl ?_ ?_ | refine Et rfl ?_ ?_
 intro h6
 try rw [nnp] at h6
 try have h6' := slave3 h6
 refine Eg (Eh (Ea (Ew rfl) (Ea (Em rfl rfl rfl) (Ea (Ee rfl) (Ea (Ee rfl) ?_)))))
 first | refine Ea (o_subn rfl rfl (by omega)) ?_ | refine Ea (o_sub rfl rfl) ?_
 refine Ea (Ee rfl) (s_callG [] rfl rfl rfl rfl (by simp) (.inl rfl) (cg_399 m.dev true (a - 192) v hs.2) ?_)
 rintro u L1 ⟨rfl, rfl⟩
 refine ⟨_, _, rfl, rfl, ?_⟩
 refine Ea (Ee rfl) (Ea (o_ext rfl rfl) (Ea (o_ext rfl rfl) (Ea (o_ext rfl rfl) (Ea (o_new rfl rfl) (Ep (Eo rfl rfl rfl rfl rfl rfl rfl) (Ea (Ee rfl) (Ea (Ee rfl) (Ef (Ed (Eb [3, 10, 13, 16, 17, 18] rfl (Eg ?_)))))))))))
 refine Eh (Ea (Ee rfl) (Ea (o_eql rfl rfl) (Ea (Ee rfl) ?_)))
 first | refine s_gDT rfl ?_ ?_ | refine s_gB rfl ?_ ?_
 intro h7
 try rw [nnp] at h7
 try have h7' := slave3 h7
 refine Ea (Ee rfl) (Ea (Er rfl rfl) (Ef (Ed (Eb [10, 13, 16, 17, 87] rfl ?_))))
 first | refine Eu rfl ?_ ?_ | refine s_condN rfl ?_ ?_ | refine s_condNB rfl ?_ ?_ | refine Et rfl ?_ ?_
 intro h8
 try rw [nnp] at h8
 try have h8' := slave3 h8
 refine Eg (Eh (Ea (Em rfl rfl rfl) (Ea (Ew rfl) (Ep (Eo rfl rfl rfl rfl rfl rfl rfl) (Ef (Ed (Eb [10, 13, 17] rfl (Eg (Eh (Ea (Em rfl rfl rfl) (Ea (Ee rfl) ?_)))))))))))
 refine Ep (Eo rfl rfl rfl rfl rfl rfl rfl) (Ea (Ee rfl) (Ea (Ee rfl) (Ef (Ed (Eb [10, 11, 12] rfl (Ek (Ff (Ev ?_))))))))
 · first | (exfalso; simp_all; done) | (refine Ey (.inr rfl) rfl rfl (by simp) ?_; (have e : modelDo m true a z v = (m, 0, 1) := by unfold modelDo; (repeat' split) <;> first | rfl | (simp_all; done) | (exfalso; simp_all; omega)); rw [e]; first | rfl | (simp [Model.r]; done)) | (refine Ey (.inr rfl) rfl rfl (by simp) ?_; (have e : modelDo m true a z v = (⟨(putN m.ram a z v).1, m.dev⟩, v, 0) := by unfold modelDo; (repeat' split) <;> first | rfl | (simp_all; done) | (exfalso; simp_all; omega)); rw [e]; first | rfl | (simp [Model.r]; done)) | (refine Ey (.inr rfl) rfl rfl (by simp) ?_; (have e : modelDo m true a z v = (⟨m.ram, (devDo m.dev true (a - 192) v).1⟩, (devDo m.dev true (a - 192) v).2.1, 0) := by unfold modelDo; (repeat' split) <;> first | rfl | (simp_all; done) | (exfalso; simp_all; omega)); rw [e]; first | rfl | (simp [Model.r]; done))
 intro h8
 try rw [nnp] at h8
 try have h8' := slave3 h8
 refine Fb (Fg (Ed (Eb [10, 13] rfl (Eg (Eh (Ea (Em rfl rfl rfl) (Ep (Eo rfl rfl rfl rfl rfl rfl rfl) (Ea (Ee rfl) (Ea (Ee rfl) (Ef (Ed ?_)))))))))))
 refine Eb [10, 11, 12] rfl (Ek ?_)
 · first | (exfalso; simp_all; done) | (refine Ey (.inr rfl) rfl rfl (by simp) ?_; (have e : modelDo m true a z v = (m, 0, 1) := by unfold modelDo; (repeat' split) <;> first | rfl | (simp_all; done) | (exfalso; simp_all; omega)); rw [e]; first | rfl | (simp [Model.r]; done)) | (refine Ey (.inr rfl) rfl rfl (by simp) ?_; (have e : modelDo m true a z v = (⟨(putN m.ram a z v).1, m.dev⟩, v, 0) := by unfold modelDo; (repeat' split) <;> first | rfl | (simp_all; done) | (exfalso; simp_all; omega)); rw [e]; first | rfl | (simp [Model.r]; done)) | (refine Ey (.inr rfl) rfl rfl (by simp) ?_; (have e : modelDo m true a z v = (⟨m.ram, (devDo m.dev true (a - 192) v).1⟩, (devDo m.dev true (a - 192) v).2.1, 0) := by unfold modelDo; (repeat' split) <;> first | rfl | (simp_all; done) | (exfalso; simp_all; omega)); rw [e]; first | rfl | (simp [Model.r]; done))
 intro h7
 try rw [nnp] at h7
 try have h7' := slave3 h7
 refine Ei rfl (Ea (Ej rfl rfl) (Ef (Ed (Eb [10, 13, 16, 17, 87] rfl (Fe rfl (Fb (Fg (Ed (Eb [10, 13] rfl (Eg (Eh ?_)))))))))))
 refine Ea (Em rfl rfl rfl) (Ep (Eo rfl rfl rfl rfl rfl rfl rfl) (Ea (Ee rfl) (Ea (Ee rfl) (Ef (Ed (Eb [10, 11, 12] rfl (Ek ?_)))))))
 · first | (exfalso; simp_all; done) | (refine Ey (.inr rfl) rfl rfl (by simp) ?_; (have e : modelDo m true a z v = (m, 0, 1) := by unfold modelDo; (repeat' split) <;> first | rfl | (simp_all; done) | (exfalso; simp_all; omega)); rw [e]; first | rfl | (simp [Model.r]; done)) | (refine Ey (.inr rfl) rfl rfl (by simp) ?_; (have e : modelDo m true a z v = (⟨(putN m.ram a z v).1, m.dev⟩, v, 0) := by unfold modelDo; (repeat' split) <;> first | rfl | (simp_all; done) | (exfalso; simp_all; omega)); rw [e]; first | rfl | (simp [Model.r]; done)) | (refine Ey (.inr rfl) rfl rfl (by simp) ?_; (have e : modelDo m true a z v = (⟨m.ram, (devDo m.dev true (a - 192) v).1⟩, (devDo m.dev true (a - 192) v).2.1, 0) := by unfold modelDo; (repeat' split) <;> first | rfl | (simp_all; done) | (exfalso; simp_all; omega)); rw [e]; first | rfl | (simp [Model.r]; done))
 intro h6
 try rw [nnp] at h6
 try have h6' := slave3 h6
 refine Fb (Fg (Ed (Eb [10, 13] rfl (Eg (Eh (Ea (Em rfl rfl rfl) (Ep (Eo rfl rfl rfl rfl rfl rfl rfl) (Ea (Ee rfl) (Ea (Ee rfl) (Ef (Ed ?_)))))))))))
 refine Eb [10, 11, 12] rfl (Ek ?_)
 · first | (exfalso; simp_all; done) | (refine Ey (.inr rfl) rfl rfl (by simp) ?_; (have e : modelDo m true a z v = (m, 0, 1) := by unfold modelDo; (repeat' split) <;> first | rfl | (simp_all; done) | (exfalso; simp_all; omega)); rw [e]; first | rfl | (simp [Model.r]; done)) | (refine Ey (.inr rfl) rfl rfl (by simp) ?_; (have e : modelDo m true a z v = (⟨(putN m.ram a z v).1, m.dev⟩, v, 0) := by unfold modelDo; (repeat' split) <;> first | rfl | (simp_all; done) | (exfalso; simp_all; omega)); rw [e]; first | rfl | (simp [Model.r]; done)) | (refine Ey (.inr rfl) rfl rfl (by simp) ?_; (have e : modelDo m true a z v = (⟨m.ram, (devDo m.dev true (a - 192) v).1⟩, (devDo m.dev true (a - 192) v).2.1, 0) := by unfold modelDo; (repeat' split) <;> first | rfl | (simp_all; done) | (exfalso; simp_all; omega)); rw [e]; first | rfl | (simp [Model.r]; done))
 intro h4
 try rw [nnp] at h4
 try have h4' := slave3 h4
 refine Eh (Ea (o_eql rfl rfl) (Ea (Ee rfl) (Ef (Ed (Eb [1, 2, 3, 4, 5, 10, 13, 43, 44] rfl ?_)))))
 first | refine Eu rfl ?_ ?_ | refine Et rfl ?_ ?_
 intro h9
 try rw [nnp] at h9
 try have h9' := slave3 h9
 refine Eg (Eg (Eh (Ea (Ee rfl) (Ef (Ed (Eb [2, 3, 4, 5, 10, 13, 47] rfl (Fh rfl (Eg (Eh (Ea (Ew rfl) (Ea (Fd rfl rfl rfl) ?_)))))))))))
 refine Ea (Ee rfl) (Ea (Ee rfl) (Ea (Ee rfl) ?_))
 first | refine Fc rfl rfl (c_397 m.ram a z v hs.1) ?_ | refine s_callL rfl rfl (by simp) (c_397 m.ram a z v hs.1) rfl ?_
 refine Ea (Ee rfl) (Ea (o_ext rfl rfl) (Ea (o_ext rfl rfl) (Ea (Ew rfl) (Ep (o_stC rfl rfl rfl rfl rfl rfl) (Ef (Ed (Eb [4, 10, 13] rfl (Eg (Eh (Ea (Em rfl rfl rfl) (Ea (Ee rfl) ?_)))))))))))
 refine Ep (Eo rfl rfl rfl rfl rfl rfl rfl) (Ea (Ee rfl) (Ea (Ee rfl) (Ef (Ed (Eb [10, 11, 12] rfl (Ek (Ev (Ff (Ev ?_)))))))))
 · first | (exfalso; simp_all; done) | (refine Ey (.inr rfl) rfl rfl (by simp) ?_; (have e : modelDo m true a z v = (m, 0, 1) := by unfold modelDo; (repeat' split) <;> first | rfl | (simp_all; done) | (exfalso; simp_all; omega)); rw [e]; first | rfl | (simp [Model.r]; done)) | (refine Ey (.inr rfl) rfl rfl (by simp) ?_; (have e : modelDo m true a z v = (⟨(putN m.ram a z v).1, m.dev⟩, v, 0) := by unfold modelDo; (repeat' split) <;> first | rfl | (simp_all; done) | (exfalso; simp_all; omega)); rw [e]; first | rfl | (simp [Model.r]; done)) | (refine Ey (.inr rfl) rfl rfl (by simp) ?_; (have e : modelDo m true a z v = (⟨m.ram, (devDo m.dev true (a - 192) v).1⟩, (devDo m.dev true (a - 192) v).2.1, 0) := by unfold modelDo; (repeat' split) <;> first | rfl | (simp_all; done) | (exfalso; simp_all; omega)); rw [e]; first | rfl | (simp [Model.r]; done))
 intro h9
 try rw [nnp] at h9
 try have h9' := slave3 h9
 refine Eg (Eh (Ea (o_eql rfl rfl) (Ea (Ee rfl) (Ef (Ed (Eb [1, 2, 3, 4, 5, 10, 13, 70] rfl ?_))))))
 first | refine Eu rfl ?_ ?_ | refine Et rfl ?_ ?_
 intro h10
 try rw [nnp] at h10
 try have h10' := slave3 h10
 refine Eg (Eh (Ea (Ew rfl) (Ea (Em rfl rfl rfl) (Ea (Ee rfl) (Ea (Ee rfl) ?_)))))
 first | refine Ea (o_subn rfl rfl (by omega)) ?_ | refine Ea (o_sub rfl rfl) ?_
 refine Ea (Ee rfl) (s_callG [] rfl rfl rfl rfl (by simp) (.inl rfl) (cg_399 m.dev true (a - 192) v hs.2) ?_)
 rintro u L1 ⟨rfl, rfl⟩
 refine ⟨_, _, rfl, rfl, ?_⟩
 refine Ea (Ee rfl) (Ea (o_ext rfl rfl) (Ea (o_ext rfl rfl) (Ea (o_ext rfl rfl) (Ea (o_new rfl rfl) (Ep (Eo rfl rfl rfl rfl rfl rfl rfl) (Ea (Ee rfl) (Ea (Ee rfl) (Ef (Ed (Eb [3, 10, 13, 16, 17, 18] rfl (Eg ?_)))))))))))
 refine Eh (Ea (Ee rfl) (Ea (o_eql rfl rfl) (Ea (Ee rfl) ?_)))
 first | refine s_gDT rfl ?_ ?_ | refine s_gB rfl ?_ ?_
 intro h11
 try rw [nnp] at h11
 try have h11' := slave3 h11
 refine Ea (Ee rfl) (Ea (Er rfl rfl) (Ef (Ed (Eb [10, 13, 16, 17, 87] rfl ?_))))
 first | refine Eu rfl ?_ ?_ | refine s_condN rfl ?_ ?_ | refine s_condNB rfl ?_ ?_ | refine Et rfl ?_ ?_
 intro h12
 try rw [nnp] at h12
 try have h12' := slave3 h12
 refine Eg (Eh (Ea (Em rfl rfl rfl) (Ea (Ew rfl) (Ep (Eo rfl rfl rfl rfl rfl rfl rfl) (Ef (Ed (Eb [10, 13, 17] rfl (Eg (Eh (Ea (Em rfl rfl rfl) (Ea (Ee rfl) ?_)))))))))))
 refine Ep (Eo rfl rfl rfl rfl rfl rfl rfl) (Ea (Ee rfl) (Ea (Ee rfl) (Ef (Ed (Eb [10, 11, 12] rfl (Ek (Ff (Ev ?_))))))))
 · first | (exfalso; simp_all; done) | (refine Ey (.inr rfl) rfl rfl (by simp) ?_; (have e : modelDo m true a z v = (m, 0, 1) := by unfold modelDo; (repeat' split) <;> first | rfl | (simp_all; done) | (exfalso; simp_all; omega)); rw [e]; first | rfl | (simp [Model.r]; done)) | (refine Ey (.inr rfl) rfl rfl (by simp) ?_; (have e : modelDo m true a z v = (⟨(putN m.ram a z v).1, m.dev⟩, v, 0) := by unfold modelDo; (repeat' split) <;> first | rfl | (simp_all; done) | (exfalso; simp_all; omega)); rw [e]; first | rfl | (simp [Model.r]; done)) | (refine Ey (.inr rfl) rfl rfl (by simp) ?_; (have e : modelDo m true a z v = (⟨m.ram, (devDo m.dev true (a - 192) v).1⟩, (devDo m.dev true (a - 192) v).2.1, 0) := by unfold modelDo; (repeat' split) <;> first | rfl | (simp_all; done) | (exfalso; simp_all; omega)); rw [e]; first | rfl | (simp [Model.r]; done))
 intro h12
 try rw [nnp] at h12
 try have h12' := slave3 h12
 refine Fb (Fg (Ed (Eb [10, 13] rfl (Eg (Eh (Ea (Em rfl rfl rfl) (Ep (Eo rfl rfl rfl rfl rfl rfl rfl) (Ea (Ee rfl) (Ea (Ee rfl) (Ef (Ed ?_)))))))))))
 refine Eb [10, 11, 12] rfl (Ek ?_)
 · first | (exfalso; simp_all; done) | (refine Ey (.inr rfl) rfl rfl (by simp) ?_; (have e : modelDo m true a z v = (m, 0, 1) := by unfold modelDo; (repeat' split) <;> first | rfl | (simp_all; done) | (exfalso; simp_all; omega)); rw [e]; first | rfl | (simp [Model.r]; done)) | (refine Ey (.inr rfl) rfl rfl (by simp) ?_; (have e : modelDo m true a z v = (⟨(putN m.ram a z v).1, m.dev⟩, v, 0) := by unfold modelDo; (repeat' split) <;> first | rfl | (simp_all; done) | (exfalso; simp_all; omega)); rw [e]; first | rfl | (simp [Model.r]; done)) | (refine Ey (.inr rfl) rfl rfl (by simp) ?_; (have e : modelDo m true a z v = (⟨m.ram, (devDo m.dev true (a - 192) v).1⟩, (devDo m.dev true (a - 192) v).2.1, 0) := by unfold modelDo; (repeat' split) <;> first | rfl | (simp_all; done) | (exfalso; simp_all; omega)); rw [e]; first | rfl | (simp [Model.r]; done))
 intro h11
 try rw [nnp] at h11
 try have h11' := slave3 h11
 refine Ei rfl (Ea (Ej rfl rfl) (Ef (Ed (Eb [10, 13, 16, 17, 87] rfl (Fe rfl (Fb (Fg (Ed (Eb [10, 13] rfl (Eg (Eh ?_)))))))))))
 refine Ea (Em rfl rfl rfl) (Ep (Eo rfl rfl rfl rfl rfl rfl rfl) (Ea (Ee rfl) (Ea (Ee rfl) (Ef (Ed (Eb [10, 11, 12] rfl (Ek ?_)))))))
 · first | (exfalso; simp_all; done) | (refine Ey (.inr rfl) rfl rfl (by simp) ?_; (have e : modelDo m true a z v = (m, 0, 1) := by unfold modelDo; (repeat' split) <;> first | rfl | (simp_all; done) | (exfalso; simp_all; omega)); rw [e]; first | rfl | (simp [Model.r]; done)) | (refine Ey (.inr rfl) rfl rfl (by simp) ?_; (have e : modelDo m true a z v = (⟨(putN m.ram a z v).1, m.dev⟩, v, 0) := by unfold modelDo; (repeat' split) <;> first | rfl | (simp_all; done) | (exfalso; simp_all; omega)); rw [e]; first | rfl | (simp [Model.r]; done)) | (refine Ey (.inr rfl) rfl rfl (by simp) ?_; (have e : modelDo m true a z v = (⟨m.ram, (devDo m.dev true (a - 192) v).1⟩, (devDo m.dev true (a - 192) v).2.1, 0) := by unfold modelDo; (repeat' split) <;> first | rfl | (simp_all; done) | (exfalso; simp_all; omega)); rw [e]; first | rfl | (simp [Model.r]; done))
 intro h10
 try rw [nnp] at h10
 try have h10' := slave3 h10
 refine Fb (Fg (Ed (Eb [10, 13] rfl (Eg (Eh (Ea (Em rfl rfl rfl) (Ep (Eo rfl rfl rfl rfl rfl rfl rfl) (Ea (Ee rfl) (Ea (Ee rfl) (Ef (Ed ?_)))))))))))
 refine Eb [10, 11, 12] rfl (Ek ?_)
 · first | (exfalso; simp_all; done) | (refine Ey (.inr rfl) rfl rfl (by simp) ?_; (have e : modelDo m true a z v = (m, 0, 1) := by unfold modelDo; (repeat' split) <;> first | rfl | (simp_all; done) | (exfalso; simp_all; omega)); rw [e]; first | rfl | (simp [Model.r]; done)) | (refine Ey (.inr rfl) rfl rfl (by simp) ?_; (have e : modelDo m true a z v = (⟨(putN m.ram a z v).1, m.dev⟩, v, 0) := by unfold modelDo; (repeat' split) <;> first | rfl | (simp_all; done) | (exfalso; simp_all; omega)); rw [e]; first | rfl | (simp [Model.r]; done)) | (refine Ey (.inr rfl) rfl rfl (by simp) ?_; (have e : modelDo m true a z v = (⟨m.ram, (devDo m.dev true (a - 192) v).1⟩, (devDo m.dev true (a - 192) v).2.1, 0) := by unfold modelDo; (repeat' split) <;> first | rfl | (simp_all; done) | (exfalso; simp_all; omega)); rw [e]; first | rfl | (simp [Model.r]; done))
 intro h2
 try rw [nnp] at h2
 try have h2' := slave3 h2
 refine Ei rfl (Ei rfl (s_gN rfl (s_gN rfl (s_keepO (is := [1, 2, 3, 4, 5, 10, 13, 30, 32, 33, 34]) rfl (s_gN rfl (s_gN rfl (s_gN rfl (s_gN rfl (Ei rfl (Ea (Er rfl rfl) (Ef ?_)))))))))))
 refine Ed (Eb [1, 2, 3, 4, 5, 10, 13, 40] rfl (Fh rfl (Eg (Eh (Ea (Em rfl rfl rfl) (Ep (Eo rfl rfl rfl rfl rfl rfl rfl) (Ea (Ee rfl) (Ea (Ee rfl) (Ef (Ed (Eb [10, 11, 12] rfl ?_)))))))))))
 refine Ek (Ev ?_)
 · first | (exfalso; simp_all; done) | (refine Ey (.inr rfl) rfl rfl (by simp) ?_; (have e : modelDo m true a z v = (m, 0, 1) := by unfold modelDo; (repeat' split) <;> first | rfl | (simp_all; done) | (exfalso; simp_all; omega)); rw [e]; first | rfl | (simp [Model.r]; done)) | (refine Ey (.inr rfl) rfl rfl (by simp) ?_; (have e : modelDo m true a z v = (⟨(putN m.ram a z v).1, m.dev⟩, v, 0) := by unfold modelDo; (repeat' split) <;> first | rfl | (simp_all; done) | (exfalso; simp_all; omega)); rw [e]; first | rfl | (simp [Model.r]; done)) | (refine Ey (.inr rfl) rfl rfl (by simp) ?_; (have e : modelDo m true a z v = (⟨m.ram, (devDo m.dev true (a - 192) v).1⟩, (devDo m.dev true (a - 192) v).2.1, 0) := by unfold modelDo; (repeat' split) <;> first | rfl | (simp_all; done) | (exfalso; simp_all; omega)); rw [e]; first | rfl | (simp [Model.r]; done))
 intro h1
 try rw [nnp] at h1
 try have h1' := slave3 h1
 refine Ei rfl (Ei rfl (Ei rfl (Ei rfl (Ea (Er rfl rfl) (Ea (Ee rfl) (Ei rfl (Ei rfl (s_gN rfl (s_gN rfl (s_keepO (is := [1, 2, 3, 4, 5, 10, 13, 30, 32, 33, 34]) rfl (s_gN rfl ?_)))))))))))
 refine s_gN rfl (s_gN rfl (s_gN rfl (Ei rfl (Ea (Er rfl rfl) (Ef (Ed (Eb [1, 2, 3, 4, 5, 10, 13, 40] rfl (Fh rfl (Eg (Eh (Ea (Em rfl rfl rfl) ?_)))))))))))
 refine Ep (Eo rfl rfl rfl rfl rfl rfl rfl) (Ea (Ee rfl) (Ea (Ee rfl) (Ef (Ed (Eb [10, 11, 12] rfl (Ek (Ev ?_)))))))
 · first | (exfalso; simp_all; done) | (refine Ey (.inr rfl) rfl rfl (by simp) ?_; (have e : modelDo m true a z v = (m, 0, 1) := by unfold modelDo; (repeat' split) <;> first | rfl | (simp_all; done) | (exfalso; simp_all; omega)); rw [e]; first | rfl | (simp [Model.r]; done)) | (refine Ey (.inr rfl) rfl rfl (by simp) ?_; (have e : modelDo m true a z v = (⟨(putN m.ram a z v).1, m.dev⟩, v, 0) := by unfold modelDo; (repeat' split) <;> first | rfl | (simp_all; done) | (exfalso; simp_all; omega)); rw [e]; first | rfl | (simp [Model.r]; done)) | (refine Ey (.inr rfl) rfl rfl (by simp) ?_; (have e : modelDo m true a z v = (⟨m.ram, (devDo m.dev true (a - 192) v).1⟩, (devDo m.dev true (a - 192) v).2.1, 0) := by unfold modelDo; (repeat' split) <;> first | rfl | (simp_all; done) | (exfalso; simp_all; omega)); rw [e]; first | rfl | (simp [Model.r]; done))
theorem c_377f (m : Model) (a z v : Int) (hs : m.small) : CV prg 377 [.agg m.r, .w (.bool false), .w (.int .i64 a), .w (.int .i64 z), .w (.int .i64 v)] (fun res => res = .tup [.agg (modelDo m false a z v).1.r, .w (.int .i64 (modelDo m false a z v).2.1), .w (.int .i64 (modelDo m false a z v).2.2)]) := by
 have hs1 := hs.1
 have hs2 := hs.2.1
 have hs3 := hs.2.2
 have hlz := limit_bd z
 refine cv_in g377 (Eb [0, 1, 2, 3, 4] rfl (Eg (Eh (Ea (o_box rfl rfl rfl) (Ea (o_new rfl rfl) (Ea (Ee rfl) (Ea (Ee rfl) (Ef (Ed (Eb [1, 2, 3, 4, 5, 10] rfl (Eg ?_)))))))))))
 refine Eh (Ea (Em rfl rfl rfl) (s_callG [] rfl rfl rfl rfl (by simp) (.inl rfl) (cg_395 m hs) ?_))
 rintro u L1 ⟨rfl, rfl⟩
 refine ⟨_, _, rfl, rfl, ?_⟩
 refine Ea (o_new rfl rfl) (Ep (Eo rfl rfl rfl rfl rfl rfl rfl) (Ef (Ed (Eb [1, 2, 3, 4, 5, 10, 13] rfl (Eg (Eg (Eh (Ea (Em rfl rfl rfl) ?_))))))))
 first | refine Fc rfl rfl (c_203 m hs) ?_ | refine s_callL rfl rfl (by simp) (c_203 m hs) rfl ?_
 refine Ea (o_not rfl) (Ea (Ee rfl) ?_)
 first | refine s_gDF rfl ?_ ?_ | refine s_gNDF rfl ?_ ?_ | refine s_gNF rfl ?_ ?_ | refine s_gB rfl ?_ ?_
 intro h1
 try rw [nnp] at h1
 try have h1' := slave3 h1
 refine Ea (Ee rfl) (Ez rfl (Ea (Ee rfl) (Ez rfl (Fc rfl rfl (c_172 _ _) (Ez rfl (Ea (o_not rfl) (Ea (Ej rfl rfl) (Ea (Ee rfl) ?_))))))))
 first | refine s_gDF rfl ?_ ?_ | refine s_gNDF rfl ?_ ?_ | refine s_gNF rfl ?_ ?_ | refine s_gB rfl ?_ ?_
 intro h2
 try rw [nnp] at h2
 try have h2' := slave3 h2
 refine Ea (Ee rfl) (Ez rfl (Ea (Ee rfl) (Ei rfl (Ei rfl (s_keepO (is := [1, 2, 3, 4, 5, 10, 13, 30, 32, 33, 34]) rfl (Ei rfl (Ei rfl (Ei rfl (Ei rfl (Ez rfl (Ea (Ej rfl rfl) ?_)))))))))))
 refine Ea (Ej rfl rfl) (Ef (Ed (Eb [1, 2, 3, 4, 5, 10, 13, 40] rfl (Fe rfl (Fb (Ed (Eb [1, 2, 3, 4, 5, 10, 13] rfl (Eg (Eg (Eh (Ea (Ee rfl) ?_)))))))))))
 refine Fc rfl rfl (c_396 _) (Ef (Ed (Eb [1, 2, 3, 4, 5, 10, 13, 43] rfl (S_block (Eg (Eg (Eh (Ea (o_eql rfl rfl) (Ea (Ee rfl) (Ef (Ed ?_)))))))))))
 refine Eb [1, 2, 3, 4, 5, 10, 13, 43, 44] rfl ?_
 first | refine Eu rfl ?_ ?_ | refine Et rfl ?_ ?_
 intro h3
 try rw [nnp] at h3
 try have h3' := slave3 h3
 refine Fb (Ed (Eb [1, 2, 3, 4, 5, 10, 13, 43, 44] rfl ?_))
 first | refine Eu rfl ?_ ?_ | refine Et rfl ?_ ?_
 intro h4
 try rw [nnp] at h4
 try have h4' := slave3 h4
 refine Eg (Eg (Eh (Ea (Ee rfl) (Ef (Ed (Eb [2, 3, 4, 5, 10, 13, 47] rfl (Fe rfl (Fb (Ed (Eb [2, 3, 5, 10, 13] rfl (Eg ?_)))))))))))
 refine Eh (Ea (Ew rfl) (Ea (Fd rfl rfl rfl) (Ea (Ee rfl) (Ea (Ee rfl) ?_))))
 first | refine Fc rfl rfl (c_398 m.ram a z hs.1) ?_ | refine s_callL rfl rfl (by simp) (c_398 m.ram a z hs.1) rfl ?_
 refine Ea (Ee rfl) (Ea (o_ext rfl rfl) (Ea (o_ext rfl rfl) (Ea (Ee rfl) (Ea (Ee rfl) (Ef (Ed (Eb [10, 13, 14] rfl (Eg (Eh (Ea (Em rfl rfl rfl) (Ea (Ee rfl) ?_)))))))))))
 refine Ep (Eo rfl rfl rfl rfl rfl rfl rfl) (Ea (Ee rfl) (Ea (Ee rfl) (Ef (Ed (Eb [10, 11, 12] rfl (Ek (Ff (Ev ?_))))))))
 · first | (exfalso; simp_all; done) | (refine Ey (.inr rfl) rfl rfl (by simp) ?_; (have e : modelDo m false a z v = (m, 0, 1) := by unfold modelDo; (repeat' split) <;> first | rfl | (simp_all; done) | (exfalso; simp_all; omega)); rw [e]; first | rfl | (simp [Model.r]; done)) | (refine Ey (.inr rfl) rfl rfl (by simp) ?_; (have e : modelDo m false a z v = (m, (getN m.ram a z).1, 0) := by unfold modelDo; (repeat' split) <;> first | rfl | (simp_all; done) | (exfalso; simp_all; omega)); rw [e]; first | rfl | (simp [Model.r]; done)) | (refine Ey (.inr rfl) rfl rfl (by simp) ?_; (have e : modelDo m false a z v = (⟨m.ram, (devDo m.dev false (a - 192) v).1⟩, (devDo m.dev false (a - 192) v).2.1, 0) := by unfold modelDo; (repeat' split) <;> first | rfl | (simp_all; done) | (exfalso; simp_all; omega)); rw [e]; first | rfl | (simp [Model.r]; done))
 intro h4
 try rw [nnp] at h4
 try have h4' := slave3 h4
 refine Eg (Eh (Ea (o_eql rfl rfl) (Ea (Ee rfl) (Ef (Ed (Eb [1, 2, 3, 4, 5, 10, 13, 70] rfl ?_))))))
 first | refine Eu rfl ?_ ?_ | refine Et rfl ?_ ?_
 intro h5
 try rw [nnp] at h5
 try have h5' := slave3 h5
 refine Eg (Eh (Ea (Ew rfl) (Ea (Em rfl rfl rfl) (Ea (Ee rfl) (Ea (Ee rfl) ?_)))))
 first | refine Ea (o_subn rfl rfl (by omega)) ?_ | refine Ea (o_sub rfl rfl) ?_
 refine Ea (Ee rfl) (s_callG [] rfl rfl rfl rfl (by simp) (.inl rfl) (cg_399 m.dev false (a - 192) v hs.2) ?_)
 rintro u L1 ⟨rfl, rfl⟩
 refine ⟨_, _, rfl, rfl, ?_⟩
 refine Ea (Ee rfl) (Ea (o_ext rfl rfl) (Ea (o_ext rfl rfl) (Ea (o_ext rfl rfl) (Ea (o_new rfl rfl) (Ep (Eo rfl rfl rfl rfl rfl rfl rfl) (Ea (Ee rfl) (Ea (Ee rfl) (Ef (Ed (Eb [3, 10, 13, 16, 17, 18] rfl (Eg ?_)))))))))))
 refine Eh (Ea (Ee rfl) (Ea (o_eql rfl rfl) (Ea (Ee rfl) ?_)))
 first | refine s_gDT rfl ?_ ?_ | refine s_gB rfl ?_ ?_
 intro h6
 try rw [nnp] at h6
 try have h6' := slave3 h6
 refine Ea (Ee rfl) (Ea (Er rfl rfl) (Ef (Ed (Eb [10, 13, 16, 17, 87] rfl ?_))))
 first | refine Eu rfl ?_ ?_ | refine s_condN rfl ?_ ?_ | refine s_condNB rfl ?_ ?_ | refine Et rfl ?_ ?_
 intro h7
 try rw [nnp] at h7
 try have h7' := slave3 h7
 refine Eg (Eh (Ea (Em rfl rfl rfl) (Ea (Ew rfl) (Ep (Eo rfl rfl rfl rfl rfl rfl rfl) (Ef (Ed (Eb [10, 13, 17] rfl (Eg (Eh (Ea (Em rfl rfl rfl) (Ea (Ee rfl) ?_)))))))))))
 refine Ep (Eo rfl rfl rfl rfl rfl rfl rfl) (Ea (Ee rfl) (Ea (Ee rfl) (Ef (Ed (Eb [10, 11, 12] rfl (Ek (Ff (Ev ?_))))))))
 · first | (exfalso; simp_all; done) | (refine Ey (.inr rfl) rfl rfl (by simp) ?_; (have e : modelDo m false a z v = (m, 0, 1) := by unfold modelDo; (repeat' split) <;> first | rfl | (simp_all; done) | (exfalso; simp_all; omega)); rw [e]; first | rfl | (simp [Model.r]; done)) | (refine Ey (.inr rfl) rfl rfl (by simp) ?_; (have e : modelDo m false a z v = (m, (getN m.ram a z).1, 0) := by unfold modelDo; (repeat' split) <;> first | rfl | (simp_all; done) | (exfalso; simp_all; omega)); rw [e]; first | rfl | (simp [Model.r]; done)) | (refine Ey (.inr rfl) rfl rfl (by simp) ?_; (have e : modelDo m false a z v = (⟨m.ram, (devDo m.dev false (a - 192) v).1⟩, (devDo m.dev false (a - 192) v).2.1, 0) := by unfold modelDo; (repeat' split) <;> first | rfl | (simp_all; done) | (exfalso; simp_all; omega)); rw [e]; first | rfl | (simp [Model.r]; done))
 intro h7
 try rw [nnp] at h7
 try have h7' := slave3 h7
 refine Fb (Fg (Ed (Eb [10, 13] rfl (Eg (Eh (Ea (Em rfl rfl rfl) (Ep (Eo rfl rfl rfl rfl rfl rfl rfl) (Ea (Ee rfl) (Ea (Ee rfl) (Ef (Ed ?_)))))))))))
 refine Eb [10, 11, 12] rfl (Ek ?_)
 · first | (exfalso; simp_all; done) | (refine Ey (.inr rfl) rfl rfl (by simp) ?_; (have e : modelDo m false a z v = (m, 0, 1) := by unfold modelDo; (repeat' split) <;> first | rfl | (simp_all; done) | (exfalso; simp_all; omega)); rw [e]; first | rfl | (simp [Model.r]; done)) | (refine Ey (.inr rfl) rfl rfl (by simp) ?_; (have e : modelDo m false a z v = (m, (getN m.ram a z).1, 0) := by unfold modelDo; (repeat' split) <;> first | rfl | (simp_all; done) | (exfalso; simp_all; omega)); rw [e]; first | rfl | (simp [Model.r]; done)) | (refine Ey (.inr rfl) rfl rfl (by simp) ?_; (have e : modelDo m false a z v = (⟨m.ram, (devDo m.dev false (a - 192) v).1⟩, (devDo m.dev false (a - 192) v).2.1, 0) := by unfold modelDo; (repeat' split) <;> first | rfl | (simp_all; done) | (exfalso; simp_all; omega)); rw [e]; first | rfl | (simp [Model.r]; done))
 intro h6
 try rw [nnp] at h6
 try have h6' := slave3 h6
 refine Ei rfl (Ea (Ej rfl rfl) (Ef (Ed (Eb [10, 13, 16, 17, 87] rfl (Fe rfl (Fb (Fg (Ed (Eb [10, 13] rfl (Eg (Eh ?_)))))))))))
 refine Ea (Em rfl rfl rfl) (Ep (Eo rfl rfl rfl rfl rfl rfl rfl) (Ea (Ee rfl) (Ea (Ee rfl) (Ef (Ed (Eb [10, 11, 12] rfl (Ek ?_)))))))
 · first | (exfalso; simp_all; done) | (refine Ey (.inr rfl) rfl rfl (by simp) ?_; (have e : modelDo m false a z v = (m, 0, 1) := by unfold modelDo; (repeat' split) <;> first | rfl | (simp_all; done) | (exfalso; simp_all; omega)); rw [e]; first | rfl | (simp [Model.r]; done)) | (refine Ey (.inr rfl) rfl rfl (by simp) ?_; (have e : modelDo m false a z v = (m, (getN m.ram a z).1, 0) := by unfold modelDo; (repeat' split) <;> first | rfl | (simp_all; done) | (exfalso; simp_all; omega)); rw [e]; first | rfl | (simp [Model.r]; done)) | (refine Ey (.inr rfl) rfl rfl (by simp) ?_; (have e : modelDo m false a z v = (⟨m.ram, (devDo m.dev false (a - 192) v).1⟩, (devDo m.dev false (a - 192) v).2.1, 0) := by unfold modelDo; (repeat' split) <;> first | rfl | (simp_all; done) | (exfalso; simp_all; omega)); rw [e]; first | rfl | (simp [Model.r]; done))
 intro h5
 try rw [nnp] at h5
 try have h5' := slave3 h5
 refine Fb (Fg (Ed (Eb [10, 13] rfl (Eg (Eh (Ea (Em rfl rfl rfl) (Ep (Eo rfl rfl rfl rfl rfl rfl rfl) (Ea (Ee rfl) (Ea (Ee rfl) (Ef (Ed ?_)))))))))))
 refine Eb [10, 11, 12] rfl (Ek ?_)
 · first | (exfalso; simp_all; done) | (refine Ey (.inr rfl) rfl rfl (by simp) ?_; (have e : modelDo m false a z v = (m, 0, 1) := by unfold modelDo; (repeat' split) <;> first | rfl | (simp_all; done) | (exfalso; simp_all; omega)); rw [e]; first | rfl | (simp [Model.r]; done)) | (refine Ey (.inr rfl) rfl rfl (by simp) ?_; (have e : modelDo m false a z v = (m, (getN m.ram a z).1, 0) := by unfold modelDo; (repeat' split) <;> first | rfl | (simp_all; done) | (exfalso; simp_all; omega)); rw [e]; first | rfl | (simp [Model.r]; done)) | (refine Ey (.inr rfl) rfl rfl (by simp) ?_; (have e : modelDo m false a z v = (⟨m.ram, (devDo m.dev false (a - 192) v).1⟩, (devDo m.dev false (a - 192) v).2.1, 0) := by unfold modelDo; (repeat' split) <;> first | rfl | (simp_all; done) | (exfalso; simp_all; omega)); rw [e]; first | rfl | (simp [Model.r]; done))
 intro h3
 try rw [nnp] at h3
 try have h3' := slave3 h3
 refine Eh (Ea (o_eql rfl rfl) (Ea (Ee rfl) (Ef (Ed (Eb [1, 2, 3, 4, 5, 10, 13, 43, 44] rfl ?_)))))
 first | refine Eu rfl ?_ ?_ | refine Et rfl ?_ ?_
 intro h8
 try rw [nnp] at h8
 try have h8' := slave3 h8
 refine Eg (Eg (Eh (Ea (Ee rfl) (Ef (Ed (Eb [2, 3, 4, 5, 10, 13, 47] rfl (Fe rfl (Fb (Ed (Eb [2, 3, 5, 10, 13] rfl (Eg ?_)))))))))))
 refine Eh (Ea (Ew rfl) (Ea (Fd rfl rfl rfl) (Ea (Ee rfl) (Ea (Ee rfl) ?_))))
 first | refine Fc rfl rfl (c_398 m.ram a z hs.1) ?_ | refine s_callL rfl rfl (by simp) (c_398 m.ram a z hs.1) rfl ?_
 refine Ea (Ee rfl) (Ea (o_ext rfl rfl) (Ea (o_ext rfl rfl) (Ea (Ee rfl) (Ea (Ee rfl) (Ef (Ed (Eb [10, 13, 14] rfl (Eg (Eh (Ea (Em rfl rfl rfl) (Ea (Ee rfl) ?_)))))))))))
 refine Ep (Eo rfl rfl rfl rfl rfl rfl rfl) (Ea (Ee rfl) (Ea (Ee rfl) (Ef (Ed (Eb [10, 11, 12] rfl (Ek (Ff (Ev ?_))))))))
 · first | (exfalso; simp_all; done) | (refine Ey (.inr rfl) rfl rfl (by simp) ?_; (have e : modelDo m false a z v = (m, 0, 1) := by unfold modelDo; (repeat' split) <;> first | rfl | (simp_all; done) | (exfalso; simp_all; omega)); rw [e]; first | rfl | (simp [Model.r]; done)) | (refine Ey (.inr rfl) rfl rfl (by simp) ?_; (have e : modelDo m false a z v = (m, (getN m.ram a z).1, 0) := by unfold modelDo; (repeat' split) <;> first | rfl | (simp_all; done) | (exfalso; simp_all; omega)); rw [e]; first | rfl | (simp [Model.r]; done)) | (refine Ey (.inr rfl) rfl rfl (by simp) ?_; (have e : modelDo m false a z v = (⟨m.ram, (devDo m.dev false (a - 192) v).1⟩, (devDo m.dev false (a - 192) v).2.1, 0) := by unfold modelDo; (repeat' split) <;> first | rfl | (simp_all; done) | (exfalso; simp_all; omega)); rw [e]; first | rfl | (simp [Model.r]; done))
 intro h8
 try rw [nnp] at h8
 try have h8' := slave3 h8
 refine Eg (Eh (Ea (o_eql rfl rfl) (Ea (Ee rfl) (Ef (Ed (Eb [1, 2, 3, 4, 5, 10, 13, 70] rfl ?_))))))
 first | refine Eu rfl ?_ ?_ | refine Et rfl ?_ ?_
 intro h9
 try rw [nnp] at h9
 try have h9' := slave3 h9
 refine Eg (Eh (Ea (Ew rfl) (Ea (Em rfl rfl rfl) (Ea (Ee rfl) (Ea (Ee rfl) ?_)))))
 first | refine Ea (o_subn rfl rfl (by omega)) ?_ | refine Ea (o_sub rfl rfl) ?_
 refine Ea (Ee rfl) (s_callG [] rfl rfl rfl rfl (by simp) (.inl rfl) (cg_399 m.dev false (a - 192) v hs.2) ?_)
 rintro u L1 ⟨rfl, rfl⟩
 refine ⟨_, _, rfl, rfl, ?_⟩
 refine Ea (Ee rfl) (Ea (o_ext rfl rfl) (Ea (o_ext rfl rfl) (Ea (o_ext rfl rfl) (Ea (o_new rfl rfl) (Ep (Eo rfl rfl rfl rfl rfl rfl rfl) (Ea (Ee rfl) (Ea (Ee rfl) (Ef (Ed (Eb [3, 10, 13, 16, 17, 18] rfl (Eg ?_)))))))))))
 refine Eh (Ea (Ee rfl) (Ea (o_eql rfl rfl) (Ea (Ee rfl) ?_)))
 first | refine s_gDT rfl ?_ ?_ | refine s_gB rfl ?_ ?_
 intro h10
 try rw [nnp] at h10
 try have h10' := slave3 h10
 refine Ea (Ee rfl) (Ea (Er rfl rfl) (Ef (Ed (Eb [10, 13, 16, 17, 87] rfl ?_))))
 first | refine Eu rfl ?_ ?_ | refine s_condN rfl ?_ ?_ | refine s_condNB rfl ?_ ?_ | refine Et rfl ?_ ?_
 intro h11
 try rw [nnp] at h11
 try have h11' := slave3 h11
 refine Eg (Eh (Ea (Em rfl rfl rfl) (Ea (Ew rfl) (Ep (Eo rfl rfl rfl rfl rfl rfl rfl) (Ef (Ed (Eb [10, 13, 17] rfl (Eg (Eh (Ea (Em rfl rfl rfl) (Ea (Ee rfl) ?_)))))))))))
 refine Ep (Eo rfl rfl rfl rfl rfl rfl rfl) (Ea (Ee rfl) (Ea (Ee rfl) (Ef (Ed (Eb [10, 11, 12] rfl (Ek (Ff (Ev ?_))))))))
 · first | (exfalso; simp_all; done) | (refine Ey (.inr rfl) rfl rfl (by simp) ?_; (have e : modelDo m false a z v = (m, 0, 1) := by unfold modelDo; (repeat' split) <;> first | rfl | (simp_all; done) | (exfalso; simp_all; omega)); rw [e]; first | rfl | (simp [Model.r]; done)) | (refine Ey (.inr rfl) rfl rfl (by simp) ?_; (have e : modelDo m false a z v = (m, (getN m.ram a z).1, 0) := by unfold modelDo; (repeat' split) <;> first | rfl | (simp_all; done) | (exfalso; simp_all; omega)); rw [e]; first | rfl | (simp [Model.r]; done)) | (refine Ey (.inr rfl) rfl rfl (by simp) ?_; (have e : modelDo m false a z v = (⟨m.ram, (devDo m.dev false (a - 192) v).1⟩, (devDo m.dev false (a - 192) v).2.1, 0) := by unfold modelDo; (repeat' split) <;> first | rfl | (simp_all; done) | (exfalso; simp_all; omega)); rw [e]; first | rfl | (simp [Model.r]; done))
 intro h11
 try rw [nnp] at h11
 try have h11' := slave3 h11
 refine Fb (Fg (Ed (Eb [10, 13] rfl (Eg (Eh (Ea (Em rfl rfl rfl) (Ep (Eo rfl rfl rfl rfl rfl rfl rfl) (Ea (Ee rfl) (Ea (Ee rfl) (Ef (Ed ?_)))))))))))
 refine Eb [10, 11, 12] rfl (Ek ?_)
 · first | (exfalso; simp_all; done) | (refine Ey (.inr rfl) rfl rfl (by simp) ?_; (have e : modelDo m false a z v = (m, 0, 1) := by unfold modelDo; (repeat' split) <;> first | rfl | (simp_all; done) | (exfalso; simp_all; omega)); rw [e]; first | rfl | (simp [Model.r]; done)) | (refine Ey (.inr rfl) rfl rfl (by simp) ?_; (have e : modelDo m false a z v = (m, (getN m.ram a z).1, 0) := by unfold modelDo; (repeat' split) <;> first | rfl | (simp_all; done) | (exfalso; simp_all; omega)); rw [e]; first | rfl | (simp [Model.r]; done)) | (refine Ey (.inr rfl) rfl rfl (by simp) ?_; (have e : modelDo m false a z v = (⟨m.ram, (devDo m.dev false (a - 192) v).1⟩, (devDo m.dev false (a - 192) v).2.1, 0) := by unfold modelDo; (repeat' split) <;> first | rfl | (simp_all; done) | (exfalso; simp_all; omega)); rw [e]; first | rfl | (simp [Model.r]; done))
 intro h10
 try rw [nnp] at h10
 try have h10' := slave3 h10
 refine Ei rfl (Ea (Ej rfl rfl) (Ef (Ed (Eb [10, 13, 16, 17, 87] rfl (Fe rfl (Fb (Fg (Ed (Eb [10, 13] rfl (Eg (Eh ?_)))))))))))
 refine Ea (Em rfl rfl rfl) (Ep (Eo rfl rfl rfl rfl rfl rfl rfl) (Ea (Ee rfl) (Ea (Ee rfl) (Ef (Ed (Eb [10, 11, 12] rfl (Ek ?_)))))))
 · first | (exfalso; simp_all; done) | (refine Ey (.inr rfl) rfl rfl (by simp) ?_; (have e : modelDo m false a z v = (m, 0, 1) := by unfold modelDo; (repeat' split) <;> first | rfl | (simp_all; done) | (exfalso; simp_all; omega)); rw [e]; first | rfl | (simp [Model.r]; done)) | (refine Ey (.inr rfl) rfl rfl (by simp) ?_; (have e : modelDo m false a z v = (m, (getN m.ram a z).1, 0) := by unfold modelDo; (repeat' split) <;> first | rfl | (simp_all; done) | (exfalso; simp_all; omega)); rw [e]; first | rfl | (simp [Model.r]; done)) | (refine Ey (.inr rfl) rfl rfl (by simp) ?_; (have e : modelDo m false a z v = (⟨m.ram, (devDo m.dev false (a - 192) v).1⟩, (devDo m.dev false (a - 192) v).2.1, 0) := by unfold modelDo; (repeat' split) <;> first | rfl | (simp_all; done) | (exfalso; simp_all; omega)); rw [e]; first | rfl | (simp [Model.r]; done))
 intro h9
 try rw [nnp] at h9
 try have h9' := slave3 h9
 refine Fb (Fg (Ed (Eb [10, 13] rfl (Eg (Eh (Ea (Em rfl rfl rfl) (Ep (Eo rfl rfl rfl rfl rfl rfl rfl) (Ea (Ee rfl) (Ea (Ee rfl) (Ef (Ed ?_)))))))))))
 refine Eb [10, 11, 12] rfl (Ek ?_)
 · first | (exfalso; simp_all; done) | (refine Ey (.inr rfl) rfl rfl (by simp) ?_; (have e : modelDo m false a z v = (m, 0, 1) := by unfold modelDo; (repeat' split) <;> first | rfl | (simp_all; done) | (exfalso; simp_all; omega)); rw [e]; first | rfl | (simp [Model.r]; done)) | (refine Ey (.inr rfl) rfl rfl (by simp) ?_; (have e : modelDo m false a z v = (m, (getN m.ram a z).1, 0) := by unfold modelDo; (repeat' split) <;> first | rfl | (simp_all; done) | (exfalso; simp_all; omega)); rw [e]; first | rfl | (simp [Model.r]; done)) | (refine Ey (.inr rfl) rfl rfl (by simp) ?_; (have e : modelDo m false a z v = (⟨m.ram, (devDo m.dev false (a - 192) v).1⟩, (devDo m.dev false (a - 192) v).2.1, 0) := by unfold modelDo; (repeat' split) <;> first | rfl | (simp_all; done) | (exfalso; simp_all; omega)); rw [e]; first | rfl | (simp [Model.r]; done))
 intro h2
 try rw [nnp] at h2
 try have h2' := slave3 h2
 refine Ei rfl (Ei rfl (s_gN rfl (s_gN rfl (s_keepO (is := [1, 2, 3, 4, 5, 10, 13, 30, 32, 33, 34]) rfl (s_gN rfl (s_gN rfl (s_gN rfl (s_gN rfl (Ei rfl (Ea (Er rfl rfl) (Ef ?_)))))))))))
 refine Ed (Eb [1, 2, 3, 4, 5, 10, 13, 40] rfl (Fh rfl (Eg (Eh (Ea (Em rfl rfl rfl) (Ep (Eo rfl rfl rfl rfl rfl rfl rfl) (Ea (Ee rfl) (Ea (Ee rfl) (Ef (Ed (Eb [10, 11, 12] rfl ?_)))))))))))
 refine Ek (Ev ?_)
 · first | (exfalso; simp_all; done) | (refine Ey (.inr rfl) rfl rfl (by simp) ?_; (have e : modelDo m false a z v = (m, 0, 1) := by unfold modelDo; (repeat' split) <;> first | rfl | (simp_all; done) | (exfalso; simp_all; omega)); rw [e]; first | rfl | (simp [Model.r]; done)) | (refine Ey (.inr rfl) rfl rfl (by simp) ?_; (have e : modelDo m false a z v = (m, (getN m.ram a z).1, 0) := by unfold modelDo; (repeat' split) <;> first | rfl | (simp_all; done) | (exfalso; simp_all; omega)); rw [e]; first | rfl | (simp [Model.r]; done)) | (refine Ey (.inr rfl) rfl rfl (by simp) ?_; (have e : modelDo m false a z v = (⟨m.ram, (devDo m.dev false (a - 192) v).1⟩, (devDo m.dev false (a - 192) v).2.1, 0) := by unfold modelDo; (repeat' split) <;> first | rfl | (simp_all; done) | (exfalso; simp_all; omega)); rw [e]; first | rfl | (simp [Model.r]; done))
 intro h1
 try rw [nnp] at h1
 try have h1' := slave3 h1
 refine Ei rfl (Ei rfl (Ei rfl (Ei rfl (Ea (Er rfl rfl) (Ea (Ee rfl) (Ei rfl (Ei rfl (s_gN rfl (s_gN rfl (s_keepO (is := [1, 2, 3, 4, 5, 10, 13, 30, 32, 33, 34]) rfl (s_gN rfl ?_)))))))))))
 refine s_gN rfl (s_gN rfl (s_gN rfl (Ei rfl (Ea (Er rfl rfl) (Ef (Ed (Eb [1, 2, 3, 4, 5, 10, 13, 40] rfl (Fh rfl (Eg (Eh (Ea (Em rfl rfl rfl) ?_)))))))))))
 refine Ep (Eo rfl rfl rfl rfl rfl rfl rfl) (Ea (Ee rfl) (Ea (Ee rfl) (Ef (Ed (Eb [10, 11, 12] rfl (Ek (Ev ?_)))))))
 · first | (exfalso; simp_all; done) | (refine Ey (.inr rfl) rfl rfl (by simp) ?_; (have e : modelDo m false a z v = (m, 0, 1) := by unfold modelDo; (repeat' split) <;> first | rfl | (simp_all; done) | (exfalso; simp_all; omega)); rw [e]; first | rfl | (simp [Model.r]; done)) | (refine Ey (.inr rfl) rfl rfl (by simp) ?_; (have e : modelDo m false a z v = (m, (getN m.ram a z).1, 0) := by unfold modelDo; (repeat' split) <;> first | rfl | (simp_all; done) | (exfalso; simp_all; omega)); rw [e]; first | rfl | (simp [Model.r]; done)) | (refine Ey (.inr rfl) rfl rfl (by simp) ?_; (have e : modelDo m false a z v = (⟨m.ram, (devDo m.dev false (a - 192) v).1⟩, (devDo m.dev false (a - 192) v).2.1, 0) := by unfold modelDo; (repeat' split) <;> first | rfl | (simp_all; done) | (exfalso; simp_all; omega)); rw [e]; first | rfl | (simp [Model.r]; done))
theorem c_377 (m : Model) (w : Bool) (a z v : Int) (hs : m.small) : CV prg 377 [.agg m.r, .w (.bool w), .w (.int .i64 a), .w (.int .i64 z), .w (.int .i64 v)] (fun res => res = .tup [.agg (modelDo m w a z v).1.r, .w (.int .i64 (modelDo m w a z v).2.1), .w (.int .i64 (modelDo m w a z v).2.2)]) := by
 cases w
 · exact c_377f m a z v hs
 · exact c_377t m a z v hs
end Go.Proofs.Ytdialnejieoelaa.AL
