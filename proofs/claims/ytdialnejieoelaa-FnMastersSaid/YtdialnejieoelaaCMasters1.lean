/- What functions do with plain data, each by the form of its code. Printed by program. -/
import Derived.Test.YtdialnejieoelaaCMasters0
namespace Go.Proofs.Ytdialnejieoelaa.AL
open Go
set_option linter.unusedVariables false
set_option linter.unusedSimpArgs false
set_option maxRecDepth 4096
theorem cg_99 (m : Mst) (hs : m.small) : GV prg 99 [] [.agg m.r] (fun u L1 => u = .agg [.ls 0 m.queue.length, .w (.int .i64 m.beat), .w (.int .i64 m.done), .w (.int .i64 m.tries), .w (.bool m.parted), .w (.bool m.broken)] ∧ L1 = [.arr 6 (m.queue.map Req.r)]) := by
 have hq := hs.1
 have hqs := hs.2
 refine gv_in g99 (Eb [0] rfl (Ee (Eh (Ea (o_box rfl rfl rfl) (Ea (o_new rfl rfl) (Ed (Ec (Eb [1, 2] rfl (Ee (Eh (Ea (o_bs rfl rfl rfl rfl) ?_)))))))))))
 refine Ea (Ef rfl) (Ed (Ec (Eb [1, 2, 3] rfl (Ee (Ee (Eh (Ea (Ek rfl) (Ea (Ep rfl rfl rfl) ?_))))))))
 first | refine Ea (o_lenM rfl) ?_ | refine Ea (o_len rfl) ?_ | refine Ea (o_lenL rfl rfl rfl) ?_ | refine Ea (o_lenN rfl) ?_
 refine Ea (Ef rfl) (Ed (Ec (Eb [1, 2, 3, 8, 9, 10] rfl (S_block (S_loop (ι := Nat) (fun i => i ≤ m.queue.length) (fun i => [(10, .w (.int .i64 (i : Int))), (3, .ls 2 ((m.queue.take i).map Req.r).length)]) (fun i => [.cell m.r, .cell [.w (.slice none 0 0), .w (.int .i64 0), .w (.int .i64 0), .w (.int .i64 0), .w (.bool false), .w (.bool false)], .arr 6 ((m.queue.take i).map Req.r)]) (fun i => m.queue.length - i) 3 0 (by simp) rfl (hasOf ⟨rfl, rfl, trivial⟩ rfl) rfl (fun _ _ => rfl) (fun _ _ => ⟨rfl, rfl⟩) ?_)))))
 intro i hi
 have hml : (m.queue.take i).length ≤ i := by rw [List.length_take]; omega
 refine Eb [1, 2, 3, 8, 9, 10] rfl (Ee (Eh (Ea (o_lss rfl rfl) (Ed (Ec (Eb [1, 2, 3, 8, 9, 10, 11] rfl (Ee ?_)))))))
 first | refine Et rfl ?_ ?_ | refine Er rfl ?_ ?_
 intro h1
 try rw [nnp] at h1
 refine Fd (Ec (Eb [1, 2, 3, 8, 9, 10] rfl (Ee (S_block (Ee (Eh (s_iaM rfl rfl (by omega) ?_)))))))
 intro y2 e2
 try simp only [Int.toNat_natCast, Int.toNat_zero] at e2
 refine Ea (o_ldn rfl rfl) (Ea (o_new rfl rfl) (Ez (Fc rfl rfl rfl rfl rfl rfl rfl) (Ed (Ec (Eb [1, 2, 3, 5, 8, 9, 10] rfl (Eh (Ea (Ef rfl) (Ea (Ev rfl rfl rfl) ?_))))))))
 first | refine Ew rfl rfl (c_100 _ (hqs _ (List.mem_of_getElem? (by assumption)))) ?_ | refine Fb rfl rfl (by simp) (c_100 _ (hqs _ (List.mem_of_getElem? (by assumption)))) rfl ?_
 refine Ea (o_bs rfl rfl rfl rfl) ?_
 first | refine Ea (o_appL rfl rfl rfl rfl rfl rfl rfl (by simp [roomy]; omega)) ?_ | refine Ea (o_app rfl rfl rfl rfl rfl (by simp [roomy]; omega)) ?_
 refine Ea (Ef rfl) (Ed (q_blkN (Ec (Eb [1, 2, 3, 8, 9, 10] rfl (Eh ?_)))))
 first | refine Ea (o_addn rfl rfl (by omega)) ?_ | refine Ea (o_add rfl rfl) ?_
 refine Ea (Ef rfl) (Ed (q_loopN ?_))
 · refine ⟨i + 1, by omega, by omega, hasOf ⟨rfl, ?_, trivial⟩ ?_⟩ <;> rw [take_snoc _ (by assumption)] <;> rfl
 intro h1
 try rw [nnp] at h1
 refine s_exit (q_seqX (q_loopX (q_blkH (Ec (Eb [1, 2, 3] rfl (Ee (Eh (Ea (Ef rfl) (Ea (Ek rfl) (Ez (o_stC rfl rfl rfl rfl rfl rfl) (Ed ?_)))))))))))
 refine Ec (Eb [1, 2] rfl (Ee (Eh (Ea (Ev rfl rfl rfl) (Ez (Fc rfl rfl rfl rfl rfl rfl rfl) (Ed (Ec (Eb [2] rfl (En ?_)))))))))
 · refine Fa [2] (.inr rfl) rfl rfl rfl rfl (show (List.range 0 ++ [2]).Nodup by decide) ?_
   rw [take_all (show m.queue.length ≤ i by omega)]; exact ⟨by simp, rfl⟩
theorem cg_373 (m : Mst) (hs : m.small) : GV prg 373 [] [.agg m.r] (fun u L1 => u = .agg [.ls 0 m.queue.length, .w (.int .i64 m.beat), .w (.int .i64 m.done), .w (.int .i64 m.tries), .w (.bool m.parted), .w (.bool m.broken)] ∧ L1 = [.arr 6 (m.queue.map Req.r)]) := by
 have hq := hs.1
 have hqs := hs.2
 refine gv_in g373 (Eb [0] rfl (Ee (Eh (Ea (o_box rfl rfl rfl) (Ea (o_new rfl rfl) (Ed (Ec (Eb [1, 2] rfl (Ee (Eh (Ea (o_bs rfl rfl rfl rfl) ?_)))))))))))
 refine Ea (Ef rfl) (Ed (Ec (Eb [1, 2, 3] rfl (Ee (Ee (Eh (Ea (Ef rfl) (Ed (Ec (Eb [1, 2, 3, 4] rfl (S_block ?_)))))))))))
 refine S_loop (ι := Nat) (fun i => i ≤ m.queue.length) (fun i => [(4, .w (.int .i64 (i : Int))), (3, .ls 2 ((m.queue.take i).map Req.r).length)]) (fun i => [.cell m.r, .cell [.w (.slice none 0 0), .w (.int .i64 0), .w (.int .i64 0), .w (.int .i64 0), .w (.bool false), .w (.bool false)], .arr 6 ((m.queue.take i).map Req.r)]) (fun i => m.queue.length - i) 3 0 (by simp) rfl (hasOf ⟨rfl, rfl, trivial⟩ rfl) rfl (fun _ _ => rfl) (fun _ _ => ⟨rfl, rfl⟩) ?_
 intro i hi
 have hml : (m.queue.take i).length ≤ i := by rw [List.length_take]; omega
 refine Eb [1, 2, 3, 4] rfl (Ee (Ee (Eh (Ea (Ef rfl) (Ea (Ek rfl) (Ea (Ep rfl rfl rfl) ?_))))))
 first | refine Ea (o_lenM rfl) ?_ | refine Ea (o_len rfl) ?_ | refine Ea (o_lenL rfl rfl rfl) ?_ | refine Ea (o_lenN rfl) ?_
 refine Ea (o_lss rfl rfl) (Ed (Ec (Eb [1, 2, 3, 4, 10] rfl ?_)))
 first | refine Et rfl ?_ ?_ | refine Er rfl ?_ ?_
 intro h1
 try rw [nnp] at h1
 refine Fd (Ec (Eb [1, 2, 3, 4] rfl (Ee (S_block (Eh (Ea (Ef rfl) (Ea (Ek rfl) (Ea (Ep rfl rfl rfl) (Ea (Ef rfl) (s_iaM rfl rfl (by omega) ?_))))))))))
 intro y2 e2
 try simp only [Int.toNat_natCast, Int.toNat_zero] at e2
 refine Ea (o_ldn rfl rfl) ?_
 first | refine Ew rfl rfl (c_374 _ (hqs _ (List.mem_of_getElem? (by assumption)))) ?_ | refine Fb rfl rfl (by simp) (c_374 _ (hqs _ (List.mem_of_getElem? (by assumption)))) rfl ?_
 refine Ea (o_bs rfl rfl rfl rfl) ?_
 first | refine Ea (o_appL rfl rfl rfl rfl rfl rfl rfl (by simp [roomy]; omega)) ?_ | refine Ea (o_app rfl rfl rfl rfl rfl (by simp [roomy]; omega)) ?_
 refine Ea (Ef rfl) (Ed (q_blkN (Ec (Eb [1, 2, 3, 4] rfl (Eh (Ea (Ef rfl) ?_))))))
 first | refine Ea (o_addn rfl rfl (by omega)) ?_ | refine Ea (o_add rfl rfl) ?_
 refine Ea (Ef rfl) (Ed (q_loopN ?_))
 · refine ⟨i + 1, by omega, by omega, hasOf ⟨rfl, ?_, trivial⟩ ?_⟩ <;> rw [take_snoc _ (by assumption)] <;> rfl
 intro h1
 try rw [nnp] at h1
 refine s_exit (q_seqX (q_loopX (q_blkH (Ec (Eb [1, 2, 3] rfl (Ee (Eh (Ea (Ef rfl) (Ea (Ek rfl) (Ez (o_stC rfl rfl rfl rfl rfl rfl) (Ed ?_)))))))))))
 refine Ec (Eb [1, 2] rfl (Ee (Eh (Ea (Ev rfl rfl rfl) (Ez (Fc rfl rfl rfl rfl rfl rfl rfl) (Ed (Ec (Eb [2] rfl (En ?_)))))))))
 · refine Fa [2] (.inr rfl) rfl rfl rfl rfl (show (List.range 0 ++ [2]).Nodup by decide) ?_
   rw [take_all (show m.queue.length ≤ i by omega)]; exact ⟨by simp, rfl⟩
def Mst.issueC (m : Mst) : Bool := m.right && decide (m.beat < m.beats) && decide (m.beat ≠ m.done + 2)
def Mst.issue (m : Mst) : Mst × Bool := if m.issueC then (⟨m.queue, m.beat + 1, m.done, m.tries, m.parted, m.broken⟩, true) else (m, false)
def Mst.backC (m : Mst) : Bool := m.right && decide (m.beat ≠ m.done)
def Mst.back (m : Mst) : Mst × Bool := if m.backC then (⟨m.queue, m.beat - 1, m.done, m.tries, m.parted, m.broken⟩, true) else (m, false)
theorem m_issue_no {m : Mst} (h : m.issueC = false) : m.issue = (m, false) := by unfold Mst.issue; rw [h]; rfl
theorem m_issue_yes {m : Mst} (h : m.issueC = true) : m.issue = (⟨m.queue, m.beat + 1, m.done, m.tries, m.parted, m.broken⟩, true) := by unfold Mst.issue; rw [h]; rfl
theorem m_back_no {m : Mst} (h : m.backC = false) : m.back = (m, false) := by unfold Mst.back; rw [h]; rfl
theorem m_back_yes {m : Mst} (h : m.backC = true) : m.back = (⟨m.queue, m.beat - 1, m.done, m.tries, m.parted, m.broken⟩, true) := by unfold Mst.back; rw [h]; rfl
theorem right_bd {m : Mst} (h : m.right = true) : 0 ≤ m.done ∧ m.done ≤ 8 ∧ 0 ≤ m.beat ∧ m.beat ≤ 8 ∧ m.done ≤ m.beat := by
 have hb := m.beats_bd
 simp only [Mst.right, Bool.and_eq_true] at h
 have h2 := h.2
 split at h2
 · simp only [Bool.and_eq_true, decide_eq_true_eq] at h2
   omega
 · simp only [Bool.and_eq_true] at h2
   have h3 := inB_t h2.1
   have h4 := inB_t h2.2
   omega
theorem wants_bd {m : Mst} (h : (m.right && decide (m.beat < m.beats)) = true) : m.right = true ∧ 0 ≤ m.done ∧ m.done ≤ 8 ∧ 0 ≤ m.beat ∧ m.beat ≤ 8 ∧ m.done ≤ m.beat := by
 rw [Bool.and_eq_true] at h
 exact ⟨h.1, right_bd h.1⟩
theorem c_57 (m : Mst) (hs : m.small) : CV prg 57 [.agg m.r] (fun res => res = .tup [.agg m.issue.1.r, .w (.bool m.issue.2)]) := by
 have hq := hs.1
 refine cv_in g57 (Eb [0] rfl (Ee (Eh (Ea (o_box rfl rfl rfl) (Ea (o_new rfl rfl) (Ea (Ef rfl) (Ed (Ec (Eb [1, 2] rfl (Ee (Eh ?_)))))))))))
 refine Ea (Ev rfl rfl rfl) (Fe [] rfl rfl rfl rfl (by simp) (.inl rfl) (cg_99 _ hs) ?_)
 rintro u L1 ⟨rfl, rfl⟩
 refine ⟨_, _, rfl, rfl, ?_⟩
 refine Ea (o_new rfl rfl) (Ez (Fc rfl rfl rfl rfl rfl rfl rfl) (Ed (Ec (Eb [1, 2, 4] rfl (Ee (Ee (Eh (Ea (Ev rfl rfl rfl) ?_))))))))
 first | refine Ew rfl rfl (c_59 _ (by assumption)) ?_ | refine Fb rfl rfl (by simp) (c_59 _ (by assumption)) rfl ?_
 refine Ea (o_not rfl) (Ea (Ef rfl) ?_)
 first | refine s_gDF rfl ?_ ?_ | refine s_gNDF rfl ?_ ?_ | refine s_gNF rfl ?_ ?_ | refine s_gB rfl ?_ ?_
 intro h1
 try rw [nnp] at h1
 try have h1' := right_bd h1
 try have h1' := wants_bd h1
 refine Ea (Ek rfl) (Eo rfl (Ea (Ep rfl rfl rfl) (Eo rfl (Ea (Ek rfl) (Eo rfl (Ea (Ep rfl rfl rfl) (Eo rfl ?_)))))))
 first | refine Ea (o_addn rfl rfl (by omega)) ?_ | refine Ea (o_add rfl rfl) ?_
 refine Eo rfl (Ea (o_eql rfl rfl) (Ea (Em rfl rfl) (Ed (Ec (Eb [2, 4, 17] rfl ?_)))))
 first | refine Et rfl ?_ ?_ | refine Er rfl ?_ ?_
 intro h2
 try rw [nnp] at h2
 try have h2' := right_bd h2
 try have h2' := wants_bd h2
 refine Ee (Eh (Ea (Ev rfl rfl rfl) (Ez (Fc rfl rfl rfl rfl rfl rfl rfl) (Ea (Ef rfl) (Ed (Ec (Eb [2, 3] rfl (En (Ey ?_)))))))))
 · refine ret_leafA (.inr rfl) rfl rfl (by simp) ?_
   first | (refine (Eq.trans (congrArg (fun p : Mst × Bool => V.tup [.agg p.1.r, .w (.bool p.2)]) (m_issue_no (m := m) ?_)) rfl).symm; clear hs; unfold Mst.issueC; clear hq; generalize m.right = r at *; generalize m.beats = n at *; generalize m.beat = b at *; generalize m.done = d at *; first | (simp_all; done) | (simp_all; omega) | (simp_all; intros; omega) | (cases r <;> simp_all <;> intros <;> omega)) | (refine (Eq.trans (congrArg (fun p : Mst × Bool => V.tup [.agg p.1.r, .w (.bool p.2)]) (m_issue_yes (m := m) ?_)) rfl).symm; clear hs; unfold Mst.issueC; clear hq; generalize m.right = r at *; generalize m.beats = n at *; generalize m.beat = b at *; generalize m.done = d at *; first | (simp_all; done) | (simp_all; omega) | (simp_all; intros; omega) | (cases r <;> simp_all <;> intros <;> omega))
 intro h2
 try rw [nnp] at h2
 try have h2' := right_bd h2
 try have h2' := wants_bd h2
 refine Fd (Ec (Eb [2, 4] rfl (Ee (Eh (Ea (Ek rfl) (Ea (Ep rfl rfl rfl) ?_))))))
 first | refine Ea (o_addn rfl rfl (by omega)) ?_ | refine Ea (o_add rfl rfl) ?_
 refine Ea (Ek rfl) (Ez (o_stC rfl rfl rfl rfl rfl rfl) (Ed (Ec (Eb [2, 4] rfl (Ee (Eh (Ea (Ev rfl rfl rfl) (Ez (Fc rfl rfl rfl rfl rfl rfl rfl) (Ea (Ef rfl) (Ed (Ec ?_)))))))))))
 refine Eb [2, 3] rfl (En ?_)
 · refine ret_leafA (.inr rfl) rfl rfl (by simp) ?_
   first | (refine (Eq.trans (congrArg (fun p : Mst × Bool => V.tup [.agg p.1.r, .w (.bool p.2)]) (m_issue_no (m := m) ?_)) rfl).symm; clear hs; unfold Mst.issueC; clear hq; generalize m.right = r at *; generalize m.beats = n at *; generalize m.beat = b at *; generalize m.done = d at *; first | (simp_all; done) | (simp_all; omega) | (simp_all; intros; omega) | (cases r <;> simp_all <;> intros <;> omega)) | (refine (Eq.trans (congrArg (fun p : Mst × Bool => V.tup [.agg p.1.r, .w (.bool p.2)]) (m_issue_yes (m := m) ?_)) rfl).symm; clear hs; unfold Mst.issueC; clear hq; generalize m.right = r at *; generalize m.beats = n at *; generalize m.beat = b at *; generalize m.done = d at *; first | (simp_all; done) | (simp_all; omega) | (simp_all; intros; omega) | (cases r <;> simp_all <;> intros <;> omega))
 intro h1
 try rw [nnp] at h1
 try have h1' := right_bd h1
 try have h1' := wants_bd h1
 iterate 6 refine Eg rfl ?_
 refine Ea (Eu rfl rfl) (Ed (Ec (Eb [2, 4, 17] rfl (s_condT rfl (Ee (Eh (Ea (Ev rfl rfl rfl) (Ez (Fc rfl rfl rfl rfl rfl rfl rfl) (Ea (Ef rfl) (Ed (Ec ?_)))))))))))
 refine Eb [2, 3] rfl (En (Ey ?_))
 · refine ret_leafA (.inr rfl) rfl rfl (by simp) ?_
   first | (refine (Eq.trans (congrArg (fun p : Mst × Bool => V.tup [.agg p.1.r, .w (.bool p.2)]) (m_issue_no (m := m) ?_)) rfl).symm; clear hs; unfold Mst.issueC; clear hq; generalize m.right = r at *; generalize m.beats = n at *; generalize m.beat = b at *; generalize m.done = d at *; first | (simp_all; done) | (simp_all; omega) | (simp_all; intros; omega) | (cases r <;> simp_all <;> intros <;> omega)) | (refine (Eq.trans (congrArg (fun p : Mst × Bool => V.tup [.agg p.1.r, .w (.bool p.2)]) (m_issue_yes (m := m) ?_)) rfl).symm; clear hs; unfold Mst.issueC; clear hq; generalize m.right = r at *; generalize m.beats = n at *; generalize m.beat = b at *; generalize m.done = d at *; first | (simp_all; done) | (simp_all; omega) | (simp_all; intros; omega) | (cases r <;> simp_all <;> intros <;> omega))
theorem c_355 (m : Mst) (hs : m.small) : CV prg 355 [.agg m.r] (fun res => res = .tup [.agg m.issue.1.r, .w (.bool m.issue.2)]) := by
 have hq := hs.1
 refine cv_in g355 (Eb [0] rfl (Ee (Eh (Ea (o_box rfl rfl rfl) (Ea (o_new rfl rfl) (Ea (Ef rfl) (Ed (Ec (Eb [1, 2] rfl (Ee (Eh ?_)))))))))))
 refine Ea (Ev rfl rfl rfl) (Fe [] rfl rfl rfl rfl (by simp) (.inl rfl) (cg_373 _ hs) ?_)
 rintro u L1 ⟨rfl, rfl⟩
 refine ⟨_, _, rfl, rfl, ?_⟩
 refine Ea (o_new rfl rfl) (Ez (Fc rfl rfl rfl rfl rfl rfl rfl) (Ed (Ec (Eb [1, 2, 4] rfl (Ee (Ee (Eh (Ea (Ev rfl rfl rfl) ?_))))))))
 first | refine Ew rfl rfl (c_326 _ (by assumption)) ?_ | refine Fb rfl rfl (by simp) (c_326 _ (by assumption)) rfl ?_
 refine Ea (o_not rfl) (Ea (Ef rfl) ?_)
 first | refine s_gDF rfl ?_ ?_ | refine s_gNDF rfl ?_ ?_ | refine s_gNF rfl ?_ ?_ | refine s_gB rfl ?_ ?_
 intro h1
 try rw [nnp] at h1
 try have h1' := right_bd h1
 try have h1' := wants_bd h1
 refine Ea (Ek rfl) (Eo rfl (Ea (Ep rfl rfl rfl) (Eo rfl (Ea (Ek rfl) (Eo rfl (Ea (Ep rfl rfl rfl) (Eo rfl ?_)))))))
 first | refine Ea (o_addn rfl rfl (by omega)) ?_ | refine Ea (o_add rfl rfl) ?_
 refine Eo rfl (Ea (o_eql rfl rfl) (Ea (Em rfl rfl) (Ed (Ec (Eb [2, 4, 17] rfl ?_)))))
 first | refine Et rfl ?_ ?_ | refine Er rfl ?_ ?_
 intro h2
 try rw [nnp] at h2
 try have h2' := right_bd h2
 try have h2' := wants_bd h2
 refine Ee (Eh (Ea (Ev rfl rfl rfl) (Ez (Fc rfl rfl rfl rfl rfl rfl rfl) (Ea (Ef rfl) (Ed (Ec (Eb [2, 3] rfl (En (Ey ?_)))))))))
 · refine ret_leafA (.inr rfl) rfl rfl (by simp) ?_
   first | (refine (Eq.trans (congrArg (fun p : Mst × Bool => V.tup [.agg p.1.r, .w (.bool p.2)]) (m_issue_no (m := m) ?_)) rfl).symm; clear hs; unfold Mst.issueC; clear hq; generalize m.right = r at *; generalize m.beats = n at *; generalize m.beat = b at *; generalize m.done = d at *; first | (simp_all; done) | (simp_all; omega) | (simp_all; intros; omega) | (cases r <;> simp_all <;> intros <;> omega)) | (refine (Eq.trans (congrArg (fun p : Mst × Bool => V.tup [.agg p.1.r, .w (.bool p.2)]) (m_issue_yes (m := m) ?_)) rfl).symm; clear hs; unfold Mst.issueC; clear hq; generalize m.right = r at *; generalize m.beats = n at *; generalize m.beat = b at *; generalize m.done = d at *; first | (simp_all; done) | (simp_all; omega) | (simp_all; intros; omega) | (cases r <;> simp_all <;> intros <;> omega))
 intro h2
 try rw [nnp] at h2
 try have h2' := right_bd h2
 try have h2' := wants_bd h2
 refine Fd (Ec (Eb [2, 4] rfl (Ee (Eh (Ea (Ek rfl) (Ea (Ep rfl rfl rfl) ?_))))))
 first | refine Ea (o_addn rfl rfl (by omega)) ?_ | refine Ea (o_add rfl rfl) ?_
 refine Ea (Ek rfl) (Ez (o_stC rfl rfl rfl rfl rfl rfl) (Ed (Ec (Eb [2, 4] rfl (Ee (Eh (Ea (Ev rfl rfl rfl) (Ez (Fc rfl rfl rfl rfl rfl rfl rfl) (Ea (Ef rfl) (Ed (Ec ?_)))))))))))
 refine Eb [2, 3] rfl (En ?_)
 · refine ret_leafA (.inr rfl) rfl rfl (by simp) ?_
   first | (refine (Eq.trans (congrArg (fun p : Mst × Bool => V.tup [.agg p.1.r, .w (.bool p.2)]) (m_issue_no (m := m) ?_)) rfl).symm; clear hs; unfold Mst.issueC; clear hq; generalize m.right = r at *; generalize m.beats = n at *; generalize m.beat = b at *; generalize m.done = d at *; first | (simp_all; done) | (simp_all; omega) | (simp_all; intros; omega) | (cases r <;> simp_all <;> intros <;> omega)) | (refine (Eq.trans (congrArg (fun p : Mst × Bool => V.tup [.agg p.1.r, .w (.bool p.2)]) (m_issue_yes (m := m) ?_)) rfl).symm; clear hs; unfold Mst.issueC; clear hq; generalize m.right = r at *; generalize m.beats = n at *; generalize m.beat = b at *; generalize m.done = d at *; first | (simp_all; done) | (simp_all; omega) | (simp_all; intros; omega) | (cases r <;> simp_all <;> intros <;> omega))
 intro h1
 try rw [nnp] at h1
 try have h1' := right_bd h1
 try have h1' := wants_bd h1
 iterate 6 refine Eg rfl ?_
 refine Ea (Eu rfl rfl) (Ed (Ec (Eb [2, 4, 17] rfl (s_condT rfl (Ee (Eh (Ea (Ev rfl rfl rfl) (Ez (Fc rfl rfl rfl rfl rfl rfl rfl) (Ea (Ef rfl) (Ed (Ec ?_)))))))))))
 refine Eb [2, 3] rfl (En (Ey ?_))
 · refine ret_leafA (.inr rfl) rfl rfl (by simp) ?_
   first | (refine (Eq.trans (congrArg (fun p : Mst × Bool => V.tup [.agg p.1.r, .w (.bool p.2)]) (m_issue_no (m := m) ?_)) rfl).symm; clear hs; unfold Mst.issueC; clear hq; generalize m.right = r at *; generalize m.beats = n at *; generalize m.beat = b at *; generalize m.done = d at *; first | (simp_all; done) | (simp_all; omega) | (simp_all; intros; omega) | (cases r <;> simp_all <;> intros <;> omega)) | (refine (Eq.trans (congrArg (fun p : Mst × Bool => V.tup [.agg p.1.r, .w (.bool p.2)]) (m_issue_yes (m := m) ?_)) rfl).symm; clear hs; unfold Mst.issueC; clear hq; generalize m.right = r at *; generalize m.beats = n at *; generalize m.beat = b at *; generalize m.done = d at *; first | (simp_all; done) | (simp_all; omega) | (simp_all; intros; omega) | (cases r <;> simp_all <;> intros <;> omega))
theorem c_55 (m : Mst) (hs : m.small) : CV prg 55 [.agg m.r] (fun res => res = .tup [.agg m.back.1.r, .w (.bool m.back.2)]) := by
 have hq := hs.1
 refine cv_in g55 (Eb [0] rfl (Ee (Eh (Ea (o_box rfl rfl rfl) (Ea (o_new rfl rfl) (Ea (Ef rfl) (Ed (Ec (Eb [1, 2] rfl (Ee (Eh ?_)))))))))))
 refine Ea (Ev rfl rfl rfl) (Fe [] rfl rfl rfl rfl (by simp) (.inl rfl) (cg_99 _ hs) ?_)
 rintro u L1 ⟨rfl, rfl⟩
 refine ⟨_, _, rfl, rfl, ?_⟩
 refine Ea (o_new rfl rfl) (Ez (Fc rfl rfl rfl rfl rfl rfl rfl) (Ed (Ec (Eb [1, 2, 4] rfl (Ee (Ee (Eh (Ea (Ev rfl rfl rfl) ?_))))))))
 first | refine Ew rfl rfl (c_88 _ (by assumption)) ?_ | refine Fb rfl rfl (by simp) (c_88 _ (by assumption)) rfl ?_
 refine Ea (o_not rfl) (Ea (Ef rfl) ?_)
 first | refine s_gDF rfl ?_ ?_ | refine s_gNDF rfl ?_ ?_ | refine s_gNF rfl ?_ ?_ | refine s_gB rfl ?_ ?_
 intro h1
 try rw [nnp] at h1
 try have h1' := right_bd h1
 try have h1' := wants_bd h1
 refine Ea (Ek rfl) (Eo rfl (Ea (Ep rfl rfl rfl) (Eo rfl (Ea (Ek rfl) (Eo rfl (Ea (Ep rfl rfl rfl) (Eo rfl (Ea (o_eql rfl rfl) (Ea (Em rfl rfl) (Ed (Ec ?_)))))))))))
 refine Eb [2, 4, 16] rfl ?_
 first | refine Et rfl ?_ ?_ | refine Er rfl ?_ ?_
 intro h2
 try rw [nnp] at h2
 try have h2' := right_bd h2
 try have h2' := wants_bd h2
 refine Ee (Eh (Ea (Ev rfl rfl rfl) (Ez (Fc rfl rfl rfl rfl rfl rfl rfl) (Ea (Ef rfl) (Ed (Ec (Eb [2, 3] rfl (En (Ey ?_)))))))))
 · refine ret_leafA (.inr rfl) rfl rfl (by simp) ?_
   first | (refine (Eq.trans (congrArg (fun p : Mst × Bool => V.tup [.agg p.1.r, .w (.bool p.2)]) (m_back_no (m := m) ?_)) rfl).symm; clear hs; unfold Mst.backC; clear hq; generalize m.right = r at *; generalize m.beats = n at *; generalize m.beat = b at *; generalize m.done = d at *; first | (simp_all; done) | (simp_all; omega) | (simp_all; intros; omega) | (cases r <;> simp_all <;> intros <;> omega)) | (refine (Eq.trans (congrArg (fun p : Mst × Bool => V.tup [.agg p.1.r, .w (.bool p.2)]) (m_back_yes (m := m) ?_)) rfl).symm; clear hs; unfold Mst.backC; clear hq; generalize m.right = r at *; generalize m.beats = n at *; generalize m.beat = b at *; generalize m.done = d at *; first | (simp_all; done) | (simp_all; omega) | (simp_all; intros; omega) | (cases r <;> simp_all <;> intros <;> omega))
 intro h2
 try rw [nnp] at h2
 try have h2' := right_bd h2
 try have h2' := wants_bd h2
 refine Fd (Ec (Eb [2, 4] rfl (Ee (Eh (Ea (Ek rfl) (Ea (Ep rfl rfl rfl) ?_))))))
 first | refine Ea (o_subn rfl rfl (by omega)) ?_ | refine Ea (o_sub rfl rfl) ?_
 refine Ea (Ek rfl) (Ez (o_stC rfl rfl rfl rfl rfl rfl) (Ed (Ec (Eb [2, 4] rfl (Ee (Eh (Ea (Ev rfl rfl rfl) (Ez (Fc rfl rfl rfl rfl rfl rfl rfl) (Ea (Ef rfl) (Ed (Ec ?_)))))))))))
 refine Eb [2, 3] rfl (En ?_)
 · refine ret_leafA (.inr rfl) rfl rfl (by simp) ?_
   first | (refine (Eq.trans (congrArg (fun p : Mst × Bool => V.tup [.agg p.1.r, .w (.bool p.2)]) (m_back_no (m := m) ?_)) rfl).symm; clear hs; unfold Mst.backC; clear hq; generalize m.right = r at *; generalize m.beats = n at *; generalize m.beat = b at *; generalize m.done = d at *; first | (simp_all; done) | (simp_all; omega) | (simp_all; intros; omega) | (cases r <;> simp_all <;> intros <;> omega)) | (refine (Eq.trans (congrArg (fun p : Mst × Bool => V.tup [.agg p.1.r, .w (.bool p.2)]) (m_back_yes (m := m) ?_)) rfl).symm; clear hs; unfold Mst.backC; clear hq; generalize m.right = r at *; generalize m.beats = n at *; generalize m.beat = b at *; generalize m.done = d at *; first | (simp_all; done) | (simp_all; omega) | (simp_all; intros; omega) | (cases r <;> simp_all <;> intros <;> omega))
 intro h1
 try rw [nnp] at h1
 try have h1' := right_bd h1
 try have h1' := wants_bd h1
 refine Eg rfl (Eg rfl (Eg rfl (Eg rfl (Eg rfl (Ea (Eu rfl rfl) (Ed (Ec (Eb [2, 4, 16] rfl (s_condT rfl (Ee (Eh ?_)))))))))))
 refine Ea (Ev rfl rfl rfl) (Ez (Fc rfl rfl rfl rfl rfl rfl rfl) (Ea (Ef rfl) (Ed (Ec (Eb [2, 3] rfl (En (Ey ?_)))))))
 · refine ret_leafA (.inr rfl) rfl rfl (by simp) ?_
   first | (refine (Eq.trans (congrArg (fun p : Mst × Bool => V.tup [.agg p.1.r, .w (.bool p.2)]) (m_back_no (m := m) ?_)) rfl).symm; clear hs; unfold Mst.backC; clear hq; generalize m.right = r at *; generalize m.beats = n at *; generalize m.beat = b at *; generalize m.done = d at *; first | (simp_all; done) | (simp_all; omega) | (simp_all; intros; omega) | (cases r <;> simp_all <;> intros <;> omega)) | (refine (Eq.trans (congrArg (fun p : Mst × Bool => V.tup [.agg p.1.r, .w (.bool p.2)]) (m_back_yes (m := m) ?_)) rfl).symm; clear hs; unfold Mst.backC; clear hq; generalize m.right = r at *; generalize m.beats = n at *; generalize m.beat = b at *; generalize m.done = d at *; first | (simp_all; done) | (simp_all; omega) | (simp_all; intros; omega) | (cases r <;> simp_all <;> intros <;> omega))
def Mst.finC (m : Mst) : Bool := m.right && decide (m.beat ≠ m.done)
def Mst.fin (m : Mst) : Mst × Bool := if m.finC then (if m.done + 1 = m.beats then (⟨m.queue.drop 1, 0, 0, 0, false, false⟩, true) else (⟨m.queue, m.beat, m.done + 1, 0, false, m.broken⟩, true)) else (m, false)
theorem m_fin_no {m : Mst} (h : m.finC = false) : m.fin = (m, false) := by unfold Mst.fin; rw [h]; rfl
theorem m_fin_last {m : Mst} (h : m.finC = true ∧ m.done + 1 = m.beats) : m.fin = (⟨m.queue.drop 1, 0, 0, 0, false, false⟩, true) := by unfold Mst.fin; rw [h.1, if_pos rfl, if_pos h.2]
theorem m_fin_yes {m : Mst} (h : m.finC = true ∧ ¬ m.done + 1 = m.beats) : m.fin = (⟨m.queue, m.beat, m.done + 1, 0, false, m.broken⟩, true) := by unfold Mst.fin; rw [h.1, if_pos rfl, if_neg h.2]
theorem Ej {α : Type} (r : α → List V) (xs : List α) : (xs.map r).take xs.length = xs.map r := List.take_of_length_le (by simp)
theorem c_18b (m : Mst) (d : Int) : CV prg 18 [.rp (Mst.r ⟨m.queue, m.beat, d, m.tries, m.parted, m.broken⟩) 0] (fun v => v = .w (.int .i64 m.beats)) := c_18 ⟨m.queue, m.beat, d, m.tries, m.parted, m.broken⟩
theorem right_q {m : Mst} (h : m.right = true) (hne : ¬ m.beat = m.done) : 1 ≤ m.queue.length := by
 simp only [Mst.right, Bool.and_eq_true] at h
 have h2 := h.2
 split at h2
 · simp only [Bool.and_eq_true, decide_eq_true_eq] at h2
   omega
 · omega
def Mst.postC (m : Mst) (x : Req) : Bool := m.right && x.ok && decide (¬ (m.queue.length : Int) = 4)
def Mst.post (m : Mst) (x : Req) : Mst × Bool := if m.postC x then (⟨m.queue ++ [x], m.beat, m.done, m.tries, m.parted, m.broken⟩, true) else (m, false)
theorem m_post_no {m : Mst} {x : Req} (h : m.postC x = false) : m.post x = (m, false) := by unfold Mst.post; rw [h]; rfl
theorem m_post_yes {m : Mst} {x : Req} (h : m.postC x = true) : m.post x = (⟨m.queue ++ [x], m.beat, m.done, m.tries, m.parted, m.broken⟩, true) := by unfold Mst.post; rw [h]; rfl
theorem c_56 (m : Mst) (hs : m.small) : CV prg 56 [.agg m.r] (fun res => res = .tup [.agg m.fin.1.r, .w (.bool m.fin.2)]) := by
 have hq := hs.1
 refine cv_in g56 (Eb [0] rfl (Ee (Eh (Ea (o_box rfl rfl rfl) (Ea (o_new rfl rfl) (Ea (Ef rfl) (Ed (Ec (Eb [1, 2] rfl (Ee (Eh ?_)))))))))))
 refine Ea (Ev rfl rfl rfl) (Fe [] rfl rfl rfl rfl (by simp) (.inl rfl) (cg_99 _ hs) ?_)
 rintro u L1 ⟨rfl, rfl⟩
 refine ⟨_, _, rfl, rfl, ?_⟩
 refine Ea (o_new rfl rfl) (Ez (Fc rfl rfl rfl rfl rfl rfl rfl) (Ed (Ec (Eb [1, 2, 4] rfl (Ee (Ee (Eh (Ea (Ev rfl rfl rfl) ?_))))))))
 first | refine Ew rfl rfl (c_88 _ hs) ?_ | refine Fb rfl rfl (by simp) (c_88 _ hs) rfl ?_
 refine Ea (o_not rfl) (Ea (Ef rfl) ?_)
 first | refine s_gDF rfl ?_ ?_ | refine s_gNDF rfl ?_ ?_ | refine s_gNF rfl ?_ ?_ | refine s_gB rfl ?_ ?_
 intro h1
 try rw [nnp] at h1
 try have h1' := right_bd h1
 try have h1' := wants_bd h1
 try have h1' := right_q (by assumption) h1
 refine Ea (Ek rfl) (Eo rfl (Ea (Ep rfl rfl rfl) (Eo rfl (Ea (Ek rfl) (Eo rfl (Ea (Ep rfl rfl rfl) (Eo rfl (Ea (o_eql rfl rfl) (Ea (Em rfl rfl) (Ed (Ec ?_)))))))))))
 refine Eb [2, 4, 16] rfl ?_
 first | refine Et rfl ?_ ?_ | refine Er rfl ?_ ?_
 intro h2
 try rw [nnp] at h2
 try have h2' := right_bd h2
 try have h2' := wants_bd h2
 try have h2' := right_q (by assumption) h2
 refine Ee (Eh (Ea (Ev rfl rfl rfl) (Ez (Fc rfl rfl rfl rfl rfl rfl rfl) (Ea (Ef rfl) (Ed (Ec (Eb [2, 3] rfl (En (Ey ?_)))))))))
 · refine ret_leafA (.inr rfl) rfl rfl (by simp) ?_
   first | (refine (Eq.trans (congrArg (fun p : Mst × Bool => V.tup [.agg p.1.r, .w (.bool p.2)]) (m_fin_no (m := m) ?_)) rfl).symm; clear hs; unfold Mst.finC; clear hq; generalize m.right = r at *; generalize m.beats = n at *; generalize m.beat = b at *; generalize m.done = d at *; first | (simp_all; done) | (simp_all; omega) | (cases r <;> simp_all <;> intros <;> omega)) | (refine (Eq.trans (congrArg (fun p : Mst × Bool => V.tup [.agg p.1.r, .w (.bool p.2)]) (m_fin_yes (m := m) ?_)) rfl).symm; clear hs; unfold Mst.finC; clear hq; generalize m.right = r at *; generalize m.beats = n at *; generalize m.beat = b at *; generalize m.done = d at *; first | (simp_all; done) | (simp_all; omega) | (cases r <;> simp_all <;> intros <;> omega)) | (refine (Eq.trans (congrArg (fun p : Mst × Bool => V.tup [.agg p.1.r, .w (.bool p.2)]) (m_fin_last (m := m) ?_)) (by simp [Mst.r, List.map_drop, Ej])).symm; clear hs; unfold Mst.finC; clear hq; generalize m.right = r at *; generalize m.beats = n at *; generalize m.beat = b at *; generalize m.done = d at *; first | (simp_all; done) | (simp_all; omega) | (cases r <;> simp_all <;> intros <;> omega))
 intro h2
 try rw [nnp] at h2
 try have h2' := right_bd h2
 try have h2' := wants_bd h2
 try have h2' := right_q (by assumption) h2
 refine Fd (Ec (Eb [2, 4] rfl (Ee (Eh (Ea (Ek rfl) (Ea (Ep rfl rfl rfl) ?_))))))
 first | refine Ea (o_addn rfl rfl (by omega)) ?_ | refine Ea (o_add rfl rfl) ?_
 refine Ea (Ek rfl) (Ez (o_stC rfl rfl rfl rfl rfl rfl) (Ed (Ec (Eb [2, 4] rfl (Ee (Ee (Eh (Ea (Ek rfl) (Ea (Ep rfl rfl rfl) (Fb rfl rfl (by simp) (c_18b m (m.done + 1)) rfl (Ea (o_eql rfl rfl) ?_)))))))))))
 refine Ed (Ec (Eb [2, 4, 25] rfl ?_))
 first | refine Et rfl ?_ ?_ | refine Er rfl ?_ ?_
 intro h3
 try rw [nnp] at h3
 try have h3' := right_bd h3
 try have h3' := wants_bd h3
 try have h3' := right_q (by assumption) h3
 refine Ee (Eh (Ea (Ek rfl) (Ea (Ep rfl rfl rfl) (s_cut rfl rfl (by simp) rfl rfl (by simp; omega) rfl rfl (Ea (o_bd rfl rfl) (Ez (Fc rfl rfl rfl rfl rfl rfl rfl) (Ea (Ef rfl) (Ed (Ec (Eb [2, 3] rfl (En ?_)))))))))))
 refine Ey ?_
 · refine ret_leafA (.inr rfl) rfl rfl (by simp) ?_
   first | (refine (Eq.trans (congrArg (fun p : Mst × Bool => V.tup [.agg p.1.r, .w (.bool p.2)]) (m_fin_no (m := m) ?_)) rfl).symm; clear hs; unfold Mst.finC; clear hq; generalize m.right = r at *; generalize m.beats = n at *; generalize m.beat = b at *; generalize m.done = d at *; first | (simp_all; done) | (simp_all; omega) | (cases r <;> simp_all <;> intros <;> omega)) | (refine (Eq.trans (congrArg (fun p : Mst × Bool => V.tup [.agg p.1.r, .w (.bool p.2)]) (m_fin_yes (m := m) ?_)) rfl).symm; clear hs; unfold Mst.finC; clear hq; generalize m.right = r at *; generalize m.beats = n at *; generalize m.beat = b at *; generalize m.done = d at *; first | (simp_all; done) | (simp_all; omega) | (cases r <;> simp_all <;> intros <;> omega)) | (refine (Eq.trans (congrArg (fun p : Mst × Bool => V.tup [.agg p.1.r, .w (.bool p.2)]) (m_fin_last (m := m) ?_)) (by simp [Mst.r, List.map_drop, Ej])).symm; clear hs; unfold Mst.finC; clear hq; generalize m.right = r at *; generalize m.beats = n at *; generalize m.beat = b at *; generalize m.done = d at *; first | (simp_all; done) | (simp_all; omega) | (cases r <;> simp_all <;> intros <;> omega))
 intro h3
 try rw [nnp] at h3
 try have h3' := right_bd h3
 try have h3' := wants_bd h3
 try have h3' := right_q (by assumption) h3
 refine Fd (Ec (Eb [2, 4] rfl (Ee (Eh (Ea (Ek rfl) (Ez (o_stC rfl rfl rfl rfl rfl rfl) (Ed (Ec (Eb [2, 4] rfl (Ee (Eh ?_)))))))))))
 refine Ea (Ek rfl) (Ez (o_stC rfl rfl rfl rfl rfl rfl) (Ed (Ec (Eb [2, 4] rfl (Ee (Eh (Ea (Ev rfl rfl rfl) (Ez (Fc rfl rfl rfl rfl rfl rfl rfl) (Ea (Ef rfl) (Ed (Ec ?_)))))))))))
 refine Eb [2, 3] rfl (En ?_)
 · refine ret_leafA (.inr rfl) rfl rfl (by simp) ?_
   first | (refine (Eq.trans (congrArg (fun p : Mst × Bool => V.tup [.agg p.1.r, .w (.bool p.2)]) (m_fin_no (m := m) ?_)) rfl).symm; clear hs; unfold Mst.finC; clear hq; generalize m.right = r at *; generalize m.beats = n at *; generalize m.beat = b at *; generalize m.done = d at *; first | (simp_all; done) | (simp_all; omega) | (cases r <;> simp_all <;> intros <;> omega)) | (refine (Eq.trans (congrArg (fun p : Mst × Bool => V.tup [.agg p.1.r, .w (.bool p.2)]) (m_fin_yes (m := m) ?_)) rfl).symm; clear hs; unfold Mst.finC; clear hq; generalize m.right = r at *; generalize m.beats = n at *; generalize m.beat = b at *; generalize m.done = d at *; first | (simp_all; done) | (simp_all; omega) | (cases r <;> simp_all <;> intros <;> omega)) | (refine (Eq.trans (congrArg (fun p : Mst × Bool => V.tup [.agg p.1.r, .w (.bool p.2)]) (m_fin_last (m := m) ?_)) (by simp [Mst.r, List.map_drop, Ej])).symm; clear hs; unfold Mst.finC; clear hq; generalize m.right = r at *; generalize m.beats = n at *; generalize m.beat = b at *; generalize m.done = d at *; first | (simp_all; done) | (simp_all; omega) | (cases r <;> simp_all <;> intros <;> omega))
 intro h1
 try rw [nnp] at h1
 try have h1' := right_bd h1
 try have h1' := wants_bd h1
 try have h1' := right_q (by assumption) h1
 refine Eg rfl (Eg rfl (Eg rfl (Eg rfl (Eg rfl (Ea (Eu rfl rfl) (Ed (Ec (Eb [2, 4, 16] rfl (s_condT rfl (Ee (Eh ?_)))))))))))
 refine Ea (Ev rfl rfl rfl) (Ez (Fc rfl rfl rfl rfl rfl rfl rfl) (Ea (Ef rfl) (Ed (Ec (Eb [2, 3] rfl (En (Ey ?_)))))))
 · refine ret_leafA (.inr rfl) rfl rfl (by simp) ?_
   first | (refine (Eq.trans (congrArg (fun p : Mst × Bool => V.tup [.agg p.1.r, .w (.bool p.2)]) (m_fin_no (m := m) ?_)) rfl).symm; clear hs; unfold Mst.finC; clear hq; generalize m.right = r at *; generalize m.beats = n at *; generalize m.beat = b at *; generalize m.done = d at *; first | (simp_all; done) | (simp_all; omega) | (cases r <;> simp_all <;> intros <;> omega)) | (refine (Eq.trans (congrArg (fun p : Mst × Bool => V.tup [.agg p.1.r, .w (.bool p.2)]) (m_fin_yes (m := m) ?_)) rfl).symm; clear hs; unfold Mst.finC; clear hq; generalize m.right = r at *; generalize m.beats = n at *; generalize m.beat = b at *; generalize m.done = d at *; first | (simp_all; done) | (simp_all; omega) | (cases r <;> simp_all <;> intros <;> omega)) | (refine (Eq.trans (congrArg (fun p : Mst × Bool => V.tup [.agg p.1.r, .w (.bool p.2)]) (m_fin_last (m := m) ?_)) (by simp [Mst.r, List.map_drop, Ej])).symm; clear hs; unfold Mst.finC; clear hq; generalize m.right = r at *; generalize m.beats = n at *; generalize m.beat = b at *; generalize m.done = d at *; first | (simp_all; done) | (simp_all; omega) | (cases r <;> simp_all <;> intros <;> omega))
theorem c_356 (m : Mst) (hs : m.small) : CV prg 356 [.agg m.r] (fun res => res = .tup [.agg m.fin.1.r, .w (.bool m.fin.2)]) := by
 have hq := hs.1
 refine cv_in g356 (Eb [0] rfl (Ee (Eh (Ea (o_box rfl rfl rfl) (Ea (o_new rfl rfl) (Ea (Ef rfl) (Ed (Ec (Eb [1, 2] rfl (Ee (Eh ?_)))))))))))
 refine Ea (Ev rfl rfl rfl) (Fe [] rfl rfl rfl rfl (by simp) (.inl rfl) (cg_373 _ hs) ?_)
 rintro u L1 ⟨rfl, rfl⟩
 refine ⟨_, _, rfl, rfl, ?_⟩
 refine Ea (o_new rfl rfl) (Ez (Fc rfl rfl rfl rfl rfl rfl rfl) (Ed (Ec (Eb [1, 2, 4] rfl (Ee (Ee (Eh (Ea (Ev rfl rfl rfl) ?_))))))))
 first | refine Ew rfl rfl (c_221 _ (by assumption)) ?_ | refine Fb rfl rfl (by simp) (c_221 _ (by assumption)) rfl ?_
 refine Ea (o_not rfl) (Ea (Ef rfl) ?_)
 first | refine s_gDF rfl ?_ ?_ | refine s_gNDF rfl ?_ ?_ | refine s_gNF rfl ?_ ?_ | refine s_gB rfl ?_ ?_
 intro h1
 try rw [nnp] at h1
 try have h1' := right_bd h1
 try have h1' := wants_bd h1
 try have h1' := right_q (by assumption) h1
 refine Ea (Ek rfl) (Eo rfl (Ea (Ep rfl rfl rfl) (Eo rfl (Ea (Ek rfl) (Eo rfl (Ea (Ep rfl rfl rfl) (Eo rfl (Ea (o_eql rfl rfl) (Ea (Em rfl rfl) (Ed (Ec ?_)))))))))))
 refine Eb [1, 2, 4, 16] rfl ?_
 first | refine Et rfl ?_ ?_ | refine Er rfl ?_ ?_
 intro h2
 try rw [nnp] at h2
 try have h2' := right_bd h2
 try have h2' := wants_bd h2
 try have h2' := right_q (by assumption) h2
 refine Ee (Eh (Ea (Ev rfl rfl rfl) (Ez (Fc rfl rfl rfl rfl rfl rfl rfl) (Ea (Ef rfl) (Ed (Ec (Eb [2, 3] rfl (En (Ey ?_)))))))))
 · refine ret_leafA (.inr rfl) rfl rfl (by simp) ?_
   first | (refine (Eq.trans (congrArg (fun p : Mst × Bool => V.tup [.agg p.1.r, .w (.bool p.2)]) (m_fin_no (m := m) ?_)) rfl).symm; clear hs; unfold Mst.finC; clear hq; generalize m.right = r at *; generalize m.beats = n at *; generalize m.beat = b at *; generalize m.done = d at *; first | (simp_all; done) | (simp_all; omega) | (cases r <;> simp_all <;> intros <;> omega)) | (refine (Eq.trans (congrArg (fun p : Mst × Bool => V.tup [.agg p.1.r, .w (.bool p.2)]) (m_fin_yes (m := m) ?_)) rfl).symm; clear hs; unfold Mst.finC; clear hq; generalize m.right = r at *; generalize m.beats = n at *; generalize m.beat = b at *; generalize m.done = d at *; first | (simp_all; done) | (simp_all; omega) | (cases r <;> simp_all <;> intros <;> omega)) | (refine (Eq.trans (congrArg (fun p : Mst × Bool => V.tup [.agg p.1.r, .w (.bool p.2)]) (m_fin_last (m := m) ?_)) (by simp [Mst.r, List.map_drop, Ej])).symm; clear hs; unfold Mst.finC; clear hq; generalize m.right = r at *; generalize m.beats = n at *; generalize m.beat = b at *; generalize m.done = d at *; first | (simp_all; done) | (simp_all; omega) | (cases r <;> simp_all <;> intros <;> omega))
 intro h2
 try rw [nnp] at h2
 try have h2' := right_bd h2
 try have h2' := wants_bd h2
 try have h2' := right_q (by assumption) h2
 refine Fd (Ec (Eb [1, 2, 4] rfl (Ee (Eh (Ea (Ek rfl) (Ea (Ep rfl rfl rfl) ?_))))))
 first | refine Ea (o_addn rfl rfl (by omega)) ?_ | refine Ea (o_add rfl rfl) ?_
 refine Ea (Ek rfl) (Ez (o_stC rfl rfl rfl rfl rfl rfl) (Ed (Ec (Eb [1, 2, 4] rfl (Ee (Eh (Ea (Ek rfl) (Ez (o_stC rfl rfl rfl rfl rfl rfl) (Ed (Ec (Eb [1, 2, 4] rfl ?_)))))))))))
 refine Ee (Eh (Ea (Ek rfl) (Ez (o_stC rfl rfl rfl rfl rfl rfl) (Ed (Ec (Eb [1, 2, 4] rfl (Ee (Ee (Eh (Ea (Ek rfl) (Ea (Ep rfl rfl rfl) ?_)))))))))))
 refine Ea (Ev rfl rfl rfl) ?_
 first | refine Ew rfl rfl (c_220 _) ?_ | refine Fb rfl rfl (by simp) (c_220 _) rfl ?_
 refine Ea (o_eql rfl rfl) (Ed (Ec (Eb [2, 4, 28] rfl ?_)))
 first | refine Et rfl ?_ ?_ | refine Er rfl ?_ ?_
 intro h3
 try rw [nnp] at h3
 try have h3' := right_bd h3
 try have h3' := wants_bd h3
 try have h3' := right_q (by assumption) h3
 refine Ee (Eh (Ea (Ek rfl) (Ea (Ep rfl rfl rfl) (s_cut rfl rfl (by simp) rfl rfl (by simp; omega) rfl rfl (Ea (o_bd rfl rfl) (Ez (Fc rfl rfl rfl rfl rfl rfl rfl) (Ea (Ef rfl) (Ed (Ec (Eb [2, 3] rfl (En ?_)))))))))))
 refine Ey ?_
 · refine ret_leafA (.inr rfl) rfl rfl (by simp) ?_
   first | (refine (Eq.trans (congrArg (fun p : Mst × Bool => V.tup [.agg p.1.r, .w (.bool p.2)]) (m_fin_no (m := m) ?_)) rfl).symm; clear hs; unfold Mst.finC; clear hq; generalize m.right = r at *; generalize m.beats = n at *; generalize m.beat = b at *; generalize m.done = d at *; first | (simp_all; done) | (simp_all; omega) | (cases r <;> simp_all <;> intros <;> omega)) | (refine (Eq.trans (congrArg (fun p : Mst × Bool => V.tup [.agg p.1.r, .w (.bool p.2)]) (m_fin_yes (m := m) ?_)) rfl).symm; clear hs; unfold Mst.finC; clear hq; generalize m.right = r at *; generalize m.beats = n at *; generalize m.beat = b at *; generalize m.done = d at *; first | (simp_all; done) | (simp_all; omega) | (cases r <;> simp_all <;> intros <;> omega)) | (refine (Eq.trans (congrArg (fun p : Mst × Bool => V.tup [.agg p.1.r, .w (.bool p.2)]) (m_fin_last (m := m) ?_)) (by simp [Mst.r, List.map_drop, Ej])).symm; clear hs; unfold Mst.finC; clear hq; generalize m.right = r at *; generalize m.beats = n at *; generalize m.beat = b at *; generalize m.done = d at *; first | (simp_all; done) | (simp_all; omega) | (cases r <;> simp_all <;> intros <;> omega))
 intro h3
 try rw [nnp] at h3
 try have h3' := right_bd h3
 try have h3' := wants_bd h3
 try have h3' := right_q (by assumption) h3
 refine Fd (Ec (Eb [2, 4] rfl (Ee (Eh (Ea (Ev rfl rfl rfl) (Ez (Fc rfl rfl rfl rfl rfl rfl rfl) (Ea (Ef rfl) (Ed (Ec (Eb [2, 3] rfl (En ?_)))))))))))
 · refine ret_leafA (.inr rfl) rfl rfl (by simp) ?_
   first | (refine (Eq.trans (congrArg (fun p : Mst × Bool => V.tup [.agg p.1.r, .w (.bool p.2)]) (m_fin_no (m := m) ?_)) rfl).symm; clear hs; unfold Mst.finC; clear hq; generalize m.right = r at *; generalize m.beats = n at *; generalize m.beat = b at *; generalize m.done = d at *; first | (simp_all; done) | (simp_all; omega) | (cases r <;> simp_all <;> intros <;> omega)) | (refine (Eq.trans (congrArg (fun p : Mst × Bool => V.tup [.agg p.1.r, .w (.bool p.2)]) (m_fin_yes (m := m) ?_)) rfl).symm; clear hs; unfold Mst.finC; clear hq; generalize m.right = r at *; generalize m.beats = n at *; generalize m.beat = b at *; generalize m.done = d at *; first | (simp_all; done) | (simp_all; omega) | (cases r <;> simp_all <;> intros <;> omega)) | (refine (Eq.trans (congrArg (fun p : Mst × Bool => V.tup [.agg p.1.r, .w (.bool p.2)]) (m_fin_last (m := m) ?_)) (by simp [Mst.r, List.map_drop, Ej])).symm; clear hs; unfold Mst.finC; clear hq; generalize m.right = r at *; generalize m.beats = n at *; generalize m.beat = b at *; generalize m.done = d at *; first | (simp_all; done) | (simp_all; omega) | (cases r <;> simp_all <;> intros <;> omega))
 intro h1
 try rw [nnp] at h1
 try have h1' := right_bd h1
 try have h1' := wants_bd h1
 try have h1' := right_q (by assumption) h1
 refine Eg rfl (Eg rfl (Eg rfl (Eg rfl (Eg rfl (Ea (Eu rfl rfl) (Ed (Ec (Eb [1, 2, 4, 16] rfl (s_condT rfl (Ee (Eh ?_)))))))))))
 refine Ea (Ev rfl rfl rfl) (Ez (Fc rfl rfl rfl rfl rfl rfl rfl) (Ea (Ef rfl) (Ed (Ec (Eb [2, 3] rfl (En (Ey ?_)))))))
 · refine ret_leafA (.inr rfl) rfl rfl (by simp) ?_
   first | (refine (Eq.trans (congrArg (fun p : Mst × Bool => V.tup [.agg p.1.r, .w (.bool p.2)]) (m_fin_no (m := m) ?_)) rfl).symm; clear hs; unfold Mst.finC; clear hq; generalize m.right = r at *; generalize m.beats = n at *; generalize m.beat = b at *; generalize m.done = d at *; first | (simp_all; done) | (simp_all; omega) | (cases r <;> simp_all <;> intros <;> omega)) | (refine (Eq.trans (congrArg (fun p : Mst × Bool => V.tup [.agg p.1.r, .w (.bool p.2)]) (m_fin_yes (m := m) ?_)) rfl).symm; clear hs; unfold Mst.finC; clear hq; generalize m.right = r at *; generalize m.beats = n at *; generalize m.beat = b at *; generalize m.done = d at *; first | (simp_all; done) | (simp_all; omega) | (cases r <;> simp_all <;> intros <;> omega)) | (refine (Eq.trans (congrArg (fun p : Mst × Bool => V.tup [.agg p.1.r, .w (.bool p.2)]) (m_fin_last (m := m) ?_)) (by simp [Mst.r, List.map_drop, Ej])).symm; clear hs; unfold Mst.finC; clear hq; generalize m.right = r at *; generalize m.beats = n at *; generalize m.beat = b at *; generalize m.done = d at *; first | (simp_all; done) | (simp_all; omega) | (cases r <;> simp_all <;> intros <;> omega))
theorem cg_355 (m : Mst) (hs : m.small) : GV prg 355 [] [.agg m.r] (fun u L1 => u = .tup [.agg [.ls 0 (m.issue).1.queue.length, .w (.int .i64 (m.issue).1.beat), .w (.int .i64 (m.issue).1.done), .w (.int .i64 (m.issue).1.tries), .w (.bool (m.issue).1.parted), .w (.bool (m.issue).1.broken)], .w (.bool (m.issue).2)] ∧ L1 = [.arr 6 ((m.issue).1.queue.map Req.r)]) := by
 have hq := hs.1
 refine gv_in g355 (Eb [0] rfl (Ee (Eh (Ea (o_box rfl rfl rfl) (Ea (o_new rfl rfl) (Ea (Ef rfl) (Ed (Ec (Eb [1, 2] rfl (Ee (Eh ?_)))))))))))
 refine Ea (Ev rfl rfl rfl) (Fe [] rfl rfl rfl rfl (by simp) (.inl rfl) (cg_373 _ hs) ?_)
 rintro u L1 ⟨rfl, rfl⟩
 refine ⟨_, _, rfl, rfl, ?_⟩
 refine Ea (o_new rfl rfl) (Ez (Fc rfl rfl rfl rfl rfl rfl rfl) (Ed (Ec (Eb [1, 2, 4] rfl (Ee (Ee (Eh (Ea (Ev rfl rfl rfl) ?_))))))))
 first | refine Ew rfl rfl (c_326 _ (by assumption)) ?_ | refine Fb rfl rfl (by simp) (c_326 _ (by assumption)) rfl ?_
 refine Ea (o_not rfl) (Ea (Ef rfl) ?_)
 first | refine s_gDF rfl ?_ ?_ | refine s_gNDF rfl ?_ ?_ | refine s_gNF rfl ?_ ?_ | refine s_gB rfl ?_ ?_
 intro h1
 try rw [nnp] at h1
 try have h1' := right_bd h1
 try have h1' := wants_bd h1
 refine Ea (Ek rfl) (Eo rfl (Ea (Ep rfl rfl rfl) (Eo rfl (Ea (Ek rfl) (Eo rfl (Ea (Ep rfl rfl rfl) (Eo rfl ?_)))))))
 first | refine Ea (o_addn rfl rfl (by omega)) ?_ | refine Ea (o_add rfl rfl) ?_
 refine Eo rfl (Ea (o_eql rfl rfl) (Ea (Em rfl rfl) (Ed (Ec (Eb [2, 4, 17] rfl ?_)))))
 first | refine Et rfl ?_ ?_ | refine Er rfl ?_ ?_
 intro h2
 try rw [nnp] at h2
 try have h2' := right_bd h2
 try have h2' := wants_bd h2
 refine Ee (Eh (Ea (Ev rfl rfl rfl) (Ez (Fc rfl rfl rfl rfl rfl rfl rfl) (Ea (Ef rfl) (Ed (Ec (Eb [2, 3] rfl (En (Ey ?_)))))))))
 · first | (refine Fa [2] (.inr rfl) rfl rfl rfl rfl (show (List.range 0 ++ [2]).Nodup by decide) ?_; rw [m_issue_no (m := m) ?_]; exact ⟨by simp [List.map_drop, Ej], by simp [List.map_drop, Ej]⟩; clear hs; unfold Mst.issueC; clear hq; generalize m.right = r at *; generalize m.beats = n at *; generalize m.beat = b at *; generalize m.done = d at *; first | (simp_all; done) | (simp_all; omega) | (simp_all; intros; omega) | (cases r <;> simp_all <;> intros <;> omega)) | (refine Fa [2] (.inr rfl) rfl rfl rfl rfl (show (List.range 0 ++ [2]).Nodup by decide) ?_; rw [m_issue_yes (m := m) ?_]; exact ⟨by simp [List.map_drop, Ej], by simp [List.map_drop, Ej]⟩; clear hs; unfold Mst.issueC; clear hq; generalize m.right = r at *; generalize m.beats = n at *; generalize m.beat = b at *; generalize m.done = d at *; first | (simp_all; done) | (simp_all; omega) | (simp_all; intros; omega) | (cases r <;> simp_all <;> intros <;> omega))
 intro h2
 try rw [nnp] at h2
 try have h2' := right_bd h2
 try have h2' := wants_bd h2
 refine Fd (Ec (Eb [2, 4] rfl (Ee (Eh (Ea (Ek rfl) (Ea (Ep rfl rfl rfl) ?_))))))
 first | refine Ea (o_addn rfl rfl (by omega)) ?_ | refine Ea (o_add rfl rfl) ?_
 refine Ea (Ek rfl) (Ez (o_stC rfl rfl rfl rfl rfl rfl) (Ed (Ec (Eb [2, 4] rfl (Ee (Eh (Ea (Ev rfl rfl rfl) (Ez (Fc rfl rfl rfl rfl rfl rfl rfl) (Ea (Ef rfl) (Ed (Ec ?_)))))))))))
 refine Eb [2, 3] rfl (En ?_)
 · first | (refine Fa [2] (.inr rfl) rfl rfl rfl rfl (show (List.range 0 ++ [2]).Nodup by decide) ?_; rw [m_issue_no (m := m) ?_]; exact ⟨by simp [List.map_drop, Ej], by simp [List.map_drop, Ej]⟩; clear hs; unfold Mst.issueC; clear hq; generalize m.right = r at *; generalize m.beats = n at *; generalize m.beat = b at *; generalize m.done = d at *; first | (simp_all; done) | (simp_all; omega) | (simp_all; intros; omega) | (cases r <;> simp_all <;> intros <;> omega)) | (refine Fa [2] (.inr rfl) rfl rfl rfl rfl (show (List.range 0 ++ [2]).Nodup by decide) ?_; rw [m_issue_yes (m := m) ?_]; exact ⟨by simp [List.map_drop, Ej], by simp [List.map_drop, Ej]⟩; clear hs; unfold Mst.issueC; clear hq; generalize m.right = r at *; generalize m.beats = n at *; generalize m.beat = b at *; generalize m.done = d at *; first | (simp_all; done) | (simp_all; omega) | (simp_all; intros; omega) | (cases r <;> simp_all <;> intros <;> omega))
 intro h1
 try rw [nnp] at h1
 try have h1' := right_bd h1
 try have h1' := wants_bd h1
 iterate 6 refine Eg rfl ?_
 refine Ea (Eu rfl rfl) (Ed (Ec (Eb [2, 4, 17] rfl (s_condT rfl (Ee (Eh (Ea (Ev rfl rfl rfl) (Ez (Fc rfl rfl rfl rfl rfl rfl rfl) (Ea (Ef rfl) (Ed (Ec ?_)))))))))))
 refine Eb [2, 3] rfl (En (Ey ?_))
 · first | (refine Fa [2] (.inr rfl) rfl rfl rfl rfl (show (List.range 0 ++ [2]).Nodup by decide) ?_; rw [m_issue_no (m := m) ?_]; exact ⟨by simp [List.map_drop, Ej], by simp [List.map_drop, Ej]⟩; clear hs; unfold Mst.issueC; clear hq; generalize m.right = r at *; generalize m.beats = n at *; generalize m.beat = b at *; generalize m.done = d at *; first | (simp_all; done) | (simp_all; omega) | (simp_all; intros; omega) | (cases r <;> simp_all <;> intros <;> omega)) | (refine Fa [2] (.inr rfl) rfl rfl rfl rfl (show (List.range 0 ++ [2]).Nodup by decide) ?_; rw [m_issue_yes (m := m) ?_]; exact ⟨by simp [List.map_drop, Ej], by simp [List.map_drop, Ej]⟩; clear hs; unfold Mst.issueC; clear hq; generalize m.right = r at *; generalize m.beats = n at *; generalize m.beat = b at *; generalize m.done = d at *; first | (simp_all; done) | (simp_all; omega) | (simp_all; intros; omega) | (cases r <;> simp_all <;> intros <;> omega))
theorem cg_357 (m : Mst) (hs : m.small) : GV prg 357 [] [.agg m.r] (fun u L1 => u = .tup [.agg [.ls 0 (m.back).1.queue.length, .w (.int .i64 (m.back).1.beat), .w (.int .i64 (m.back).1.done), .w (.int .i64 (m.back).1.tries), .w (.bool (m.back).1.parted), .w (.bool (m.back).1.broken)], .w (.bool (m.back).2)] ∧ L1 = [.arr 6 ((m.back).1.queue.map Req.r)]) := by
 have hq := hs.1
 refine gv_in g357 (Eb [0] rfl (Ee (Eh (Ea (o_box rfl rfl rfl) (Ea (o_new rfl rfl) (Ea (Ef rfl) (Ed (Ec (Eb [1, 2] rfl (Ee (Eh ?_)))))))))))
 refine Ea (Ev rfl rfl rfl) (Fe [] rfl rfl rfl rfl (by simp) (.inl rfl) (cg_373 _ hs) ?_)
 rintro u L1 ⟨rfl, rfl⟩
 refine ⟨_, _, rfl, rfl, ?_⟩
 refine Ea (o_new rfl rfl) (Ez (Fc rfl rfl rfl rfl rfl rfl rfl) (Ed (Ec (Eb [1, 2, 4] rfl (Ee (Ee (Eh (Ea (Ev rfl rfl rfl) ?_))))))))
 first | refine Ew rfl rfl (c_221 _ (by assumption)) ?_ | refine Fb rfl rfl (by simp) (c_221 _ (by assumption)) rfl ?_
 refine Ea (o_not rfl) (Ea (Ef rfl) ?_)
 first | refine s_gDF rfl ?_ ?_ | refine s_gNDF rfl ?_ ?_ | refine s_gNF rfl ?_ ?_ | refine s_gB rfl ?_ ?_
 intro h1
 try rw [nnp] at h1
 try have h1' := right_bd h1
 try have h1' := wants_bd h1
 refine Ea (Ek rfl) (Eo rfl (Ea (Ep rfl rfl rfl) (Eo rfl (Ea (Ek rfl) (Eo rfl (Ea (Ep rfl rfl rfl) (Eo rfl (Ea (o_eql rfl rfl) (Ea (Em rfl rfl) (Ed (Ec ?_)))))))))))
 refine Eb [2, 4, 16] rfl ?_
 first | refine Et rfl ?_ ?_ | refine Er rfl ?_ ?_
 intro h2
 try rw [nnp] at h2
 try have h2' := right_bd h2
 try have h2' := wants_bd h2
 refine Ee (Eh (Ea (Ev rfl rfl rfl) (Ez (Fc rfl rfl rfl rfl rfl rfl rfl) (Ea (Ef rfl) (Ed (Ec (Eb [2, 3] rfl (En (Ey ?_)))))))))
 · first | (refine Fa [2] (.inr rfl) rfl rfl rfl rfl (show (List.range 0 ++ [2]).Nodup by decide) ?_; rw [m_back_no (m := m) ?_]; exact ⟨by simp [List.map_drop, Ej], by simp [List.map_drop, Ej]⟩; clear hs; unfold Mst.backC; clear hq; generalize m.right = r at *; generalize m.beats = n at *; generalize m.beat = b at *; generalize m.done = d at *; first | (simp_all; done) | (simp_all; omega) | (simp_all; intros; omega) | (cases r <;> simp_all <;> intros <;> omega)) | (refine Fa [2] (.inr rfl) rfl rfl rfl rfl (show (List.range 0 ++ [2]).Nodup by decide) ?_; rw [m_back_yes (m := m) ?_]; exact ⟨by simp [List.map_drop, Ej], by simp [List.map_drop, Ej]⟩; clear hs; unfold Mst.backC; clear hq; generalize m.right = r at *; generalize m.beats = n at *; generalize m.beat = b at *; generalize m.done = d at *; first | (simp_all; done) | (simp_all; omega) | (simp_all; intros; omega) | (cases r <;> simp_all <;> intros <;> omega))
 intro h2
 try rw [nnp] at h2
 try have h2' := right_bd h2
 try have h2' := wants_bd h2
 refine Fd (Ec (Eb [2, 4] rfl (Ee (Eh (Ea (Ek rfl) (Ea (Ep rfl rfl rfl) ?_))))))
 first | refine Ea (o_subn rfl rfl (by omega)) ?_ | refine Ea (o_sub rfl rfl) ?_
 refine Ea (Ek rfl) (Ez (o_stC rfl rfl rfl rfl rfl rfl) (Ed (Ec (Eb [2, 4] rfl (Ee (Eh (Ea (Ev rfl rfl rfl) (Ez (Fc rfl rfl rfl rfl rfl rfl rfl) (Ea (Ef rfl) (Ed (Ec ?_)))))))))))
 refine Eb [2, 3] rfl (En ?_)
 · first | (refine Fa [2] (.inr rfl) rfl rfl rfl rfl (show (List.range 0 ++ [2]).Nodup by decide) ?_; rw [m_back_no (m := m) ?_]; exact ⟨by simp [List.map_drop, Ej], by simp [List.map_drop, Ej]⟩; clear hs; unfold Mst.backC; clear hq; generalize m.right = r at *; generalize m.beats = n at *; generalize m.beat = b at *; generalize m.done = d at *; first | (simp_all; done) | (simp_all; omega) | (simp_all; intros; omega) | (cases r <;> simp_all <;> intros <;> omega)) | (refine Fa [2] (.inr rfl) rfl rfl rfl rfl (show (List.range 0 ++ [2]).Nodup by decide) ?_; rw [m_back_yes (m := m) ?_]; exact ⟨by simp [List.map_drop, Ej], by simp [List.map_drop, Ej]⟩; clear hs; unfold Mst.backC; clear hq; generalize m.right = r at *; generalize m.beats = n at *; generalize m.beat = b at *; generalize m.done = d at *; first | (simp_all; done) | (simp_all; omega) | (simp_all; intros; omega) | (cases r <;> simp_all <;> intros <;> omega))
 intro h1
 try rw [nnp] at h1
 try have h1' := right_bd h1
 try have h1' := wants_bd h1
 refine Eg rfl (Eg rfl (Eg rfl (Eg rfl (Eg rfl (Ea (Eu rfl rfl) (Ed (Ec (Eb [2, 4, 16] rfl (s_condT rfl (Ee (Eh ?_)))))))))))
 refine Ea (Ev rfl rfl rfl) (Ez (Fc rfl rfl rfl rfl rfl rfl rfl) (Ea (Ef rfl) (Ed (Ec (Eb [2, 3] rfl (En (Ey ?_)))))))
 · first | (refine Fa [2] (.inr rfl) rfl rfl rfl rfl (show (List.range 0 ++ [2]).Nodup by decide) ?_; rw [m_back_no (m := m) ?_]; exact ⟨by simp [List.map_drop, Ej], by simp [List.map_drop, Ej]⟩; clear hs; unfold Mst.backC; clear hq; generalize m.right = r at *; generalize m.beats = n at *; generalize m.beat = b at *; generalize m.done = d at *; first | (simp_all; done) | (simp_all; omega) | (simp_all; intros; omega) | (cases r <;> simp_all <;> intros <;> omega)) | (refine Fa [2] (.inr rfl) rfl rfl rfl rfl (show (List.range 0 ++ [2]).Nodup by decide) ?_; rw [m_back_yes (m := m) ?_]; exact ⟨by simp [List.map_drop, Ej], by simp [List.map_drop, Ej]⟩; clear hs; unfold Mst.backC; clear hq; generalize m.right = r at *; generalize m.beats = n at *; generalize m.beat = b at *; generalize m.done = d at *; first | (simp_all; done) | (simp_all; omega) | (simp_all; intros; omega) | (cases r <;> simp_all <;> intros <;> omega))
theorem cg_356 (m : Mst) (hs : m.small) : GV prg 356 [] [.agg m.r] (fun u L1 => u = .tup [.agg [.ls 0 (m.fin).1.queue.length, .w (.int .i64 (m.fin).1.beat), .w (.int .i64 (m.fin).1.done), .w (.int .i64 (m.fin).1.tries), .w (.bool (m.fin).1.parted), .w (.bool (m.fin).1.broken)], .w (.bool (m.fin).2)] ∧ L1 = [.arr 6 ((m.fin).1.queue.map Req.r)]) := by
 have hq := hs.1
 refine gv_in g356 (Eb [0] rfl (Ee (Eh (Ea (o_box rfl rfl rfl) (Ea (o_new rfl rfl) (Ea (Ef rfl) (Ed (Ec (Eb [1, 2] rfl (Ee (Eh ?_)))))))))))
 refine Ea (Ev rfl rfl rfl) (Fe [] rfl rfl rfl rfl (by simp) (.inl rfl) (cg_373 _ hs) ?_)
 rintro u L1 ⟨rfl, rfl⟩
 refine ⟨_, _, rfl, rfl, ?_⟩
 refine Ea (o_new rfl rfl) (Ez (Fc rfl rfl rfl rfl rfl rfl rfl) (Ed (Ec (Eb [1, 2, 4] rfl (Ee (Ee (Eh (Ea (Ev rfl rfl rfl) ?_))))))))
 first | refine Ew rfl rfl (c_221 _ (by assumption)) ?_ | refine Fb rfl rfl (by simp) (c_221 _ (by assumption)) rfl ?_
 refine Ea (o_not rfl) (Ea (Ef rfl) ?_)
 first | refine s_gDF rfl ?_ ?_ | refine s_gNDF rfl ?_ ?_ | refine s_gNF rfl ?_ ?_ | refine s_gB rfl ?_ ?_
 intro h1
 try rw [nnp] at h1
 try have h1' := right_bd h1
 try have h1' := wants_bd h1
 try have h1' := right_q (by assumption) h1
 refine Ea (Ek rfl) (Eo rfl (Ea (Ep rfl rfl rfl) (Eo rfl (Ea (Ek rfl) (Eo rfl (Ea (Ep rfl rfl rfl) (Eo rfl (Ea (o_eql rfl rfl) (Ea (Em rfl rfl) (Ed (Ec ?_)))))))))))
 refine Eb [1, 2, 4, 16] rfl ?_
 first | refine Et rfl ?_ ?_ | refine Er rfl ?_ ?_
 intro h2
 try rw [nnp] at h2
 try have h2' := right_bd h2
 try have h2' := wants_bd h2
 try have h2' := right_q (by assumption) h2
 refine Ee (Eh (Ea (Ev rfl rfl rfl) (Ez (Fc rfl rfl rfl rfl rfl rfl rfl) (Ea (Ef rfl) (Ed (Ec (Eb [2, 3] rfl (En (Ey ?_)))))))))
 · first | (refine Fa [2] (.inr rfl) rfl rfl rfl rfl (show (List.range 0 ++ [2]).Nodup by decide) ?_; rw [m_fin_no (m := m) ?_]; exact ⟨by simp [List.map_drop, Ej], by simp [List.map_drop, Ej]⟩; clear hs; unfold Mst.finC; clear hq; generalize m.right = r at *; generalize m.beats = n at *; generalize m.beat = b at *; generalize m.done = d at *; first | (simp_all; done) | (simp_all; omega) | (cases r <;> simp_all <;> intros <;> omega)) | (refine Fa [2] (.inr rfl) rfl rfl rfl rfl (show (List.range 0 ++ [2]).Nodup by decide) ?_; rw [m_fin_yes (m := m) ?_]; exact ⟨by simp [List.map_drop, Ej], by simp [List.map_drop, Ej]⟩; clear hs; unfold Mst.finC; clear hq; generalize m.right = r at *; generalize m.beats = n at *; generalize m.beat = b at *; generalize m.done = d at *; first | (simp_all; done) | (simp_all; omega) | (cases r <;> simp_all <;> intros <;> omega)) | (refine Fa [4] (.inr rfl) rfl rfl rfl rfl (show (List.range 0 ++ [4]).Nodup by decide) ?_; rw [m_fin_last (m := m) ?_]; exact ⟨by simp [List.map_drop, Ej], by simp [List.map_drop, Ej]⟩; clear hs; unfold Mst.finC; clear hq; generalize m.right = r at *; generalize m.beats = n at *; generalize m.beat = b at *; generalize m.done = d at *; first | (simp_all; done) | (simp_all; omega) | (cases r <;> simp_all <;> intros <;> omega))
 intro h2
 try rw [nnp] at h2
 try have h2' := right_bd h2
 try have h2' := wants_bd h2
 try have h2' := right_q (by assumption) h2
 refine Fd (Ec (Eb [1, 2, 4] rfl (Ee (Eh (Ea (Ek rfl) (Ea (Ep rfl rfl rfl) ?_))))))
 first | refine Ea (o_addn rfl rfl (by omega)) ?_ | refine Ea (o_add rfl rfl) ?_
 refine Ea (Ek rfl) (Ez (o_stC rfl rfl rfl rfl rfl rfl) (Ed (Ec (Eb [1, 2, 4] rfl (Ee (Eh (Ea (Ek rfl) (Ez (o_stC rfl rfl rfl rfl rfl rfl) (Ed (Ec (Eb [1, 2, 4] rfl ?_)))))))))))
 refine Ee (Eh (Ea (Ek rfl) (Ez (o_stC rfl rfl rfl rfl rfl rfl) (Ed (Ec (Eb [1, 2, 4] rfl (Ee (Ee (Eh (Ea (Ek rfl) (Ea (Ep rfl rfl rfl) ?_)))))))))))
 refine Ea (Ev rfl rfl rfl) ?_
 first | refine Ew rfl rfl (c_220 _) ?_ | refine Fb rfl rfl (by simp) (c_220 _) rfl ?_
 refine Ea (o_eql rfl rfl) (Ed (Ec (Eb [2, 4, 28] rfl ?_)))
 first | refine Et rfl ?_ ?_ | refine Er rfl ?_ ?_
 intro h3
 try rw [nnp] at h3
 try have h3' := right_bd h3
 try have h3' := wants_bd h3
 try have h3' := right_q (by assumption) h3
 refine Ee (Eh (Ea (Ek rfl) (Ea (Ep rfl rfl rfl) (s_cut rfl rfl (by simp) rfl rfl (by simp; omega) rfl rfl (Ea (o_bd rfl rfl) (Ez (Fc rfl rfl rfl rfl rfl rfl rfl) (Ea (Ef rfl) (Ed (Ec (Eb [2, 3] rfl (En ?_)))))))))))
 refine Ey ?_
 · first | (refine Fa [2] (.inr rfl) rfl rfl rfl rfl (show (List.range 0 ++ [2]).Nodup by decide) ?_; rw [m_fin_no (m := m) ?_]; exact ⟨by simp [List.map_drop, Ej], by simp [List.map_drop, Ej]⟩; clear hs; unfold Mst.finC; clear hq; generalize m.right = r at *; generalize m.beats = n at *; generalize m.beat = b at *; generalize m.done = d at *; first | (simp_all; done) | (simp_all; omega) | (cases r <;> simp_all <;> intros <;> omega)) | (refine Fa [2] (.inr rfl) rfl rfl rfl rfl (show (List.range 0 ++ [2]).Nodup by decide) ?_; rw [m_fin_yes (m := m) ?_]; exact ⟨by simp [List.map_drop, Ej], by simp [List.map_drop, Ej]⟩; clear hs; unfold Mst.finC; clear hq; generalize m.right = r at *; generalize m.beats = n at *; generalize m.beat = b at *; generalize m.done = d at *; first | (simp_all; done) | (simp_all; omega) | (cases r <;> simp_all <;> intros <;> omega)) | (refine Fa [4] (.inr rfl) rfl rfl rfl rfl (show (List.range 0 ++ [4]).Nodup by decide) ?_; rw [m_fin_last (m := m) ?_]; exact ⟨by simp [List.map_drop, Ej], by simp [List.map_drop, Ej]⟩; clear hs; unfold Mst.finC; clear hq; generalize m.right = r at *; generalize m.beats = n at *; generalize m.beat = b at *; generalize m.done = d at *; first | (simp_all; done) | (simp_all; omega) | (cases r <;> simp_all <;> intros <;> omega))
 intro h3
 try rw [nnp] at h3
 try have h3' := right_bd h3
 try have h3' := wants_bd h3
 try have h3' := right_q (by assumption) h3
 refine Fd (Ec (Eb [2, 4] rfl (Ee (Eh (Ea (Ev rfl rfl rfl) (Ez (Fc rfl rfl rfl rfl rfl rfl rfl) (Ea (Ef rfl) (Ed (Ec (Eb [2, 3] rfl (En ?_)))))))))))
 · first | (refine Fa [2] (.inr rfl) rfl rfl rfl rfl (show (List.range 0 ++ [2]).Nodup by decide) ?_; rw [m_fin_no (m := m) ?_]; exact ⟨by simp [List.map_drop, Ej], by simp [List.map_drop, Ej]⟩; clear hs; unfold Mst.finC; clear hq; generalize m.right = r at *; generalize m.beats = n at *; generalize m.beat = b at *; generalize m.done = d at *; first | (simp_all; done) | (simp_all; omega) | (cases r <;> simp_all <;> intros <;> omega)) | (refine Fa [2] (.inr rfl) rfl rfl rfl rfl (show (List.range 0 ++ [2]).Nodup by decide) ?_; rw [m_fin_yes (m := m) ?_]; exact ⟨by simp [List.map_drop, Ej], by simp [List.map_drop, Ej]⟩; clear hs; unfold Mst.finC; clear hq; generalize m.right = r at *; generalize m.beats = n at *; generalize m.beat = b at *; generalize m.done = d at *; first | (simp_all; done) | (simp_all; omega) | (cases r <;> simp_all <;> intros <;> omega)) | (refine Fa [4] (.inr rfl) rfl rfl rfl rfl (show (List.range 0 ++ [4]).Nodup by decide) ?_; rw [m_fin_last (m := m) ?_]; exact ⟨by simp [List.map_drop, Ej], by simp [List.map_drop, Ej]⟩; clear hs; unfold Mst.finC; clear hq; generalize m.right = r at *; generalize m.beats = n at *; generalize m.beat = b at *; generalize m.done = d at *; first | (simp_all; done) | (simp_all; omega) | (cases r <;> simp_all <;> intros <;> omega))
 intro h1
 try rw [nnp] at h1
 try have h1' := right_bd h1
 try have h1' := wants_bd h1
 try have h1' := right_q (by assumption) h1
 refine Eg rfl (Eg rfl (Eg rfl (Eg rfl (Eg rfl (Ea (Eu rfl rfl) (Ed (Ec (Eb [1, 2, 4, 16] rfl (s_condT rfl (Ee (Eh ?_)))))))))))
 refine Ea (Ev rfl rfl rfl) (Ez (Fc rfl rfl rfl rfl rfl rfl rfl) (Ea (Ef rfl) (Ed (Ec (Eb [2, 3] rfl (En (Ey ?_)))))))
 · first | (refine Fa [2] (.inr rfl) rfl rfl rfl rfl (show (List.range 0 ++ [2]).Nodup by decide) ?_; rw [m_fin_no (m := m) ?_]; exact ⟨by simp [List.map_drop, Ej], by simp [List.map_drop, Ej]⟩; clear hs; unfold Mst.finC; clear hq; generalize m.right = r at *; generalize m.beats = n at *; generalize m.beat = b at *; generalize m.done = d at *; first | (simp_all; done) | (simp_all; omega) | (cases r <;> simp_all <;> intros <;> omega)) | (refine Fa [2] (.inr rfl) rfl rfl rfl rfl (show (List.range 0 ++ [2]).Nodup by decide) ?_; rw [m_fin_yes (m := m) ?_]; exact ⟨by simp [List.map_drop, Ej], by simp [List.map_drop, Ej]⟩; clear hs; unfold Mst.finC; clear hq; generalize m.right = r at *; generalize m.beats = n at *; generalize m.beat = b at *; generalize m.done = d at *; first | (simp_all; done) | (simp_all; omega) | (cases r <;> simp_all <;> intros <;> omega)) | (refine Fa [4] (.inr rfl) rfl rfl rfl rfl (show (List.range 0 ++ [4]).Nodup by decide) ?_; rw [m_fin_last (m := m) ?_]; exact ⟨by simp [List.map_drop, Ej], by simp [List.map_drop, Ej]⟩; clear hs; unfold Mst.finC; clear hq; generalize m.right = r at *; generalize m.beats = n at *; generalize m.beat = b at *; generalize m.done = d at *; first | (simp_all; done) | (simp_all; omega) | (cases r <;> simp_all <;> intros <;> omega))
theorem cg_353 (m : Mst) (hs : m.small) (x : Req) (hx : x.small) : GV prg 353 [] [.agg m.r, .agg x.r] (fun u L1 => u = .tup [.agg [.ls 0 (m.post x).1.queue.length, .w (.int .i64 (m.post x).1.beat), .w (.int .i64 (m.post x).1.done), .w (.int .i64 (m.post x).1.tries), .w (.bool (m.post x).1.parted), .w (.bool (m.post x).1.broken)], .w (.bool (m.post x).2)] ∧ L1 = [.arr 6 ((m.post x).1.queue.map Req.r)]) := by
 have hq := hs.1
 refine gv_in g353 (Eb [0, 1] rfl (Ee (Eh (Ea (o_box rfl rfl rfl) (Ea (o_box rfl rfl rfl) (Ea (o_new rfl rfl) (Ea (Ef rfl) (Ed (Ec (Eb [2, 3, 4] rfl (Ee ?_)))))))))))
 refine Eh (Ea (Ev rfl rfl rfl) (Fe [] rfl rfl rfl rfl (by simp) (.inl rfl) (cg_373 _ hs) ?_))
 rintro u L1 ⟨rfl, rfl⟩
 refine ⟨_, _, rfl, rfl, ?_⟩
 refine Ea (o_new rfl rfl) (Ez (Fc rfl rfl rfl rfl rfl rfl rfl) (Ed (Ec (Eb [2, 3, 4, 6] rfl (Ee (Ee (Eh (Ea (Ev rfl rfl rfl) ?_))))))))
 first | refine Ew rfl rfl (c_221 _ (by assumption)) ?_ | refine Fb rfl rfl (by simp) (c_221 _ (by assumption)) rfl ?_
 refine Ea (o_not rfl) (Ea (Ef rfl) ?_)
 first | refine s_gDF rfl ?_ ?_ | refine s_gNDF rfl ?_ ?_ | refine s_gNF rfl ?_ ?_ | refine s_gB rfl ?_ ?_
 intro h1
 try rw [nnp] at h1
 try have h1' := right_bd h1
 try have h1' := wants_bd h1
 refine Ea (Ev rfl rfl rfl) (Eo rfl ?_)
 first | refine Ew rfl rfl (c_207 _ (by assumption)) ?_ | refine Fb rfl rfl (by simp) (c_207 _ (by assumption)) rfl ?_
 refine Eo rfl (Ea (o_not rfl) (Ea (Em rfl rfl) (Ea (Ef rfl) ?_)))
 first | refine s_gDF rfl ?_ ?_ | refine s_gNDF rfl ?_ ?_ | refine s_gNF rfl ?_ ?_ | refine s_gB rfl ?_ ?_
 intro h2
 try rw [nnp] at h2
 try have h2' := right_bd h2
 try have h2' := wants_bd h2
 refine Ea (Ek rfl) (Eo rfl (Ea (Ep rfl rfl rfl) (Eo rfl ?_)))
 first | refine Ea (o_lenM rfl) ?_ | refine Ea (o_len rfl) ?_ | refine Ea (o_lenL rfl rfl (by simp)) ?_ | refine Ea (o_lenN rfl) ?_
 refine Eo rfl (Ea (o_eql rfl rfl) (Ea (Em rfl rfl) (Ed (Ec (Eb [3, 4, 6, 22] rfl ?_)))))
 first | refine Et rfl ?_ ?_ | refine Er rfl ?_ ?_
 intro h3
 try rw [nnp] at h3
 try have h3' := right_bd h3
 try have h3' := wants_bd h3
 refine Ee (Eh (Ea (Ev rfl rfl rfl) (Ez (Fc rfl rfl rfl rfl rfl rfl rfl) (Ea (Ef rfl) (Ed (Ec (Eb [4, 5] rfl (En (Ey ?_)))))))))
 · first | (refine Fa [3] (.inr rfl) rfl rfl rfl rfl (show (List.range 0 ++ [3]).Nodup by decide) ?_; rw [m_post_no (m := m) (x := x) ?_]; exact ⟨by simp [List.map_drop, Ej], by simp [List.map_drop, Ej]⟩; clear hs hx; simp_all [Mst.postC]; done) | (refine Fa [3] (.inr rfl) rfl rfl rfl rfl (show (List.range 0 ++ [3]).Nodup by decide) ?_; rw [m_post_yes (m := m) (x := x) ?_]; exact ⟨by simp [List.map_drop, Ej], by simp [List.map_drop, Ej]⟩; clear hs hx; simp_all [Mst.postC]; done)
 intro h3
 try rw [nnp] at h3
 try have h3' := right_bd h3
 try have h3' := wants_bd h3
 refine Fd (Ec (Eb [3, 4, 6] rfl (Ee (Eh (Ea (Ek rfl) (Ea (Ep rfl rfl rfl) (Ea (Ev rfl rfl rfl) ?_)))))))
 first | refine Ew rfl rfl (c_374 x hx) ?_ | refine Fb rfl rfl (by simp) (c_374 x hx) rfl ?_
 refine Ea (o_bs rfl rfl rfl rfl) ?_
 first | refine Ea (o_appL rfl rfl (by simp) rfl rfl rfl rfl (by simp [roomy]; omega)) ?_ | refine Ea (o_app rfl rfl (by simp) rfl rfl (by simp [roomy]; omega)) ?_
 refine Ea (Ek rfl) (Ez (o_stC rfl rfl rfl rfl rfl rfl) (Ed (Ec (Eb [4, 6] rfl (Ee (Eh (Ea (Ev rfl rfl rfl) (Ez (Fc rfl rfl rfl rfl rfl rfl rfl) (Ea (Ef rfl) (Ed (Ec ?_)))))))))))
 refine Eb [4, 5] rfl (En ?_)
 · first | (refine Fa [3] (.inr rfl) rfl rfl rfl rfl (show (List.range 0 ++ [3]).Nodup by decide) ?_; rw [m_post_no (m := m) (x := x) ?_]; exact ⟨by simp [List.map_drop, Ej], by simp [List.map_drop, Ej]⟩; clear hs hx; simp_all [Mst.postC]; done) | (refine Fa [3] (.inr rfl) rfl rfl rfl rfl (show (List.range 0 ++ [3]).Nodup by decide) ?_; rw [m_post_yes (m := m) (x := x) ?_]; exact ⟨by simp [List.map_drop, Ej], by simp [List.map_drop, Ej]⟩; clear hs hx; simp_all [Mst.postC]; done)
 intro h2
 try rw [nnp] at h2
 try have h2' := right_bd h2
 try have h2' := wants_bd h2
 refine Eg rfl (Eg rfl (Eg rfl (Eg rfl (Ea (Eu rfl rfl) (Ed (Ec (Eb [3, 4, 6, 22] rfl (s_condT rfl (Ee (Eh (Ea (Ev rfl rfl rfl) ?_)))))))))))
 refine Ez (Fc rfl rfl rfl rfl rfl rfl rfl) (Ea (Ef rfl) (Ed (Ec (Eb [4, 5] rfl (En (Ey ?_))))))
 · first | (refine Fa [3] (.inr rfl) rfl rfl rfl rfl (show (List.range 0 ++ [3]).Nodup by decide) ?_; rw [m_post_no (m := m) (x := x) ?_]; exact ⟨by simp [List.map_drop, Ej], by simp [List.map_drop, Ej]⟩; clear hs hx; simp_all [Mst.postC]; done) | (refine Fa [3] (.inr rfl) rfl rfl rfl rfl (show (List.range 0 ++ [3]).Nodup by decide) ?_; rw [m_post_yes (m := m) (x := x) ?_]; exact ⟨by simp [List.map_drop, Ej], by simp [List.map_drop, Ej]⟩; clear hs hx; simp_all [Mst.postC]; done)
 intro h1
 try rw [nnp] at h1
 try have h1' := right_bd h1
 try have h1' := wants_bd h1
 refine Eg rfl (Eg rfl (Eg rfl (Ea (Eu rfl rfl) (Ea (Ef rfl) (Eg rfl (Eg rfl (Eg rfl (Eg rfl (Ea (Eu rfl rfl) (Ed (Ec ?_)))))))))))
 refine Eb [3, 4, 6, 22] rfl (s_condT rfl (Ee (Eh (Ea (Ev rfl rfl rfl) (Ez (Fc rfl rfl rfl rfl rfl rfl rfl) (Ea (Ef rfl) (Ed (Ec (Eb [4, 5] rfl (En (Ey ?_)))))))))))
 · first | (refine Fa [3] (.inr rfl) rfl rfl rfl rfl (show (List.range 0 ++ [3]).Nodup by decide) ?_; rw [m_post_no (m := m) (x := x) ?_]; exact ⟨by simp [List.map_drop, Ej], by simp [List.map_drop, Ej]⟩; clear hs hx; simp_all [Mst.postC]; done) | (refine Fa [3] (.inr rfl) rfl rfl rfl rfl (show (List.range 0 ++ [3]).Nodup by decide) ?_; rw [m_post_yes (m := m) (x := x) ?_]; exact ⟨by simp [List.map_drop, Ej], by simp [List.map_drop, Ej]⟩; clear hs hx; simp_all [Mst.postC]; done)
def Mst.fit (m : Mst) : Prop := m.queue.length ≤ 4 ∧ ∀ x, x ∈ m.queue → x.data.length ≤ 16
def Mst.fit5 (m : Mst) : Prop := m.queue.length ≤ 5 ∧ ∀ x, x ∈ m.queue → x.data.length ≤ 16
theorem Mst.fit.to5 {m : Mst} (h : m.fit) : m.fit5 := ⟨Nat.le_trans h.1 (by decide), h.2⟩
theorem Mst.fit5.small {m : Mst} (h : m.fit5) : m.small := ⟨Nat.le_trans h.1 (by decide), fun x hx => Nat.le_trans (h.2 x hx) (by decide)⟩
theorem Mst.fit.small {m : Mst} (h : m.fit) : m.small := h.to5.small
theorem req_small {x : Req} (h : x.data.length ≤ 16) : x.small := Nat.le_trans h (by decide)
theorem Mst.fit.issue {m : Mst} (h : m.fit) : m.issue.1.fit := by
 unfold Mst.issue
 split
 · exact h
 · exact h
theorem Mst.fit.back {m : Mst} (h : m.fit) : m.back.1.fit := by
 unfold Mst.back
 split
 · exact h
 · exact h
theorem Mst.fit.fin {m : Mst} (h : m.fit) : m.fin.1.fit := by
 unfold Mst.fin
 split
 · split
   · exact ⟨by simp only [List.length_drop]; have := h.1; omega, fun x hx => h.2 x (List.mem_of_mem_drop hx)⟩
   · exact h
 · exact h
theorem Mst.fit.post {m : Mst} (h : m.fit) {x : Req} (hx : x.data.length ≤ 16) : (m.post x).1.fit := by
 unfold Mst.post
 split
 · rename_i hc
   unfold Mst.postC at hc
   simp only [Bool.and_eq_true, decide_eq_true_eq] at hc
   refine ⟨by simp only [List.length_append, List.length_cons, List.length_nil]; have := h.1; omega, fun y hy => ?_⟩
   rcases List.mem_append.1 hy with hy | hy
   · exact h.2 y hy
   · rw [List.mem_singleton.1 hy]; exact hx
 · exact h
theorem fit_nil : Mst.fit ⟨[], 0, 0, 0, false, false⟩ := ⟨by simp, fun x hx => nomatch hx⟩
theorem cg_394 (code : List Int) (hc : code.length ≤ 1048576) (i h : Int) (hi : 0 ≤ i ∧ i ≤ code.length) : GV prg 394 [cur code i h] [.cp 0 0] (fun u L1 => ∃ (m : Mst) (i h : Int), u = .agg [.ls 1 m.queue.length, .w (.int .i64 m.beat), .w (.int .i64 m.done), .w (.int .i64 m.tries), .w (.bool m.parted), .w (.bool m.broken)] ∧ m.fit ∧ (0 ≤ i ∧ i ≤ code.length) ∧ L1 = [cur code i h, .arr 6 (m.queue.map Req.r)]) := by
 refine gv_in g394 (Eb [0] rfl (Ee (Eh (Ea (o_new rfl rfl) (Ed (Ec (Eb [0, 2] rfl (Ee (Eh (Ea (o_bd rfl rfl) (Ea (o_new rfl rfl) ?_)))))))))))
 refine Ez (Fc rfl rfl rfl rfl rfl rfl rfl) (Ed (Ec (Eb [0, 2, 3] rfl (Ee (Ee (Eh (Ea (Ef rfl) (Fe [0] rfl rfl rfl rfl (by simp) (.inl rfl) (cg_228 _ hc _ _ hi _) ?_))))))))
 rintro u L1 ⟨⟨n0, rfl, hn0⟩, i, h, hi, rfl⟩
 refine ⟨_, _, rfl, rfl, ?_⟩
 refine Ea (Ef rfl) (Ed (Ec (Eb [0, 2, 3, 4] rfl (S_block (s_nilC 2 0 6 rfl rfl rfl rfl rfl (S_loopR (ι := Int × Mst × Int × Int) (fun p => (0 ≤ p.1 ∧ p.1 ≤ 7) ∧ p.2.1.fit ∧ 0 ≤ p.2.2.1 ∧ p.2.2.1 ≤ code.length) (fun p => [(4, .w (.int .i64 p.1)), (2, .cp 1 0), (3, .cp 2 0)]) (fun p => [cur code p.2.2.1 p.2.2.2, .cell [.w (.slice none 0 0), .w (.int .i64 0), .w (.int .i64 0), .w (.int .i64 0), .w (.bool false), .w (.bool false)], .cell [.ls 3 p.2.1.queue.length, .w (.int .i64 p.2.1.beat), .w (.int .i64 p.2.1.done), .w (.int .i64 p.2.1.tries), .w (.bool p.2.1.parted), .w (.bool p.2.1.broken)], .arr 6 (p.2.1.queue.map Req.r)]) (fun p => p.1.toNat) (n0, ⟨[], 0, 0, 0, false, false⟩, i, h) ⟨by simp only; omega, fit_nil, hi⟩ [0] rfl rfl rfl (hasR [1, 2, 3] (show (List.range 1 ++ [1, 2, 3]).Nodup by decide) rfl ⟨rfl, rfl, rfl, trivial⟩ rfl) ?_))))))
 rintro ⟨n, m, i, h⟩ hp
 obtain ⟨hnb, hm, hi⟩ := hp
 simp only at hnb hm hi
 refine Eb [0, 2, 3, 4] rfl ?_
 dsimp only
 refine Ee (Ee (Eh (Ea (Ef rfl) (Ea (o_gtr rfl rfl) (Ed (Ec (Eb [0, 2, 3, 4, 10] rfl ?_)))))))
 first | refine Et rfl ?_ ?_ | refine Er rfl ?_ ?_
 intro h1
 try rw [nnp] at h1
 refine Fd (Ec (Eb [0, 2, 3, 4] rfl (Ee (S_block (s_rgH [0] rfl (h_op (Ev rfl rfl rfl) rfl (h_op (Ef rfl) rfl (h_callG [0] [] rfl rfl rfl rfl rfl rfl (by simp) rfl (cg_241 _ hc _ _ hi) (by simp) ?_))))))))
 rintro u L1 ⟨⟨y, rfl, hy⟩, i, h, hi, rfl⟩
 refine ⟨rfl, _, _, _, _, rfl, rfl, rfl, rfl, ?_⟩
 refine h_bar rfl (s_frz 3 14 rfl (by simp) rfl rfl (by simp) rfl (Fe [] rfl rfl rfl rfl (by simp) (.inl rfl) (cg_353 m hm.small y (req_small (Nat.le_trans hy (by decide)))) ?_))
 rintro u L1 ⟨rfl, rfl⟩
 refine ⟨_, _, rfl, rfl, ?_⟩
 refine s_opH [2] (Ef rfl) (fun _ => rfl) rfl (h_op (o_ext rfl rfl) rfl (h_op (o_ext rfl rfl) rfl (h_stn rfl rfl rfl rfl rfl (h_nil rfl (q_blkN (Ec (Eb [0, 2, 3, 4] rfl (Eh (Ea (Ef rfl) ?_)))))))))
 first | refine Ea (o_subn rfl rfl (by omega)) ?_ | refine Ea (o_sub rfl rfl) ?_
 refine Ea (Ef rfl) (Ed (q_loopN ?_))
 · (exact ⟨(n - 1, (m.post y).1, i, h), ⟨by simp only; omega, hm.post (Nat.le_trans hy (by decide)), hi⟩, by simp only; omega, hasR [1, 2, 4] (show (List.range 1 ++ [1, 2, 4]).Nodup by decide) rfl ⟨rfl, rfl, rfl, trivial⟩ rfl⟩)
 intro h1
 try rw [nnp] at h1
 refine s_exit (q_seqX (q_loopX (q_blkH (Ec (Eb [0, 2, 3] rfl (Ee (Ee (Eh (Ea (Ef rfl) (Fe [0] rfl rfl rfl rfl (by simp) (.inl rfl) (cg_228 _ hc _ _ hi _) ?_))))))))))
 rintro u L1 ⟨⟨n1, rfl, hn1⟩, i, h, hi, rfl⟩
 refine ⟨_, _, rfl, rfl, ?_⟩
 refine Ea (Ef rfl) (Ed (Ec (Eb [0, 2, 3, 5] rfl (S_block (S_loopR (ι := Int × Mst × Int × Int) (fun p => (0 ≤ p.1 ∧ p.1 ≤ 7) ∧ p.2.1.fit ∧ 0 ≤ p.2.2.1 ∧ p.2.2.1 ≤ code.length) (fun p => [(5, .w (.int .i64 p.1)), (2, .cp 1 0), (3, .cp 2 0)]) (fun p => [cur code p.2.2.1 p.2.2.2, .cell [.w (.slice none 0 0), .w (.int .i64 0), .w (.int .i64 0), .w (.int .i64 0), .w (.bool false), .w (.bool false)], .cell [.ls 3 p.2.1.queue.length, .w (.int .i64 p.2.1.beat), .w (.int .i64 p.2.1.done), .w (.int .i64 p.2.1.tries), .w (.bool p.2.1.parted), .w (.bool p.2.1.broken)], .arr 6 (p.2.1.queue.map Req.r)]) (fun p => p.1.toNat) (n1, m, i, h) ⟨by simp only; omega, hm, hi⟩ [0] rfl rfl rfl (hasR [1, 2, 3] (show (List.range 1 ++ [1, 2, 3]).Nodup by decide) rfl ⟨rfl, rfl, rfl, trivial⟩ rfl) ?_)))))
 rintro ⟨n, m, i, h⟩ hp
 obtain ⟨hnb, hm, hi⟩ := hp
 simp only at hnb hm hi
 refine Eb [0, 2, 3, 5] rfl ?_
 dsimp only
 refine Ee (Ee (Eh (Ea (Ef rfl) (Ea (o_gtr rfl rfl) (Ed (Ec (Eb [0, 2, 3, 5, 23] rfl ?_)))))))
 first | refine Et rfl ?_ ?_ | refine Er rfl ?_ ?_
 intro h2
 try rw [nnp] at h2
 refine Fd (Ec (Eb [0, 2, 3, 5] rfl (Ee (S_block (Ee (Eh (Ea (Ef rfl) (Fe [0] rfl rfl rfl rfl (by simp) (.inl rfl) (cg_228 _ hc _ _ hi _) ?_))))))))
 rintro u L1 ⟨⟨k, rfl, hk⟩, i, h, hi, rfl⟩
 refine ⟨_, _, rfl, rfl, ?_⟩
 refine Ed (Ec (Eb [0, 2, 3, 5, 27] rfl (S_block (Ee (Ee (Eh (Ea (o_eql rfl rfl) (Ea (Ef rfl) (Ed (Ec (Eb [0, 2, 3, 5, 27, 33] rfl ?_)))))))))))
 first | refine Et rfl ?_ ?_ | refine Er rfl ?_ ?_
 intro h3
 try rw [nnp] at h3
 refine Fd (Ec (Eb [0, 2, 3, 5, 27, 33] rfl ?_))
 first | refine Et rfl ?_ ?_ | refine Er rfl ?_ ?_
 intro h4
 try rw [nnp] at h4
 refine Eh (Ea (Ev rfl rfl rfl) (s_frz 3 37 rfl (by simp) rfl rfl (by simp) rfl (Fe [] rfl rfl rfl rfl (by simp) (.inl rfl) (cg_355 m hm.small) ?_)))
 rintro u L1 ⟨rfl, rfl⟩
 refine ⟨_, _, rfl, rfl, ?_⟩
 refine Ea (Ef rfl) (Ea (o_ext rfl rfl) (Ea (o_ext rfl rfl) (Ez (Fc rfl rfl rfl rfl rfl rfl rfl) (Ed (q_blkN (q_blkN (Ec (Eb [0, 2, 3, 5] rfl (Eh (Ea (Ef rfl) ?_))))))))))
 first | refine Ea (o_subn rfl rfl (by omega)) ?_ | refine Ea (o_sub rfl rfl) ?_
 refine Ea (Ef rfl) (Ed (q_loopN ?_))
 · first | (exact ⟨(n - 1, m.issue.1, i, h), ⟨by simp only; omega, hm.issue, hi⟩, by simp only; omega, hasR [1, 2, 4] (show (List.range 1 ++ [1, 2, 4]).Nodup by decide) rfl ⟨rfl, rfl, rfl, trivial⟩ rfl⟩) | (exact ⟨(n - 1, m.fin.1, i, h), ⟨by simp only; omega, hm.fin, hi⟩, by simp only; omega, hasR [1, 2, 4] (show (List.range 1 ++ [1, 2, 4]).Nodup by decide) rfl ⟨rfl, rfl, rfl, trivial⟩ rfl⟩) | (exact ⟨(n - 1, m.back.1, i, h), ⟨by simp only; omega, hm.back, hi⟩, by simp only; omega, hasR [1, 2, 4] (show (List.range 1 ++ [1, 2, 4]).Nodup by decide) rfl ⟨rfl, rfl, rfl, trivial⟩ rfl⟩)
 intro h4
 try rw [nnp] at h4
 refine Ee (Eh (Ea (o_eql rfl rfl) (Ea (Ef rfl) (Ed (Ec (Eb [0, 2, 3, 5, 41] rfl ?_))))))
 first | refine Et rfl ?_ ?_ | refine Er rfl ?_ ?_
 intro h5
 try rw [nnp] at h5
 refine Eh (Ea (Ev rfl rfl rfl) (s_frz 3 44 rfl (by simp) rfl rfl (by simp) rfl (Fe [] rfl rfl rfl rfl (by simp) (.inl rfl) (cg_356 m hm.small) ?_)))
 rintro u L1 ⟨rfl, rfl⟩
 refine ⟨_, _, rfl, rfl, ?_⟩
 refine Ea (Ef rfl) (Ea (o_ext rfl rfl) (Ea (o_ext rfl rfl) (Ez (Fc rfl rfl rfl rfl rfl rfl rfl) (Ed (q_blkN (q_blkN (Ec (Eb [0, 2, 3, 5] rfl (Eh (Ea (Ef rfl) ?_))))))))))
 first | refine Ea (o_subn rfl rfl (by omega)) ?_ | refine Ea (o_sub rfl rfl) ?_
 refine Ea (Ef rfl) (Ed (q_loopN ?_))
 · first | (exact ⟨(n - 1, m.issue.1, i, h), ⟨by simp only; omega, hm.issue, hi⟩, by simp only; omega, hasR [1, 2, 4] (show (List.range 1 ++ [1, 2, 4]).Nodup by decide) rfl ⟨rfl, rfl, rfl, trivial⟩ rfl⟩) | (exact ⟨(n - 1, m.fin.1, i, h), ⟨by simp only; omega, hm.fin, hi⟩, by simp only; omega, hasR [1, 2, 4] (show (List.range 1 ++ [1, 2, 4]).Nodup by decide) rfl ⟨rfl, rfl, rfl, trivial⟩ rfl⟩) | (exact ⟨(n - 1, m.back.1, i, h), ⟨by simp only; omega, hm.back, hi⟩, by simp only; omega, hasR [1, 2, 4] (show (List.range 1 ++ [1, 2, 4]).Nodup by decide) rfl ⟨rfl, rfl, rfl, trivial⟩ rfl⟩)
 intro h5
 try rw [nnp] at h5
 refine Eh (Ea (Ev rfl rfl rfl) (s_frz 3 29 rfl (by simp) rfl rfl (by simp) rfl (Fe [] rfl rfl rfl rfl (by simp) (.inl rfl) (cg_357 m hm.small) ?_)))
 rintro u L1 ⟨rfl, rfl⟩
 refine ⟨_, _, rfl, rfl, ?_⟩
 refine Ea (Ef rfl) (Ea (o_ext rfl rfl) (Ea (o_ext rfl rfl) (Ez (Fc rfl rfl rfl rfl rfl rfl rfl) (Ed (q_blkN (q_blkN (Ec (Eb [0, 2, 3, 5] rfl (Eh (Ea (Ef rfl) ?_))))))))))
 first | refine Ea (o_subn rfl rfl (by omega)) ?_ | refine Ea (o_sub rfl rfl) ?_
 refine Ea (Ef rfl) (Ed (q_loopN ?_))
 · first | (exact ⟨(n - 1, m.issue.1, i, h), ⟨by simp only; omega, hm.issue, hi⟩, by simp only; omega, hasR [1, 2, 4] (show (List.range 1 ++ [1, 2, 4]).Nodup by decide) rfl ⟨rfl, rfl, rfl, trivial⟩ rfl⟩) | (exact ⟨(n - 1, m.fin.1, i, h), ⟨by simp only; omega, hm.fin, hi⟩, by simp only; omega, hasR [1, 2, 4] (show (List.range 1 ++ [1, 2, 4]).Nodup by decide) rfl ⟨rfl, rfl, rfl, trivial⟩ rfl⟩) | (exact ⟨(n - 1, m.back.1, i, h), ⟨by simp only; omega, hm.back, hi⟩, by simp only; omega, hasR [1, 2, 4] (show (List.range 1 ++ [1, 2, 4]).Nodup by decide) rfl ⟨rfl, rfl, rfl, trivial⟩ rfl⟩)
 intro h3
 try rw [nnp] at h3
 refine Eh (Ea (o_eql rfl rfl) (Ea (Ef rfl) (Ed (Ec (Eb [0, 2, 3, 5, 27, 33] rfl ?_)))))
 first | refine Et rfl ?_ ?_ | refine Er rfl ?_ ?_
 intro h6
 try rw [nnp] at h6
 refine Eh (Ea (Ev rfl rfl rfl) (s_frz 3 37 rfl (by simp) rfl rfl (by simp) rfl (Fe [] rfl rfl rfl rfl (by simp) (.inl rfl) (cg_355 m hm.small) ?_)))
 rintro u L1 ⟨rfl, rfl⟩
 refine ⟨_, _, rfl, rfl, ?_⟩
 refine Ea (Ef rfl) (Ea (o_ext rfl rfl) (Ea (o_ext rfl rfl) (Ez (Fc rfl rfl rfl rfl rfl rfl rfl) (Ed (q_blkN (q_blkN (Ec (Eb [0, 2, 3, 5] rfl (Eh (Ea (Ef rfl) ?_))))))))))
 first | refine Ea (o_subn rfl rfl (by omega)) ?_ | refine Ea (o_sub rfl rfl) ?_
 refine Ea (Ef rfl) (Ed (q_loopN ?_))
 · first | (exact ⟨(n - 1, m.issue.1, i, h), ⟨by simp only; omega, hm.issue, hi⟩, by simp only; omega, hasR [1, 2, 4] (show (List.range 1 ++ [1, 2, 4]).Nodup by decide) rfl ⟨rfl, rfl, rfl, trivial⟩ rfl⟩) | (exact ⟨(n - 1, m.fin.1, i, h), ⟨by simp only; omega, hm.fin, hi⟩, by simp only; omega, hasR [1, 2, 4] (show (List.range 1 ++ [1, 2, 4]).Nodup by decide) rfl ⟨rfl, rfl, rfl, trivial⟩ rfl⟩) | (exact ⟨(n - 1, m.back.1, i, h), ⟨by simp only; omega, hm.back, hi⟩, by simp only; omega, hasR [1, 2, 4] (show (List.range 1 ++ [1, 2, 4]).Nodup by decide) rfl ⟨rfl, rfl, rfl, trivial⟩ rfl⟩)
 intro h6
 try rw [nnp] at h6
 refine Ee (Eh (Ea (o_eql rfl rfl) (Ea (Ef rfl) (Ed (Ec (Eb [0, 2, 3, 5, 41] rfl ?_))))))
 first | refine Et rfl ?_ ?_ | refine Er rfl ?_ ?_
 intro h7
 try rw [nnp] at h7
 refine Eh (Ea (Ev rfl rfl rfl) (s_frz 3 44 rfl (by simp) rfl rfl (by simp) rfl (Fe [] rfl rfl rfl rfl (by simp) (.inl rfl) (cg_356 m hm.small) ?_)))
 rintro u L1 ⟨rfl, rfl⟩
 refine ⟨_, _, rfl, rfl, ?_⟩
 refine Ea (Ef rfl) (Ea (o_ext rfl rfl) (Ea (o_ext rfl rfl) (Ez (Fc rfl rfl rfl rfl rfl rfl rfl) (Ed (q_blkN (q_blkN (Ec (Eb [0, 2, 3, 5] rfl (Eh (Ea (Ef rfl) ?_))))))))))
 first | refine Ea (o_subn rfl rfl (by omega)) ?_ | refine Ea (o_sub rfl rfl) ?_
 refine Ea (Ef rfl) (Ed (q_loopN ?_))
 · first | (exact ⟨(n - 1, m.issue.1, i, h), ⟨by simp only; omega, hm.issue, hi⟩, by simp only; omega, hasR [1, 2, 4] (show (List.range 1 ++ [1, 2, 4]).Nodup by decide) rfl ⟨rfl, rfl, rfl, trivial⟩ rfl⟩) | (exact ⟨(n - 1, m.fin.1, i, h), ⟨by simp only; omega, hm.fin, hi⟩, by simp only; omega, hasR [1, 2, 4] (show (List.range 1 ++ [1, 2, 4]).Nodup by decide) rfl ⟨rfl, rfl, rfl, trivial⟩ rfl⟩) | (exact ⟨(n - 1, m.back.1, i, h), ⟨by simp only; omega, hm.back, hi⟩, by simp only; omega, hasR [1, 2, 4] (show (List.range 1 ++ [1, 2, 4]).Nodup by decide) rfl ⟨rfl, rfl, rfl, trivial⟩ rfl⟩)
 intro h7
 try rw [nnp] at h7
 refine Eh (Ea (Ev rfl rfl rfl) (s_frz 3 29 rfl (by simp) rfl rfl (by simp) rfl (Fe [] rfl rfl rfl rfl (by simp) (.inl rfl) (cg_357 m hm.small) ?_)))
 rintro u L1 ⟨rfl, rfl⟩
 refine ⟨_, _, rfl, rfl, ?_⟩
 refine Ea (Ef rfl) (Ea (o_ext rfl rfl) (Ea (o_ext rfl rfl) (Ez (Fc rfl rfl rfl rfl rfl rfl rfl) (Ed (q_blkN (q_blkN (Ec (Eb [0, 2, 3, 5] rfl (Eh (Ea (Ef rfl) ?_))))))))))
 first | refine Ea (o_subn rfl rfl (by omega)) ?_ | refine Ea (o_sub rfl rfl) ?_
 refine Ea (Ef rfl) (Ed (q_loopN ?_))
 · first | (exact ⟨(n - 1, m.issue.1, i, h), ⟨by simp only; omega, hm.issue, hi⟩, by simp only; omega, hasR [1, 2, 4] (show (List.range 1 ++ [1, 2, 4]).Nodup by decide) rfl ⟨rfl, rfl, rfl, trivial⟩ rfl⟩) | (exact ⟨(n - 1, m.fin.1, i, h), ⟨by simp only; omega, hm.fin, hi⟩, by simp only; omega, hasR [1, 2, 4] (show (List.range 1 ++ [1, 2, 4]).Nodup by decide) rfl ⟨rfl, rfl, rfl, trivial⟩ rfl⟩) | (exact ⟨(n - 1, m.back.1, i, h), ⟨by simp only; omega, hm.back, hi⟩, by simp only; omega, hasR [1, 2, 4] (show (List.range 1 ++ [1, 2, 4]).Nodup by decide) rfl ⟨rfl, rfl, rfl, trivial⟩ rfl⟩)
 intro h2
 try rw [nnp] at h2
 refine s_exit (q_seqX (q_loopX (q_blkH (Ec (Eb [2, 3] rfl (Ee (Eh (Ea (Ev rfl rfl rfl) (Ez (Fc rfl rfl rfl rfl rfl rfl rfl) (Ed (Ec ?_)))))))))))
 refine Eb [2] rfl (En ?_)
 · refine Fa [3] (.inr rfl) rfl rfl rfl rfl (show (List.range 1 ++ [3]).Nodup by decide) ?_
   exact ⟨m, _, _, rfl, hm, by omega, rfl⟩
theorem fit_as {m : Mst} (h : m.fit) {b d t : Int} {p k : Bool} : Mst.fit5 ⟨m.queue, b, d, t, p, k⟩ := h.to5
theorem fit_app {m : Mst} (h : m.fit) {x : Req} (hx : x.data.length ≤ 16) {b d t : Int} {p k : Bool} : Mst.fit5 ⟨m.queue ++ [x], b, d, t, p, k⟩ := by
 refine ⟨by simp only [List.length_append, List.length_cons, List.length_nil]; have := h.1; omega, fun y hy => ?_⟩
 rcases List.mem_append.1 hy with hy | hy
 · exact h.2 y hy
 · rw [List.mem_singleton.1 hy]; exact hx
theorem cg_372 (code : List Int) (hc : code.length ≤ 1048576) (i h : Int) (hi : 0 ≤ i ∧ i ≤ code.length) : GV prg 372 [cur code i h] [.cp 0 0] (fun u L1 => (∃ x : Mst, u = .agg x.r ∧ x.fit5) ∧ ∃ (i h : Int), (0 ≤ i ∧ i ≤ code.length) ∧ L1 = [cur code i h]) := by
 refine gv_inF g372 (Eb [0] rfl (Ee (Eh (Ea (o_new rfl rfl) (Ed (Ec (Eb [0, 2] rfl (Ee (Eh (Ea (Ef rfl) (Fe [0] rfl rfl rfl rfl (by simp) (.inl rfl) (cg_394 _ hc _ _ hi) ?_)))))))))))
 rintro u L1 ⟨m, i, h, rfl, hm, hi, rfl⟩
 refine ⟨_, _, rfl, rfl, ?_⟩
 refine Ea (o_new rfl rfl) (Ez (Fc rfl rfl rfl rfl rfl rfl rfl) (Ed (Ec (Eb [0, 2, 3] rfl (Ee (Ee (Eh (Ea (Ef rfl) (Fe [0] rfl rfl rfl rfl (by simp) (.inl rfl) (cg_228 _ hc _ _ hi _) ?_)))))))))
 rintro u L1 ⟨⟨x, rfl, hx⟩, i, h, hi, rfl⟩
 refine ⟨_, _, rfl, rfl, ?_⟩
 refine Ed (Ec (Eb [0, 2, 3, 7] rfl (S_block (Ee (Eh (Ea (o_eql rfl rfl) (Ea (Ef rfl) (Ed (Ec (Eb [0, 2, 3, 7, 8] rfl ?_))))))))))
 first | refine Et rfl ?_ ?_ | refine Er rfl ?_ ?_
 intro h1
 try rw [nnp] at h1
 refine Eh (Ea (Ef rfl) (Fe [0] rfl rfl rfl rfl (by simp) (.inl rfl) (cg_228 _ hc _ _ hi _) ?_))
 rintro u L1 ⟨⟨x, rfl, hx⟩, i, h, hi, rfl⟩
 refine ⟨_, _, rfl, rfl, ?_⟩
 first | refine Ea (o_subn rfl rfl (by omega)) ?_ | refine Ea (o_sub rfl rfl) ?_
 refine Ea (Ek rfl) (Ez (o_stC rfl rfl rfl rfl rfl rfl) (Ed (q_blkN (Ec (Eb [2, 3] rfl (Ee (Eh (Ea (Ev rfl rfl rfl) (Ez (Fc rfl rfl rfl rfl rfl rfl rfl) (Ed (Ec ?_)))))))))))
 refine Eb [2] rfl (En ?_)
 · refine retF_leaf (.inr rfl) rfl rfl (by simp) rfl ?_
   first | exact ⟨⟨⟨m.queue, m.beat, m.done, m.tries, m.parted, m.broken⟩, rfl, fit_as hm⟩, _, _, (by omega), rfl⟩ | exact ⟨⟨⟨m.queue, x - 1, m.done, m.tries, m.parted, m.broken⟩, rfl, fit_as hm⟩, _, _, (by omega), rfl⟩ | exact ⟨⟨⟨m.queue, m.beat, x - 1, m.tries, m.parted, m.broken⟩, rfl, fit_as hm⟩, _, _, (by omega), rfl⟩ | exact ⟨⟨⟨m.queue, m.beat, m.done, x, m.parted, m.broken⟩, rfl, fit_as hm⟩, _, _, (by omega), rfl⟩ | exact ⟨⟨⟨m.queue ++ [x], m.beat, m.done, m.tries, m.parted, m.broken⟩, (by simp only [Mst.r, List.map_append]; rfl), fit_app hm hx⟩, _, _, (by omega), rfl⟩
 intro h1
 try rw [nnp] at h1
 refine Ee (Eh (Ea (o_eql rfl rfl) (Ea (Ef rfl) (Ed (Ec (Eb [0, 2, 3, 7, 14] rfl ?_))))))
 first | refine Et rfl ?_ ?_ | refine Er rfl ?_ ?_
 intro h2
 try rw [nnp] at h2
 refine Eh (Ea (Ef rfl) (Fe [0] rfl rfl rfl rfl (by simp) (.inl rfl) (cg_228 _ hc _ _ hi _) ?_))
 rintro u L1 ⟨⟨x, rfl, hx⟩, i, h, hi, rfl⟩
 refine ⟨_, _, rfl, rfl, ?_⟩
 first | refine Ea (o_subn rfl rfl (by omega)) ?_ | refine Ea (o_sub rfl rfl) ?_
 refine Ea (Ek rfl) (Ez (o_stC rfl rfl rfl rfl rfl rfl) (Ed (q_blkN (Ec (Eb [2, 3] rfl (Ee (Eh (Ea (Ev rfl rfl rfl) (Ez (Fc rfl rfl rfl rfl rfl rfl rfl) (Ed (Ec ?_)))))))))))
 refine Eb [2] rfl (En ?_)
 · refine retF_leaf (.inr rfl) rfl rfl (by simp) rfl ?_
   first | exact ⟨⟨⟨m.queue, m.beat, m.done, m.tries, m.parted, m.broken⟩, rfl, fit_as hm⟩, _, _, (by omega), rfl⟩ | exact ⟨⟨⟨m.queue, x - 1, m.done, m.tries, m.parted, m.broken⟩, rfl, fit_as hm⟩, _, _, (by omega), rfl⟩ | exact ⟨⟨⟨m.queue, m.beat, x - 1, m.tries, m.parted, m.broken⟩, rfl, fit_as hm⟩, _, _, (by omega), rfl⟩ | exact ⟨⟨⟨m.queue, m.beat, m.done, x, m.parted, m.broken⟩, rfl, fit_as hm⟩, _, _, (by omega), rfl⟩ | exact ⟨⟨⟨m.queue ++ [x], m.beat, m.done, m.tries, m.parted, m.broken⟩, (by simp only [Mst.r, List.map_append]; rfl), fit_app hm hx⟩, _, _, (by omega), rfl⟩
 intro h2
 try rw [nnp] at h2
 refine Ee (Eh (Ea (o_eql rfl rfl) (Ea (Ef rfl) (Ed (Ec (Eb [0, 2, 3, 7, 20] rfl ?_))))))
 first | refine Et rfl ?_ ?_ | refine Er rfl ?_ ?_
 intro h3
 try rw [nnp] at h3
 refine Eh (Ea (Ef rfl) (Ea (o_bs rfl rfl rfl rfl) (Fe [0, 4] rfl rfl rfl rfl (by simp) (.inl rfl) (cg_234 _ hc _ _ hi _ _ rfl (by simp) (by simp)) ?_)))
 rintro u L1 ⟨⟨x, rfl, hx⟩, i, h, hi, rfl⟩
 refine ⟨_, _, rfl, rfl, ?_⟩
 try simp only [List.mem_cons, List.not_mem_nil, or_false] at hx
 refine Ea (Ek rfl) (Ez (o_stC rfl rfl rfl rfl rfl rfl) (Ed (q_blkN (Ec (Eb [2, 3] rfl (Ee (Eh (Ea (Ev rfl rfl rfl) (Ez (Fc rfl rfl rfl rfl rfl rfl rfl) (Ed (Ec ?_)))))))))))
 refine Eb [2] rfl (En ?_)
 · refine retF_leaf (.inr rfl) rfl rfl (by simp) rfl ?_
   first | exact ⟨⟨⟨m.queue, m.beat, m.done, m.tries, m.parted, m.broken⟩, rfl, fit_as hm⟩, _, _, (by omega), rfl⟩ | exact ⟨⟨⟨m.queue, x - 1, m.done, m.tries, m.parted, m.broken⟩, rfl, fit_as hm⟩, _, _, (by omega), rfl⟩ | exact ⟨⟨⟨m.queue, m.beat, x - 1, m.tries, m.parted, m.broken⟩, rfl, fit_as hm⟩, _, _, (by omega), rfl⟩ | exact ⟨⟨⟨m.queue, m.beat, m.done, x, m.parted, m.broken⟩, rfl, fit_as hm⟩, _, _, (by omega), rfl⟩ | exact ⟨⟨⟨m.queue ++ [x], m.beat, m.done, m.tries, m.parted, m.broken⟩, (by simp only [Mst.r, List.map_append]; rfl), fit_app hm hx⟩, _, _, (by omega), rfl⟩
 intro h3
 try rw [nnp] at h3
 refine Ee (Eh (Ea (o_eql rfl rfl) (Ea (Ef rfl) (Ed (Ec (Eb [0, 2, 3, 26] rfl ?_))))))
 first | refine Et rfl ?_ ?_ | refine Er rfl ?_ ?_
 intro h4
 try rw [nnp] at h4
 refine s_rgH [0] rfl (h_op (Ek rfl) rfl (h_op (Ep rfl rfl rfl) rfl (h_op (Ef rfl) rfl (h_callG [0] [] rfl rfl rfl rfl rfl rfl (by simp) rfl (cg_239 _ hc _ _ hi) (by simp) ?_))))
 rintro u L1 ⟨⟨x, rfl, hx⟩, i, h, hi, rfl⟩
 refine ⟨rfl, _, _, _, _, rfl, rfl, rfl, rfl, ?_⟩
 refine h_op (o_bs rfl rfl rfl rfl) rfl (h_bar rfl ?_)
 first | refine Ea (o_appL rfl rfl (by simp) rfl rfl rfl rfl (by simp [roomy]; have := hm.1; omega)) ?_ | refine Ea (o_app rfl rfl (by simp) rfl rfl (by simp [roomy]; have := hm.1; omega)) ?_
 refine Ea (Ek rfl) (Ez (o_stC rfl rfl rfl rfl rfl rfl) (Ed (q_blkN (Ec (Eb [2, 3] rfl (Ee (Eh (Ea (Ev rfl rfl rfl) (Ez (Fc rfl rfl rfl rfl rfl rfl rfl) (Ed (Ec ?_)))))))))))
 refine Eb [2] rfl (En ?_)
 · refine retF_leaf (.inr rfl) rfl rfl (by simp) rfl ?_
   first | exact ⟨⟨⟨m.queue, m.beat, m.done, m.tries, m.parted, m.broken⟩, rfl, fit_as hm⟩, _, _, (by omega), rfl⟩ | exact ⟨⟨⟨m.queue, x - 1, m.done, m.tries, m.parted, m.broken⟩, rfl, fit_as hm⟩, _, _, (by omega), rfl⟩ | exact ⟨⟨⟨m.queue, m.beat, x - 1, m.tries, m.parted, m.broken⟩, rfl, fit_as hm⟩, _, _, (by omega), rfl⟩ | exact ⟨⟨⟨m.queue, m.beat, m.done, x, m.parted, m.broken⟩, rfl, fit_as hm⟩, _, _, (by omega), rfl⟩ | exact ⟨⟨⟨m.queue ++ [x], m.beat, m.done, m.tries, m.parted, m.broken⟩, (by simp only [Mst.r, List.map_append]; rfl), fit_app hm hx⟩, _, _, (by omega), rfl⟩
 intro h4
 try rw [nnp] at h4
 refine Fd (q_blkN (Ec (Eb [2, 3] rfl (Ee (Eh (Ea (Ev rfl rfl rfl) (Ez (Fc rfl rfl rfl rfl rfl rfl rfl) (Ed (Ec (Eb [2] rfl (En ?_)))))))))))
 · refine retF_leaf (.inr rfl) rfl rfl (by simp) rfl ?_
   first | exact ⟨⟨⟨m.queue, m.beat, m.done, m.tries, m.parted, m.broken⟩, rfl, fit_as hm⟩, _, _, (by omega), rfl⟩ | exact ⟨⟨⟨m.queue, x - 1, m.done, m.tries, m.parted, m.broken⟩, rfl, fit_as hm⟩, _, _, (by omega), rfl⟩ | exact ⟨⟨⟨m.queue, m.beat, x - 1, m.tries, m.parted, m.broken⟩, rfl, fit_as hm⟩, _, _, (by omega), rfl⟩ | exact ⟨⟨⟨m.queue, m.beat, m.done, x, m.parted, m.broken⟩, rfl, fit_as hm⟩, _, _, (by omega), rfl⟩ | exact ⟨⟨⟨m.queue ++ [x], m.beat, m.done, m.tries, m.parted, m.broken⟩, (by simp only [Mst.r, List.map_append]; rfl), fit_app hm hx⟩, _, _, (by omega), rfl⟩
theorem c_354 (code : List Int) (hc : code.length ≤ 1048576) : CV prg 354 [.sl 1 (code.map uR)] (fun u => ∃ m : Mst, u = .agg m.r ∧ m.fit5) := by
 refine cv_in g354 (Eb [0] rfl (Ee (Eh (Ea (o_new rfl rfl) (Ed (Ec (Eb [0, 2] rfl (Ee (Eh (Ea (Ef rfl) (Fe [] rfl rfl rfl rfl (by simp) (.inl rfl) (cg_231 _ hc) ?_)))))))))))
 rintro u L1 ⟨rfl, h, rfl⟩
 refine ⟨_, _, rfl, rfl, ?_⟩
 have hi : (0 : Int) ≤ 0 ∧ (0 : Int) ≤ (code.length : Int) := by omega
 refine Fe [1] rfl rfl rfl rfl (by simp) (.inl rfl) (cg_372 _ hc _ _ hi) ?_
 rintro u L1 ⟨⟨m, rfl, hm⟩, i, h, hi, rfl⟩
 refine ⟨_, _, rfl, rfl, ?_⟩
 refine Ez (Fc rfl rfl rfl rfl rfl rfl rfl) (Ed (Ec (Eb [2] rfl (En ?_))))
 · refine ret_leaf (.inr rfl) rfl rfl ?_
   exact ⟨_, rfl, hm⟩
theorem next_pos {a s b : Int} (h : ¬ nextA a s b < 0) : 0 ≤ a := by
 unfold nextA at h
 split at h
 · rename_i hc
   simp only [aligned, Bool.and_eq_true, decide_eq_true_eq] at hc
   exact hc.1.1.1.2
 · omega
theorem bl_pos (s b : Int) : ∀ (n : Nat) (a : Int) l, bl s b n a = some l → ∀ x, x ∈ l → 0 ≤ x
 | 0, a, l, h => by simp [bl] at h; subst h; intro x hx; cases hx
 | n + 1, a, l, h => by
   simp only [bl] at h
   split at h
   · cases h
   · rename_i hn
     cases e : bl s b n (nextA a s b) with
     | none => rw [e] at h; cases h
     | some r =>
       rw [e] at h; cases h
       intro x hx
       rcases List.mem_cons.1 hx with rfl | hx
       · exact next_pos hn
       · exact bl_pos s b n _ r e x hx
theorem burst_pos {a s b x : Int} (h : x ∈ burstL a s b) : 0 ≤ x := by
 unfold burstL at h
 cases e : bl s b (beats b).toNat a with
 | none => rw [e] at h; cases h
 | some l => rw [e] at h; exact bl_pos s b _ _ _ e x h
theorem addr_pos {m : Mst} {k : Int} (h : m.right = true) (hk : inB k 0 (m.beats - 1) = true) : 0 ≤ m.addrAt k := by
 unfold Mst.addrAt
 rw [h, hk, if_pos (show (true && true) = true from rfl)]
 split
 · rename_i r _
   cases e : (burstL r.addr r.size r.burst)[k.toNat]? with
   | none => simp
   | some x => exact burst_pos (List.mem_of_getElem? e)
 · omega
theorem right_inc {m : Mst} (h : m.right = true) (h1 : m.beat < m.beats) (h2 : m.beat ≠ m.done + 2) : Mst.right ⟨m.queue, m.beat + 1, m.done, m.tries, m.parted, m.broken⟩ = true := by
 unfold Mst.right at *
 unfold Mst.beats at *
 simp only [Bool.and_eq_true] at *
 refine ⟨h.1, ?_⟩
 have h3 := h.2
 split at h3
 · rename_i hq
   rw [List.eq_nil_of_length_eq_zero hq] at h1
   simp only [Bool.and_eq_true, decide_eq_true_eq, List.getElem?_nil] at *
   omega
 · rename_i hq
   rw [if_neg hq]
   simp only [Bool.and_eq_true, inB, decide_eq_true_eq] at *
   omega
theorem issue_cases {m : Mst} (hm : m.fit5) : ∃ x b, m.issue = (x, b) ∧ (b = false → x = m) ∧ (b = true → x.back = (m, true) ∧ 0 ≤ m.addrAt m.beat) ∧ x.small := by
 cases h : m.issueC with
 | false => exact ⟨m, false, m_issue_no h, fun _ => rfl, fun e => (nomatch e), hm.small⟩
 | true =>
   refine ⟨_, true, m_issue_yes h, fun e => (nomatch e), fun _ => ⟨?_, ?_⟩, hm.small⟩
   · have hb := right_bd (m := m) (by simp only [Mst.issueC, Bool.and_eq_true] at h; exact h.1.1)
     simp only [Mst.issueC, Bool.and_eq_true, decide_eq_true_eq] at h
     rw [m_back_yes]
     · simp only [Prod.mk.injEq, and_true]
       cases m
       simp only [Mst.mk.injEq, true_and, and_true] at *
       omega
     · unfold Mst.backC
       rw [right_inc h.1.1 h.1.2 h.2]
       simp
       omega
   · have hb := right_bd (m := m) (by simp only [Mst.issueC, Bool.and_eq_true] at h; exact h.1.1)
     simp only [Mst.issueC, Bool.and_eq_true, decide_eq_true_eq] at h
     exact addr_pos h.1.1 (by simp only [inB, Bool.and_eq_true, decide_eq_true_eq]; omega)
theorem fin_cases {m : Mst} (hm : m.fit5) : ∃ y b, m.fin = (y, b) ∧ (b = false → y = m) ∧ (b = true → 0 ≤ m.done ∧ m.done ≤ 8 ∧ ((y.queue.length = m.queue.length ∧ y.done = m.done + 1) ∨ ((y.queue.length : Int) = m.queue.length - 1 ∧ y.done = 0 ∧ y.beat = 0))) ∧ y.small := by
 cases h : m.finC with
 | false => exact ⟨m, false, m_fin_no h, fun _ => rfl, fun e => (nomatch e), hm.small⟩
 | true =>
   have hb := right_bd (m := m) (by simp only [Mst.finC, Bool.and_eq_true] at h; exact h.1)
   have hq := right_q (m := m) (by simp only [Mst.finC, Bool.and_eq_true] at h; exact h.1) (by simp only [Mst.finC, Bool.and_eq_true, decide_eq_true_eq] at h; exact h.2)
   by_cases hl : m.done + 1 = m.beats
   · refine ⟨_, true, m_fin_last ⟨h, hl⟩, fun e => (nomatch e), fun _ => ⟨by omega, by omega, .inr ⟨?_, rfl, rfl⟩⟩, Mst.fit5.small ⟨?_, fun x hx => hm.2 x (List.mem_of_mem_drop hx)⟩⟩
     · simp only [List.length_drop]; omega
     · simp only [List.length_drop]; have := hm.1; omega
   · exact ⟨_, true, m_fin_yes ⟨h, hl⟩, fun e => (nomatch e), fun _ => ⟨by omega, by omega, .inl ⟨rfl, rfl⟩⟩, hm.small⟩
theorem c_57y {m y : Mst} {b : Bool} (h : m.issue = (y, b)) (hm : m.small) : CV prg 57 [.agg m.r] (fun v => v = .tup [.agg y.r, .w (.bool b)]) := by
 have := c_57 m hm
 rwa [h] at this
theorem c_355y {m y : Mst} {b : Bool} (h : m.issue = (y, b)) (hm : m.small) : CV prg 355 [.agg m.r] (fun v => v = .tup [.agg y.r, .w (.bool b)]) := by
 have := c_355 m hm
 rwa [h] at this
theorem c_56y {m y : Mst} {b : Bool} (h : m.fin = (y, b)) (hm : m.small) : CV prg 56 [.agg m.r] (fun v => v = .tup [.agg y.r, .w (.bool b)]) := by
 have := c_56 m hm
 rwa [h] at this
theorem c_356y {m y : Mst} {b : Bool} (h : m.fin = (y, b)) (hm : m.small) : CV prg 356 [.agg m.r] (fun v => v = .tup [.agg y.r, .w (.bool b)]) := by
 have := c_356 m hm
 rwa [h] at this
theorem c_55y {m y : Mst} {b : Bool} (h : m.back = (y, b)) (hm : m.small) : CV prg 55 [.agg m.r] (fun v => v = .tup [.agg y.r, .w (.bool b)]) := by
 have := c_55 m hm
 rwa [h] at this
theorem c_342 (code : List Int) (hw : code.length ≤ 140737488355328) : CV prg 342 [.sl 1 (code.map uR)] (fun res => res = .w (.bool true)) := by
 refine cv_in g342 (Eb [0] rfl (Ee (Eh (Ea (Ef rfl) (Ed (Ec (Eb [0] rfl (Ee (Ee (Eh (Ea (Ef rfl) ?_)))))))))))
 refine Ew rfl rfl (c_123 _ (by assumption)) (Ed (Ec (Eb [0, 15] rfl ?_)))
 first | refine Et rfl ?_ ?_ | refine s_condN rfl ?_ ?_ | refine s_condNB rfl ?_ ?_ | refine Er rfl ?_ ?_
 intro h1
 try rw [nnp] at h1
 try have hc : code.length ≤ 1048576 := by simp at h1; omega
 try have hxi := hxy (by assumption)
 try have hyi := hyy (by assumption)
 refine Ee (Eh (Ea (Ef rfl) (Ed (Ec (Eb [2] rfl (En (Ey (Ei rfl rfl ?_))))))))
 rotate_left
 intro h1
 try rw [nnp] at h1
 try have hc : code.length ≤ 1048576 := by simp at h1; omega
 try have hxi := hxy (by assumption)
 try have hyi := hyy (by assumption)
 refine Fd (Ec (Eb [0] rfl (Ee (Eh (Ea (Ef rfl) (s_callP rfl rfl (c_354 _ hc) ?_))))))
 rintro u ⟨m, rfl, hm⟩
 obtain ⟨x, b, hxb, hxn, hxy, hxs⟩ := issue_cases hm
 obtain ⟨y, d, hyb, hyn, hyy, hys⟩ := fin_cases hm
 have hml := hm.1
 refine Ea (o_new rfl rfl) (Ez (Fc rfl rfl rfl rfl rfl rfl rfl) (Ed (Ec (Eb [3] rfl (Ee (Eh (Ea (Ev rfl rfl rfl) ?_)))))))
 first | refine Ew rfl rfl (c_57y hxb hm.small) ?_ | refine Fb rfl rfl (by simp) (c_57y hxb hm.small) rfl ?_
 refine Ea (Ef rfl) (Ea (o_ext rfl rfl) (Ea (o_ext rfl rfl) (Ea (o_new rfl rfl) (Ez (Fc rfl rfl rfl rfl rfl rfl rfl) (Ea (Ef rfl) (Ed (Ec (Eb [3, 4, 5] rfl (Ee (Eh (Ea (Ev rfl rfl rfl) ?_)))))))))))
 first | refine Ew rfl rfl (c_355y hxb hm.small) ?_ | refine Fb rfl rfl (by simp) (c_355y hxb hm.small) rfl ?_
 refine Ea (Ef rfl) (Ea (o_ext rfl rfl) (Ea (o_ext rfl rfl) (Ea (o_new rfl rfl) (Ez (Fc rfl rfl rfl rfl rfl rfl rfl) (Ea (Ef rfl) (Ed (Ec (Eb [3, 4, 5, 7] rfl (Ee (Eh (Ea (Ev rfl rfl rfl) ?_)))))))))))
 first | refine Ew rfl rfl (c_56y hyb hm.small) ?_ | refine Fb rfl rfl (by simp) (c_56y hyb hm.small) rfl ?_
 refine Ea (Ef rfl) (Ea (o_ext rfl rfl) (Ea (o_ext rfl rfl) (Ea (o_new rfl rfl) (Ez (Fc rfl rfl rfl rfl rfl rfl rfl) (Ea (Ef rfl) (Ed (Ec (Eb [3, 4, 5, 7, 8, 9] rfl (Ee (Eh (Ea (Ev rfl rfl rfl) ?_)))))))))))
 first | refine Ew rfl rfl (c_356y hyb hm.small) ?_ | refine Fb rfl rfl (by simp) (c_356y hyb hm.small) rfl ?_
 refine Ea (Ef rfl) (Ea (o_ext rfl rfl) (Ea (o_ext rfl rfl) (Ea (o_new rfl rfl) (Ez (Fc rfl rfl rfl rfl rfl rfl rfl) (Ea (Ef rfl) (Ed (Ec (Eb [3, 4, 5, 7, 8, 9, 10, 11] rfl (Ee (Ee (Eh ?_)))))))))))
 refine Ea (Ef rfl) (Ea (Ef rfl) (Ea (o_eqb rfl rfl) (Ea (Ef rfl) ?_)))
 first | refine s_gNF rfl ?_ ?_ | refine s_gB rfl ?_ ?_
 intro h2
 try rw [nnp] at h2
 try have hc : code.length ≤ 1048576 := by simp at h2; omega
 try have hxi := hxy (by assumption)
 try have hyi := hyy (by assumption)
 refine Ea (Ef rfl) (Eo rfl (Ea (Ef rfl) (Eo rfl (Ea (o_eqb rfl rfl) (Ea (Em rfl rfl) (Ea (Ef rfl) ?_))))))
 first | refine s_gNF rfl ?_ ?_ | refine s_gB rfl ?_ ?_
 intro h3
 try rw [nnp] at h3
 try have hc : code.length ≤ 1048576 := by simp at h3; omega
 try have hxi := hxy (by assumption)
 try have hyi := hyy (by assumption)
 refine Ea (Ev rfl rfl rfl) (Eo rfl (Ea (Ev rfl rfl rfl) (Eo rfl ?_)))
 first | refine Ew rfl rfl (c_210 y y hys) ?_ | refine Fb rfl rfl (by simp) (c_210 y y hys) rfl ?_
 refine Eo rfl (Ea (o_not rfl) (Ea (Em rfl rfl) (s_keepO (is := [3, 4, 5, 8, 9, 51]) rfl (Ea (Ef rfl) ?_))))
 first | refine s_gDF rfl ?_ ?_ | refine s_gNDF rfl ?_ ?_ | refine s_gNF rfl ?_ ?_ | refine s_gB rfl ?_ ?_
 intro h4
 try rw [nnp] at h4
 try have hc : code.length ≤ 1048576 := by simp at h4; omega
 try have hxi := hxy (by assumption)
 try have hyi := hyy (by assumption)
 refine Ea (Ev rfl rfl rfl) (Eo rfl ?_)
 first | refine Ew rfl rfl (c_59 m hm.small) ?_ | refine Fb rfl rfl (by simp) (c_59 m hm.small) rfl ?_
 refine Eo rfl (Ea (Ev rfl rfl rfl) (Eo rfl ?_))
 first | refine Ew rfl rfl (c_326 m hm.small) ?_ | refine Fb rfl rfl (by simp) (c_326 m hm.small) rfl ?_
 refine Eo rfl (Ea (o_eqb rfl rfl) (Ea (Em rfl rfl) (Ed (Ec (Eb [3, 4, 5, 8, 9, 58] rfl ?_)))))
 first | refine s_condNB rfl ?_ ?_ | refine Er rfl ?_ ?_
 intro h5
 try rw [nnp] at h5
 try have hc : code.length ≤ 1048576 := by simp at h5; omega
 try have hxi := hxy (by assumption)
 try have hyi := hyy (by assumption)
 refine Ee (Eh (Ea (Ef rfl) (Ed (Ec (Eb [2] rfl (En (Ey (Ei rfl rfl ?_))))))))
 rotate_left
 intro h5
 try rw [nnp] at h5
 try have hc : code.length ≤ 1048576 := by simp at h5; omega
 try have hxi := hxy (by assumption)
 try have hyi := hyy (by assumption)
 refine Fd (Ec (Eb [3, 4, 5, 8, 9] rfl (Ee (Ee (Eh (Ea (Ef rfl) (Ed (Ec (Eb [3, 4, 8, 9, 59] rfl ?_)))))))))
 first | refine Et rfl ?_ ?_ | refine s_condN rfl ?_ ?_ | refine s_condNB rfl ?_ ?_ | refine Er rfl ?_ ?_
 intro h6
 try rw [nnp] at h6
 try have hc : code.length ≤ 1048576 := by simp at h6; omega
 try have hxi := hxy (by assumption)
 try have hyi := hyy (by assumption)
 refine Ee (Eh (Ea (Ev rfl rfl rfl) ?_))
 first | refine Ew rfl rfl (c_55y hxi.1 hxs) ?_ | refine Fb rfl rfl (by simp) (c_55y hxi.1 hxs) rfl ?_
 refine Ea (Ef rfl) (Ea (o_ext rfl rfl) (Ea (o_ext rfl rfl) (Ea (o_new rfl rfl) (Ez (Fc rfl rfl rfl rfl rfl rfl rfl) (Ea (Ef rfl) (Ed (Ec (Eb [3, 8, 9, 12, 13] rfl (Ee (Eh (Ea (Ef rfl) ?_)))))))))))
 refine Ea (o_not rfl) (Ea (Ef rfl) ?_)
 first | refine s_gDF rfl ?_ ?_ | refine s_gNDF rfl ?_ ?_ | refine s_gNF rfl ?_ ?_ | refine s_gB rfl ?_ ?_
 intro h7
 try rw [nnp] at h7
 try have hc : code.length ≤ 1048576 := by simp at h7; omega
 try have hxi := hxy (by assumption)
 try have hyi := hyy (by assumption)
 refine Ea (Ev rfl rfl rfl) (Eo rfl (Ea (Ev rfl rfl rfl) (Eo rfl ?_)))
 first | refine Ew rfl rfl (c_210 m m hm.small) ?_ | refine Fb rfl rfl (by simp) (c_210 m m hm.small) rfl ?_
 refine Eo rfl (Ea (o_not rfl) (Ea (Em rfl rfl) (Ea (Ef rfl) ?_)))
 first | refine s_gDF rfl ?_ ?_ | refine s_gNDF rfl ?_ ?_ | refine s_gNF rfl ?_ ?_ | refine s_gB rfl ?_ ?_
 intro h8
 try rw [nnp] at h8
 try have hc : code.length ≤ 1048576 := by simp at h8; omega
 try have hxi := hxy (by assumption)
 try have hyi := hyy (by assumption)
 refine Ea (Ev rfl rfl rfl) (Eo rfl (Ea (Ek rfl) (Eo rfl (Ea (Ep rfl rfl rfl) (Eo rfl ?_)))))
 first | refine Ew rfl rfl (c_54 m m.beat hm.small) ?_ | refine Fb rfl rfl (by simp) (c_54 m m.beat hm.small) rfl ?_
 refine Eo rfl (Ea (o_lss rfl rfl) (Ea (Em rfl rfl) (Ed (Ec (Eb [3, 8, 9, 79] rfl ?_)))))
 first | refine Et rfl ?_ ?_ | refine Er rfl ?_ ?_
 intro h9
 try rw [nnp] at h9
 try have hc : code.length ≤ 1048576 := by simp at h9; omega
 try have hxi := hxy (by assumption)
 try have hyi := hyy (by assumption)
 refine Ee (Eh (Ea (Ef rfl) (Ed (Ec (Eb [2] rfl (En (Ey (Ei rfl rfl ?_))))))))
 rotate_left
 intro h9
 try rw [nnp] at h9
 try have hc : code.length ≤ 1048576 := by simp at h9; omega
 try have hxi := hxy (by assumption)
 try have hyi := hyy (by assumption)
 refine Fd (Ec (Eb [3, 8, 9] rfl (Ee (Ee (Eh (Ea (Ef rfl) (Ea (o_not rfl) (Ed (Ec (Eb [3, 8, 85] rfl ?_))))))))))
 first | refine Et rfl ?_ ?_ | refine s_condN rfl ?_ ?_ | refine s_condNB rfl ?_ ?_ | refine Er rfl ?_ ?_
 intro h10
 try rw [nnp] at h10
 try have hc : code.length ≤ 1048576 := by simp at h10; omega
 try have hxi := hxy (by assumption)
 try have hyi := hyy (by assumption)
 refine Ee (Eh (Ea (Ev rfl rfl rfl) (Ea (Ev rfl rfl rfl) ?_)))
 first | refine Ew rfl rfl (c_210 y m hys) ?_ | refine Fb rfl rfl (by simp) (c_210 y m hys) rfl ?_
 refine Ea (Ef rfl) (Ed (Ec (Eb [2] rfl (En (Ey (Ei rfl rfl ?_))))))
 rotate_left
 intro h10
 try rw [nnp] at h10
 try have hc : code.length ≤ 1048576 := by simp at h10; omega
 try have hxi := hxy (by assumption)
 try have hyi := hyy (by assumption)
 refine Fd (Ec (Eb [3, 8] rfl (Ee (Eh (Ea (Ek rfl) (Ea (Ep rfl rfl rfl) ?_))))))
 first | refine Ea (o_lenM rfl) ?_ | refine Ea (o_len rfl) ?_ | refine Ea (o_lenL rfl rfl rfl) ?_ | refine Ea (o_lenN rfl) ?_
 refine Ea (Ek rfl) (Ea (Ep rfl rfl rfl) ?_)
 first | refine Ea (o_lenM rfl) ?_ | refine Ea (o_len rfl) ?_ | refine Ea (o_lenL rfl rfl rfl) ?_ | refine Ea (o_lenN rfl) ?_
 refine Ea (o_eql rfl rfl) (Ea (Ef rfl) ?_)
 first | refine s_gDT rfl ?_ ?_ | refine s_gB rfl ?_ ?_
 intro h11
 try rw [nnp] at h11
 try have hc : code.length ≤ 1048576 := by simp at h11; omega
 try have hxi := hxy (by assumption)
 try have hyi := hyy (by assumption)
 refine Ea (Ek rfl) (Eo rfl (Ea (Ep rfl rfl rfl) (Eo rfl (Ea (Ek rfl) (Eo rfl (Ea (Ep rfl rfl rfl) (Eo rfl ?_)))))))
 first | refine Ea (o_addn rfl rfl (by omega)) ?_ | refine Ea (o_add rfl rfl) ?_
 refine Eo rfl (Ea (o_eql rfl rfl) (s_keepO (is := [3, 8, 96, 102]) rfl (Ea (Eu rfl rfl) (Ea (Ef rfl) ?_))))
 first | refine s_gDF rfl ?_ ?_ | refine s_gB rfl ?_ ?_
 intro h12
 try rw [nnp] at h12
 try have hc : code.length ≤ 1048576 := by simp at h12; omega
 try have hxi := hxy (by assumption)
 try have hyi := hyy (by assumption)
 refine Ea (Ek rfl) (Eo rfl (Ea (Ep rfl rfl rfl) (Eo rfl ?_)))
 first | refine Ea (o_lenM rfl) ?_ | refine Ea (o_len rfl) ?_ | refine Ea (o_lenL rfl rfl rfl) ?_ | refine Ea (o_lenN rfl) ?_
 refine Eo rfl (Ea (Ek rfl) (Eo rfl (Ea (Ep rfl rfl rfl) (Eo rfl ?_))))
 first | refine Ea (o_lenM rfl) ?_ | refine Ea (o_len rfl) ?_ | refine Ea (o_lenL rfl rfl rfl) ?_ | refine Ea (o_lenN rfl) ?_
 refine Eo rfl ?_
 first | refine Ea (o_subn rfl rfl (by omega)) ?_ | refine Ea (o_sub rfl rfl) ?_
 refine Eo rfl (Ea (o_eql rfl rfl) (Eo rfl (Ea (Ef rfl) ?_)))
 first | refine s_gDT rfl ?_ ?_ | refine s_gB rfl ?_ ?_
 intro h13
 try rw [nnp] at h13
 try have hc : code.length ≤ 1048576 := by simp at h13; omega
 try have hxi := hxy (by assumption)
 try have hyi := hyy (by assumption)
 refine Ea (Ek rfl) (Eo rfl (Ea (Ep rfl rfl rfl) (Eo rfl (Ea (o_eql rfl rfl) (s_keepO (is := [8, 104, 113, 116]) rfl (Eo rfl (Ea (Eu rfl rfl) (Eo rfl (Ea (Ef rfl) ?_)))))))))
 first | refine s_gDT rfl ?_ ?_ | refine s_gB rfl ?_ ?_
 intro h14
 try rw [nnp] at h14
 try have hc : code.length ≤ 1048576 := by simp at h14; omega
 try have hxi := hxy (by assumption)
 try have hyi := hyy (by assumption)
 refine Ea (Ek rfl) (Eo rfl (Ea (Ep rfl rfl rfl) (Eo rfl (Ea (o_eql rfl rfl) (Eo rfl (Ea (Eu rfl rfl) (Ea (Em rfl rfl) (Ea (Ef rfl) (Ed (Ec (Eb [2] rfl ?_)))))))))))
 refine En (Ei rfl rfl ?_)
 rotate_left
 intro h14
 try rw [nnp] at h14
 try have hc : code.length ≤ 1048576 := by simp at h14; omega
 try have hxi := hxy (by assumption)
 try have hyi := hyy (by assumption)
 refine Eg rfl (Eg rfl (Eg rfl (Eo rfl (Ea (Em rfl rfl) (Ea (Em rfl rfl) (Ea (Ef rfl) (Ed (Ec (Eb [2] rfl (En (Ei rfl rfl ?_)))))))))))
 rotate_left
 intro h13
 try rw [nnp] at h13
 try have hc : code.length ≤ 1048576 := by simp at h13; omega
 try have hxi := hxy (by assumption)
 try have hyi := hyy (by assumption)
 refine Eg rfl (Eg rfl (Eg rfl (s_keepO (is := [8, 104, 113, 116]) rfl (Eo rfl (Ea (Em rfl rfl) (Eo rfl (Ea (Ef rfl) (Eg rfl (Eg rfl (Eg rfl (Eo rfl ?_)))))))))))
 refine Ea (Em rfl rfl) (Ea (Em rfl rfl) (Ea (Ef rfl) (Ed (Ec (Eb [2] rfl (En (Ei rfl rfl ?_)))))))
 rotate_left
 intro h12
 try rw [nnp] at h12
 try have hc : code.length ≤ 1048576 := by simp at h12; omega
 try have hxi := hxy (by assumption)
 try have hyi := hyy (by assumption)
 iterate 9 refine Eg rfl ?_
 refine s_gN rfl (s_gN rfl (s_gN rfl (s_keepO (is := [8, 104, 113, 116]) rfl (Eg rfl (Eg rfl (s_gN rfl (s_gN rfl (s_gN rfl (Eg rfl (Ea (Eu rfl rfl) (Ea (Ef rfl) ?_)))))))))))
 refine Ed (Ec (Eb [2] rfl (En (Ei rfl rfl ?_))))
 rotate_left
 intro h11
 try rw [nnp] at h11
 try have hc : code.length ≤ 1048576 := by simp at h11; omega
 try have hxi := hxy (by assumption)
 try have hyi := hyy (by assumption)
 iterate 6 refine Eg rfl ?_
 refine s_keepO (is := [3, 8, 96, 102]) rfl (Ea (Em rfl rfl) (Ea (Ef rfl) (Eo rfl (Ea (Ek rfl) (Eo rfl (Ea (Ep rfl rfl rfl) (Eo rfl ?_)))))))
 first | refine Ea (o_lenM rfl) ?_ | refine Ea (o_len rfl) ?_ | refine Ea (o_lenL rfl rfl rfl) ?_ | refine Ea (o_lenN rfl) ?_
 refine Eo rfl (Ea (Ek rfl) (Eo rfl (Ea (Ep rfl rfl rfl) (Eo rfl ?_))))
 first | refine Ea (o_lenM rfl) ?_ | refine Ea (o_len rfl) ?_ | refine Ea (o_lenL rfl rfl rfl) ?_ | refine Ea (o_lenN rfl) ?_
 refine Eo rfl ?_
 first | refine Ea (o_subn rfl rfl (by omega)) ?_ | refine Ea (o_sub rfl rfl) ?_
 refine Eo rfl (Ea (o_eql rfl rfl) (Eo rfl (Ea (Ef rfl) ?_)))
 first | refine s_gDT rfl ?_ ?_ | refine s_gB rfl ?_ ?_
 intro h15
 try rw [nnp] at h15
 try have hc : code.length ≤ 1048576 := by simp at h15; omega
 try have hxi := hxy (by assumption)
 try have hyi := hyy (by assumption)
 refine Ea (Ek rfl) (Eo rfl (Ea (Ep rfl rfl rfl) (Eo rfl (Ea (o_eql rfl rfl) (s_keepO (is := [8, 104, 113, 116]) rfl (Eo rfl (Ea (Eu rfl rfl) (Eo rfl (Ea (Ef rfl) ?_)))))))))
 first | refine s_gDT rfl ?_ ?_ | refine s_gB rfl ?_ ?_
 intro h16
 try rw [nnp] at h16
 try have hc : code.length ≤ 1048576 := by simp at h16; omega
 try have hxi := hxy (by assumption)
 try have hyi := hyy (by assumption)
 refine Ea (Ek rfl) (Eo rfl (Ea (Ep rfl rfl rfl) (Eo rfl (Ea (o_eql rfl rfl) (Eo rfl (Ea (Eu rfl rfl) (Ea (Em rfl rfl) (Ea (Ef rfl) (Ed (Ec (Eb [2] rfl ?_)))))))))))
 refine En (Ei rfl rfl ?_)
 rotate_left
 intro h16
 try rw [nnp] at h16
 try have hc : code.length ≤ 1048576 := by simp at h16; omega
 try have hxi := hxy (by assumption)
 try have hyi := hyy (by assumption)
 refine Eg rfl (Eg rfl (Eg rfl (Eo rfl (Ea (Em rfl rfl) (Ea (Em rfl rfl) (Ea (Ef rfl) (Ed (Ec (Eb [2] rfl (En (Ei rfl rfl ?_)))))))))))
 rotate_left
 intro h15
 try rw [nnp] at h15
 try have hc : code.length ≤ 1048576 := by simp at h15; omega
 try have hxi := hxy (by assumption)
 try have hyi := hyy (by assumption)
 refine Eg rfl (Eg rfl (Eg rfl (s_keepO (is := [8, 104, 113, 116]) rfl (Eo rfl (Ea (Em rfl rfl) (Eo rfl (Ea (Ef rfl) (Eg rfl (Eg rfl (Eg rfl (Eo rfl ?_)))))))))))
 refine Ea (Em rfl rfl) (Ea (Em rfl rfl) (Ea (Ef rfl) (Ed (Ec (Eb [2] rfl (En (Ei rfl rfl ?_)))))))
 rotate_left
 intro h8
 try rw [nnp] at h8
 try have hc : code.length ≤ 1048576 := by simp at h8; omega
 try have hxi := hxy (by assumption)
 try have hyi := hyy (by assumption)
 refine Eg rfl (Eg rfl (Eg rfl (Eg rfl (Eg rfl (Ea (Eu rfl rfl) (Ed (Ec (Eb [3, 8, 9, 79] rfl (s_condT rfl (Ee (Eh ?_)))))))))))
 refine Ea (Ef rfl) (Ed (Ec (Eb [2] rfl (En (Ey (Ei rfl rfl ?_))))))
 rotate_left
 intro h7
 try rw [nnp] at h7
 try have hc : code.length ≤ 1048576 := by simp at h7; omega
 try have hxi := hxy (by assumption)
 try have hyi := hyy (by assumption)
 refine Eg rfl (Eg rfl (Eg rfl (Eg rfl (Ea (Eu rfl rfl) (Ea (Ef rfl) (Eg rfl (Eg rfl (Eg rfl (Eg rfl (Eg rfl (Ea (Eu rfl rfl) ?_)))))))))))
 refine Ed (Ec (Eb [3, 8, 9, 79] rfl (s_condT rfl (Ee (Eh (Ea (Ef rfl) (Ed (Ec (Eb [2] rfl (En (Ey ?_)))))))))))
 refine Ei rfl rfl ?_
 rotate_left
 intro h6
 try rw [nnp] at h6
 try have hc : code.length ≤ 1048576 := by simp at h6; omega
 try have hxi := hxy (by assumption)
 try have hyi := hyy (by assumption)
 refine Ee (Eh (Ea (Ev rfl rfl rfl) (Ea (Ev rfl rfl rfl) ?_)))
 first | refine Ew rfl rfl (c_210 x m hxs) ?_ | refine Fb rfl rfl (by simp) (c_210 x m hxs) rfl ?_
 refine Ea (o_not rfl) (Ed (Ec (Eb [3, 8, 9, 83] rfl ?_)))
 first | refine Et rfl ?_ ?_ | refine s_condN rfl ?_ ?_ | refine s_condNB rfl ?_ ?_ | refine Er rfl ?_ ?_
 intro h17
 try rw [nnp] at h17
 try have hc : code.length ≤ 1048576 := by simp at h17; omega
 try have hxi := hxy (by assumption)
 try have hyi := hyy (by assumption)
 refine Ee (Eh (Ea (Ef rfl) (Ed (Ec (Eb [2] rfl (En (Ey (Ei rfl rfl ?_))))))))
 rotate_left
 intro h17
 try rw [nnp] at h17
 try have hc : code.length ≤ 1048576 := by simp at h17; omega
 try have hxi := hxy (by assumption)
 try have hyi := hyy (by assumption)
 refine Fd (Ec (Eb [3, 8, 9] rfl (Ee (Ee (Eh (Ea (Ef rfl) (Ea (o_not rfl) (Ed (Ec (Eb [3, 8, 85] rfl ?_))))))))))
 first | refine Et rfl ?_ ?_ | refine s_condN rfl ?_ ?_ | refine s_condNB rfl ?_ ?_ | refine Er rfl ?_ ?_
 intro h18
 try rw [nnp] at h18
 try have hc : code.length ≤ 1048576 := by simp at h18; omega
 try have hxi := hxy (by assumption)
 try have hyi := hyy (by assumption)
 refine Ee (Eh (Ea (Ev rfl rfl rfl) (Ea (Ev rfl rfl rfl) ?_)))
 first | refine Ew rfl rfl (c_210 y m hys) ?_ | refine Fb rfl rfl (by simp) (c_210 y m hys) rfl ?_
 refine Ea (Ef rfl) (Ed (Ec (Eb [2] rfl (En (Ey (Ei rfl rfl ?_))))))
 rotate_left
 intro h18
 try rw [nnp] at h18
 try have hc : code.length ≤ 1048576 := by simp at h18; omega
 try have hxi := hxy (by assumption)
 try have hyi := hyy (by assumption)
 refine Fd (Ec (Eb [3, 8] rfl (Ee (Eh (Ea (Ek rfl) (Ea (Ep rfl rfl rfl) ?_))))))
 first | refine Ea (o_lenM rfl) ?_ | refine Ea (o_len rfl) ?_ | refine Ea (o_lenL rfl rfl rfl) ?_ | refine Ea (o_lenN rfl) ?_
 refine Ea (Ek rfl) (Ea (Ep rfl rfl rfl) ?_)
 first | refine Ea (o_lenM rfl) ?_ | refine Ea (o_len rfl) ?_ | refine Ea (o_lenL rfl rfl rfl) ?_ | refine Ea (o_lenN rfl) ?_
 refine Ea (o_eql rfl rfl) (Ea (Ef rfl) ?_)
 first | refine s_gDT rfl ?_ ?_ | refine s_gB rfl ?_ ?_
 intro h19
 try rw [nnp] at h19
 try have hc : code.length ≤ 1048576 := by simp at h19; omega
 try have hxi := hxy (by assumption)
 try have hyi := hyy (by assumption)
 refine Ea (Ek rfl) (Eo rfl (Ea (Ep rfl rfl rfl) (Eo rfl (Ea (Ek rfl) (Eo rfl (Ea (Ep rfl rfl rfl) (Eo rfl ?_)))))))
 first | refine Ea (o_addn rfl rfl (by omega)) ?_ | refine Ea (o_add rfl rfl) ?_
 refine Eo rfl (Ea (o_eql rfl rfl) (s_keepO (is := [3, 8, 96, 102]) rfl (Ea (Eu rfl rfl) (Ea (Ef rfl) ?_))))
 first | refine s_gDF rfl ?_ ?_ | refine s_gB rfl ?_ ?_
 intro h20
 try rw [nnp] at h20
 try have hc : code.length ≤ 1048576 := by simp at h20; omega
 try have hxi := hxy (by assumption)
 try have hyi := hyy (by assumption)
 refine Ea (Ek rfl) (Eo rfl (Ea (Ep rfl rfl rfl) (Eo rfl ?_)))
 first | refine Ea (o_lenM rfl) ?_ | refine Ea (o_len rfl) ?_ | refine Ea (o_lenL rfl rfl rfl) ?_ | refine Ea (o_lenN rfl) ?_
 refine Eo rfl (Ea (Ek rfl) (Eo rfl (Ea (Ep rfl rfl rfl) (Eo rfl ?_))))
 first | refine Ea (o_lenM rfl) ?_ | refine Ea (o_len rfl) ?_ | refine Ea (o_lenL rfl rfl rfl) ?_ | refine Ea (o_lenN rfl) ?_
 refine Eo rfl ?_
 first | refine Ea (o_subn rfl rfl (by omega)) ?_ | refine Ea (o_sub rfl rfl) ?_
 refine Eo rfl (Ea (o_eql rfl rfl) (Eo rfl (Ea (Ef rfl) ?_)))
 first | refine s_gDT rfl ?_ ?_ | refine s_gB rfl ?_ ?_
 intro h21
 try rw [nnp] at h21
 try have hc : code.length ≤ 1048576 := by simp at h21; omega
 try have hxi := hxy (by assumption)
 try have hyi := hyy (by assumption)
 refine Ea (Ek rfl) (Eo rfl (Ea (Ep rfl rfl rfl) (Eo rfl (Ea (o_eql rfl rfl) (s_keepO (is := [8, 104, 113, 116]) rfl (Eo rfl (Ea (Eu rfl rfl) (Eo rfl (Ea (Ef rfl) ?_)))))))))
 first | refine s_gDT rfl ?_ ?_ | refine s_gB rfl ?_ ?_
 intro h22
 try rw [nnp] at h22
 try have hc : code.length ≤ 1048576 := by simp at h22; omega
 try have hxi := hxy (by assumption)
 try have hyi := hyy (by assumption)
 refine Ea (Ek rfl) (Eo rfl (Ea (Ep rfl rfl rfl) (Eo rfl (Ea (o_eql rfl rfl) (Eo rfl (Ea (Eu rfl rfl) (Ea (Em rfl rfl) (Ea (Ef rfl) (Ed (Ec (Eb [2] rfl ?_)))))))))))
 refine En (Ei rfl rfl ?_)
 rotate_left
 intro h22
 try rw [nnp] at h22
 try have hc : code.length ≤ 1048576 := by simp at h22; omega
 try have hxi := hxy (by assumption)
 try have hyi := hyy (by assumption)
 refine Eg rfl (Eg rfl (Eg rfl (Eo rfl (Ea (Em rfl rfl) (Ea (Em rfl rfl) (Ea (Ef rfl) (Ed (Ec (Eb [2] rfl (En (Ei rfl rfl ?_)))))))))))
 rotate_left
 intro h21
 try rw [nnp] at h21
 try have hc : code.length ≤ 1048576 := by simp at h21; omega
 try have hxi := hxy (by assumption)
 try have hyi := hyy (by assumption)
 refine Eg rfl (Eg rfl (Eg rfl (s_keepO (is := [8, 104, 113, 116]) rfl (Eo rfl (Ea (Em rfl rfl) (Eo rfl (Ea (Ef rfl) (Eg rfl (Eg rfl (Eg rfl (Eo rfl ?_)))))))))))
 refine Ea (Em rfl rfl) (Ea (Em rfl rfl) (Ea (Ef rfl) (Ed (Ec (Eb [2] rfl (En (Ei rfl rfl ?_)))))))
 rotate_left
 intro h20
 try rw [nnp] at h20
 try have hc : code.length ≤ 1048576 := by simp at h20; omega
 try have hxi := hxy (by assumption)
 try have hyi := hyy (by assumption)
 iterate 9 refine Eg rfl ?_
 refine s_gN rfl (s_gN rfl (s_gN rfl (s_keepO (is := [8, 104, 113, 116]) rfl (Eg rfl (Eg rfl (s_gN rfl (s_gN rfl (s_gN rfl (Eg rfl (Ea (Eu rfl rfl) (Ea (Ef rfl) ?_)))))))))))
 refine Ed (Ec (Eb [2] rfl (En (Ei rfl rfl ?_))))
 rotate_left
 intro h19
 try rw [nnp] at h19
 try have hc : code.length ≤ 1048576 := by simp at h19; omega
 try have hxi := hxy (by assumption)
 try have hyi := hyy (by assumption)
 iterate 6 refine Eg rfl ?_
 refine s_keepO (is := [3, 8, 96, 102]) rfl (Ea (Em rfl rfl) (Ea (Ef rfl) (Eo rfl (Ea (Ek rfl) (Eo rfl (Ea (Ep rfl rfl rfl) (Eo rfl ?_)))))))
 first | refine Ea (o_lenM rfl) ?_ | refine Ea (o_len rfl) ?_ | refine Ea (o_lenL rfl rfl rfl) ?_ | refine Ea (o_lenN rfl) ?_
 refine Eo rfl (Ea (Ek rfl) (Eo rfl (Ea (Ep rfl rfl rfl) (Eo rfl ?_))))
 first | refine Ea (o_lenM rfl) ?_ | refine Ea (o_len rfl) ?_ | refine Ea (o_lenL rfl rfl rfl) ?_ | refine Ea (o_lenN rfl) ?_
 refine Eo rfl ?_
 first | refine Ea (o_subn rfl rfl (by omega)) ?_ | refine Ea (o_sub rfl rfl) ?_
 refine Eo rfl (Ea (o_eql rfl rfl) (Eo rfl (Ea (Ef rfl) ?_)))
 first | refine s_gDT rfl ?_ ?_ | refine s_gB rfl ?_ ?_
 intro h23
 try rw [nnp] at h23
 try have hc : code.length ≤ 1048576 := by simp at h23; omega
 try have hxi := hxy (by assumption)
 try have hyi := hyy (by assumption)
 refine Ea (Ek rfl) (Eo rfl (Ea (Ep rfl rfl rfl) (Eo rfl (Ea (o_eql rfl rfl) (s_keepO (is := [8, 104, 113, 116]) rfl (Eo rfl (Ea (Eu rfl rfl) (Eo rfl (Ea (Ef rfl) ?_)))))))))
 first | refine s_gDT rfl ?_ ?_ | refine s_gB rfl ?_ ?_
 intro h24
 try rw [nnp] at h24
 try have hc : code.length ≤ 1048576 := by simp at h24; omega
 try have hxi := hxy (by assumption)
 try have hyi := hyy (by assumption)
 refine Ea (Ek rfl) (Eo rfl (Ea (Ep rfl rfl rfl) (Eo rfl (Ea (o_eql rfl rfl) (Eo rfl (Ea (Eu rfl rfl) (Ea (Em rfl rfl) (Ea (Ef rfl) (Ed (Ec (Eb [2] rfl ?_)))))))))))
 refine En (Ei rfl rfl ?_)
 rotate_left
 intro h24
 try rw [nnp] at h24
 try have hc : code.length ≤ 1048576 := by simp at h24; omega
 try have hxi := hxy (by assumption)
 try have hyi := hyy (by assumption)
 refine Eg rfl (Eg rfl (Eg rfl (Eo rfl (Ea (Em rfl rfl) (Ea (Em rfl rfl) (Ea (Ef rfl) (Ed (Ec (Eb [2] rfl (En (Ei rfl rfl ?_)))))))))))
 rotate_left
 intro h23
 try rw [nnp] at h23
 try have hc : code.length ≤ 1048576 := by simp at h23; omega
 try have hxi := hxy (by assumption)
 try have hyi := hyy (by assumption)
 refine Eg rfl (Eg rfl (Eg rfl (s_keepO (is := [8, 104, 113, 116]) rfl (Eo rfl (Ea (Em rfl rfl) (Eo rfl (Ea (Ef rfl) (Eg rfl (Eg rfl (Eg rfl (Eo rfl ?_)))))))))))
 refine Ea (Em rfl rfl) (Ea (Em rfl rfl) (Ea (Ef rfl) (Ed (Ec (Eb [2] rfl (En (Ei rfl rfl ?_)))))))
 rotate_left
 intro h4
 try rw [nnp] at h4
 try have hc : code.length ≤ 1048576 := by simp at h4; omega
 try have hxi := hxy (by assumption)
 try have hyi := hyy (by assumption)
 refine Eg rfl (Eg rfl (Eg rfl (Eg rfl (Eg rfl (Ea (Eu rfl rfl) (Ed (Ec (Eb [3, 4, 5, 8, 9, 58] rfl (s_condT rfl (Ee (Eh ?_)))))))))))
 refine Ea (Ef rfl) (Ed (Ec (Eb [2] rfl (En (Ey (Ei rfl rfl ?_))))))
 rotate_left
 intro h3
 try rw [nnp] at h3
 try have hc : code.length ≤ 1048576 := by simp at h3; omega
 try have hxi := hxy (by assumption)
 try have hyi := hyy (by assumption)
 refine Eg rfl (Eg rfl (Eg rfl (Eg rfl (Ea (Eu rfl rfl) (s_keepO (is := [3, 4, 5, 8, 9, 51]) rfl (Ea (Ef rfl) (Eg rfl (Eg rfl (Eg rfl (Eg rfl (Eg rfl ?_)))))))))))
 refine Ea (Eu rfl rfl) (Ed (Ec (Eb [3, 4, 5, 8, 9, 58] rfl (s_condT rfl (Ee (Eh (Ea (Ef rfl) (Ed (Ec (Eb [2] rfl (En ?_)))))))))))
 refine Ey (Ei rfl rfl ?_)
 rotate_left
 intro h2
 try rw [nnp] at h2
 try have hc : code.length ≤ 1048576 := by simp at h2; omega
 try have hxi := hxy (by assumption)
 try have hyi := hyy (by assumption)
 refine Eg rfl (Eg rfl (Eg rfl (Ea (Eu rfl rfl) (Ea (Ef rfl) (Eg rfl (Eg rfl (Eg rfl (Eg rfl (Ea (Eu rfl rfl) (s_keepO (is := [3, 4, 5, 8, 9, 51]) rfl (Ea (Ef rfl) ?_)))))))))))
 refine Eg rfl (Eg rfl (Eg rfl (Eg rfl (Eg rfl (Ea (Eu rfl rfl) (Ed (Ec (Eb [3, 4, 5, 8, 9, 58] rfl (s_condT rfl (Ee (Eh ?_)))))))))))
 refine Ea (Ef rfl) (Ed (Ec (Eb [2] rfl (En (Ey (Ei rfl rfl ?_))))))
 rotate_left
 all_goals
  first | rfl | exact decide_eq_true (hyn (by assumption)) | exact decide_eq_true (hxn (by assumption)) | exact absurd (hyn (by assumption)) (by assumption) | exact absurd (hxn (by assumption)) (by assumption) | (exfalso; omega) | (refine decide_eq_true ?_; omega) | (exfalso; have hz := hxi.2; omega) | (clear hxy hyy hxn hyn hxb hyb; simp_all; done)
end Go.Proofs.Ytdialnejieoelaa.AL
