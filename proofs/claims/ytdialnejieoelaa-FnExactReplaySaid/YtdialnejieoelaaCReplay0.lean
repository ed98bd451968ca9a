/- What functions do with plain data, each by the form of its code. Printed by program. -/
import Derived.Test.YtdialnejieoelaaSpec0
import Derived.Test.YtdialnejieoelaaIrReplay
import Derived.Test.YtdialnejieoelaaVI
namespace Go.Proofs.Ytdialnejieoelaa.AL
open Go
set_option linter.unusedVariables false
set_option linter.unusedSimpArgs false
set_option maxRecDepth 4096
theorem c_230 (a b c : Int) : CV prg 230 [.w (.int .i64 a), .w (.int .i64 b), .w (.int .i64 c)] (fun res => res = .w (.bool (inB a b c))) := by
 refine cv_in g230 (Eb [0, 1, 2] rfl (Eg (Eh (Ea (Ee rfl) (Ef (Ed (Eb [0, 1, 2] rfl (Eg (Eh (Ea (Ee rfl) (Ea (Ee rfl) ?_)))))))))))
 refine Ea (o_geq rfl rfl) (Ea (Ee rfl) ?_)
 first | refine s_gDT rfl ?_ ?_ | refine s_gB rfl ?_ ?_
 intro h1
 try rw [nnp] at h1
 refine Ea (Ee rfl) (Ez rfl (Ea (Ee rfl) (Ez rfl (Ea (o_leq rfl rfl) (Ea (Er rfl rfl) (Ea (Ee rfl) (Ef (Ed (Eb [6] rfl (Ek (Fa rfl rfl ?_)))))))))))
 rotate_left
 intro h1
 try rw [nnp] at h1
 refine Ei rfl (Ei rfl (Ei rfl (Ea (Ej rfl rfl) (Ea (Ee rfl) (Ef (Ed (Eb [6] rfl (Ek (Fa rfl rfl ?_)))))))))
 rotate_left
 all_goals
  simp_all [inB] <;> omega
theorem c_103 (a b c : Int) : CV prg 103 [.w (.int .i64 a), .w (.int .i64 b), .w (.int .i64 c)] (fun res => res = .w (.bool (inB a b c))) := by
 refine cv_in g103 (Eb [0, 1, 2] rfl (Eg (Eh (Ea (Ee rfl) (Ef (Ed (Eb [0, 1, 2] rfl (Eg (Eh (Ea (Ee rfl) (Ea (Ee rfl) ?_)))))))))))
 refine Ea (o_leq rfl rfl) (Ea (Ee rfl) ?_)
 first | refine s_gDT rfl ?_ ?_ | refine s_gB rfl ?_ ?_
 intro h1
 try rw [nnp] at h1
 refine Ea (Ee rfl) (Ez rfl (Ea (Ee rfl) (Ez rfl (Ea (o_leq rfl rfl) (Ea (Er rfl rfl) (Ea (Ee rfl) (Ef (Ed (Eb [6] rfl (Ek (Fa rfl rfl ?_)))))))))))
 rotate_left
 intro h1
 try rw [nnp] at h1
 refine Ei rfl (Ei rfl (Ei rfl (Ea (Ej rfl rfl) (Ea (Ee rfl) (Ef (Ed (Eb [6] rfl (Ek (Fa rfl rfl ?_)))))))))
 rotate_left
 all_goals
  simp_all [inB] <;> omega
def Conf.small (x : Conf) : Prop := x.masters.length ≤ 1048576
def Conf.sz (x : Conf) : Nat := x.masters.length
theorem Conf.small_of {x : Conf} (h : x.sz ≤ 1048576) : x.small := by unfold Conf.small; unfold Conf.sz at h; omega
theorem c_130 (x y : Done) : CV prg 130 [.agg x.r, .agg y.r] (fun res => res = .w (.bool (decide (x = y)))) := by
 refine cv_in g130 (Eb [0, 1] rfl (Eg (Eh (Ea (o_box rfl rfl rfl) (Ea (o_box rfl rfl rfl) (Ea (Ee rfl) (Ef (Ed (Eb [2, 3] rfl (Eg (Eg ?_)))))))))))
 refine Eh (Ea (Ew rfl) (Ea (Fd rfl rfl rfl) (Ea (Ew rfl) (Ea (Fd rfl rfl rfl) (Ea (o_neq rfl rfl) (Ef (Ed (Eb [2, 3, 9] rfl ?_))))))))
 first | refine Eu rfl ?_ ?_ | refine Et rfl ?_ ?_
 intro h1
 try rw [nnp] at h1
 refine Eg (Eh (Ea (Ee rfl) (Ef (Ed (Eb [4] rfl (Ek (Ev (Fa rfl rfl ?_))))))))
 rotate_left
 intro h1
 try rw [nnp] at h1
 refine Fb (Ed (Eb [2, 3] rfl (Eg (Eg (Eh (Ea (Ew rfl) (Ea (Fd rfl rfl rfl) (Ea (Ew rfl) (Ea (Fd rfl rfl rfl) (Ea (o_neq rfl rfl) (Ef ?_)))))))))))
 refine Ed (Eb [2, 3, 14] rfl ?_)
 first | refine Eu rfl ?_ ?_ | refine Et rfl ?_ ?_
 intro h2
 try rw [nnp] at h2
 refine Eg (Eh (Ea (Ee rfl) (Ef (Ed (Eb [4] rfl (Ek (Ev (Fa rfl rfl ?_))))))))
 rotate_left
 intro h2
 try rw [nnp] at h2
 refine Fb (Ed (Eb [2, 3] rfl (Eg (Eg (Eh (Ea (Ew rfl) (Ea (Fd rfl rfl rfl) (Ea (Ew rfl) (Ea (Fd rfl rfl rfl) (Ea (o_eqb rfl rfl) (Ef ?_)))))))))))
 refine Ed (Eb [2, 3, 19] rfl ?_)
 first | refine s_condNB rfl ?_ ?_ | refine Et rfl ?_ ?_
 intro h3
 try rw [nnp] at h3
 refine Eg (Eh (Ea (Ee rfl) (Ef (Ed (Eb [4] rfl (Ek (Ev (Fa rfl rfl ?_))))))))
 rotate_left
 intro h3
 try rw [nnp] at h3
 refine Fb (Ed (Eb [2, 3] rfl (Eg (Eg (Eh (Ea (Ew rfl) (Ea (Fd rfl rfl rfl) (Ea (Ew rfl) (Ea (Fd rfl rfl rfl) (Ea (o_neq rfl rfl) (Ef ?_)))))))))))
 refine Ed (Eb [2, 3, 24] rfl ?_)
 first | refine Eu rfl ?_ ?_ | refine Et rfl ?_ ?_
 intro h4
 try rw [nnp] at h4
 refine Eg (Eh (Ea (Ee rfl) (Ef (Ed (Eb [4] rfl (Ek (Ev (Fa rfl rfl ?_))))))))
 rotate_left
 intro h4
 try rw [nnp] at h4
 refine Fb (Ed (Eb [2, 3] rfl (Eg (Eg (Eh (Ea (Ew rfl) (Ea (Fd rfl rfl rfl) (Ea (Ew rfl) (Ea (Fd rfl rfl rfl) (Ea (o_neq rfl rfl) (Ef ?_)))))))))))
 refine Ed (Eb [2, 3, 29] rfl ?_)
 first | refine Eu rfl ?_ ?_ | refine Et rfl ?_ ?_
 intro h5
 try rw [nnp] at h5
 refine Eg (Eh (Ea (Ee rfl) (Ef (Ed (Eb [4] rfl (Ek (Ev (Fa rfl rfl ?_))))))))
 rotate_left
 intro h5
 try rw [nnp] at h5
 refine Fb (Ed (Eb [2, 3] rfl (Eg (Eg (Eh (Ea (Ew rfl) (Ea (Fd rfl rfl rfl) (Ea (Ew rfl) (Ea (Fd rfl rfl rfl) (Ea (o_neq rfl rfl) (Ef ?_)))))))))))
 refine Ed (Eb [2, 3, 34] rfl ?_)
 first | refine Eu rfl ?_ ?_ | refine Et rfl ?_ ?_
 intro h6
 try rw [nnp] at h6
 refine Eg (Eh (Ea (Ee rfl) (Ef (Ed (Eb [4] rfl (Ek (Ev (Fa rfl rfl ?_))))))))
 rotate_left
 intro h6
 try rw [nnp] at h6
 refine Fb (Ed (Eb [2, 3] rfl (Eg (Eg (Eh (Ea (Ew rfl) (Ea (Fd rfl rfl rfl) (Ea (Ew rfl) (Ea (Fd rfl rfl rfl) (Ea (o_neq rfl rfl) (Ef ?_)))))))))))
 refine Ed (Eb [39] rfl ?_)
 first | refine Eu rfl ?_ ?_ | refine Et rfl ?_ ?_
 intro h7
 try rw [nnp] at h7
 refine Eg (Eh (Ea (Ee rfl) (Ef (Ed (Eb [4] rfl (Ek (Ev (Fa rfl rfl ?_))))))))
 rotate_left
 intro h7
 try rw [nnp] at h7
 refine Fb (Ed (Eb [] rfl (Eg (Eh (Ea (Ee rfl) (Ef (Ed (Eb [4] rfl (Ek (Fa rfl rfl ?_))))))))))
 rotate_left
 all_goals
  cases x; cases y; simp_all
theorem c_131 (xs ys : List Done) (hl : xs.length ≤ 1048576) : CV prg 131 [.sl 7 (xs.map Done.r), .sl 7 (ys.map Done.r)] (fun res => res = .w (.bool (decide (xs = ys)))) := by
 refine cv_in g131 (Eb [0, 1] rfl (Eg (Eh (Ea (Ee rfl) (Ef (Ed (Eb [0, 1] rfl (Eg (Eg (Eh (Ea (Ee rfl) ?_)))))))))))
 first | refine Ea (o_lenM rfl) ?_ | refine Ea (o_len rfl) ?_
 refine Ea (Ee rfl) ?_
 first | refine Ea (o_lenM rfl) ?_ | refine Ea (o_len rfl) ?_
 refine Ea (o_neq rfl rfl) (Ef (Ed (Eb [0, 1, 10] rfl ?_)))
 first | refine Eu rfl ?_ ?_ | refine Et rfl ?_ ?_
 intro h1
 try rw [nnp] at h1
 refine Eg (Eh (Ea (Ee rfl) (Ef (Ed (Eb [4] rfl (Ek (Ev (Fa rfl rfl ?_))))))))
 rotate_left
 intro h1
 try rw [nnp] at h1
 refine Fb (Ed (Eb [0, 1] rfl (Eg (Eg (Eh (Ea (Ee rfl) (Ef (Ed (Eb [0, 1, 5] rfl (S_block (S_loop0 (ι := Nat) (fun i => i ≤ xs.length ∧ xs.take i = ys.take i ∧ xs.length = ys.length) (fun i => [(5, .w (.int .i64 (i : Int)))]) (fun i => xs.length - i) 0 ⟨by simp, by simp, by omega⟩ rfl ⟨rfl, trivial⟩ (fun _ _ => rfl) rfl ?_)))))))))))
 intro i hi
 refine Eb [0, 1, 5] rfl (Eg (Eg (Eh (Ea (Ee rfl) (Ea (Ee rfl) ?_)))))
 first | refine Ea (o_lenM rfl) ?_ | refine Ea (o_len rfl) ?_
 refine Ea (o_lss rfl rfl) (Ef (Ed (Eb [0, 1, 5, 14] rfl ?_)))
 first | refine Eu rfl ?_ ?_ | refine Et rfl ?_ ?_
 intro h2
 try rw [nnp] at h2
 refine Fb (Ed (Eb [0, 1, 5] rfl (Eg (S_block (Eg (Eh (Ea (Ee rfl) (Ea (Ee rfl) (s_iaM rfl rfl (by omega) ?_)))))))))
 intro y3 e3
 try simp only [Int.toNat_natCast, Int.toNat_zero] at e3
 refine Ea (o_ldn rfl rfl) (Ea (Ee rfl) (Ea (Ee rfl) (s_iaM rfl rfl (by omega) ?_)))
 intro y4 e4
 try simp only [Int.toNat_natCast, Int.toNat_zero] at e4
 refine Ea (o_ldn rfl rfl) ?_
 first | refine Fc rfl rfl (c_130 _ _) ?_ | refine s_callL rfl rfl (by simp) (c_130 _ _) rfl ?_
 refine Ea (o_not rfl) (Ef (Ed (Eb [0, 1, 5, 26] rfl ?_)))
 first | refine Eu rfl ?_ ?_ | refine s_condN rfl ?_ ?_ | refine s_condNB rfl ?_ ?_ | refine Et rfl ?_ ?_
 intro h5
 try rw [nnp] at h5
 refine Eg (Eh (Ea (Ee rfl) (Ef (Ed (Eb [4] rfl (Ek (Ff (Ev (q_loopR (Ff (Ev ?_)))))))))))
 refine Fa rfl rfl ?_
 rotate_left
 intro h5
 try rw [nnp] at h5
 refine Fb (Fg (Ed (Eb [0, 1, 5] rfl (Eh (Ea (Ee rfl) ?_)))))
 first | refine Ea (o_addn rfl rfl (by omega)) ?_ | refine Ea (o_add rfl rfl) ?_
 refine Ea (Ee rfl) (Ef (q_loopN ?_))
 · refine ⟨i + 1, ⟨by omega, eq_take (by assumption) (by assumption) hi.2.1 ?_, hi.2.2⟩, by omega, hasOf ⟨rfl, trivial⟩ rfl⟩
   assumption
 intro h2
 try rw [nnp] at h2
 refine s_exit (q_seqX (q_loopX (q_blkH (Ed (Eb [] rfl (Eg (Eh (Ea (Ee rfl) (Ef (Ed (Eb [4] rfl ?_)))))))))))
 refine Ek (Fa rfl rfl ?_)
 rotate_left
 all_goals
  first | exact (decide_eq_false (ne_at (by assumption) (by assumption) (by assumption))).symm | exact (decide_eq_true (eq_end hi.2.1 (by omega) hi.2.2)).symm | exact (decide_eq_false (fun e => by subst e; simp_all)).symm
theorem c_161 (x : Done) : CV prg 161 [.agg x.r] (fun res => res = .agg x.r) := by
 refine cv_in g161 (Eb [0] rfl (Eg (Eh (Ea (o_box rfl rfl rfl) (Ea (o_new rfl rfl) (Ef (Ed (Eb [1, 2] rfl (Eg (Eh (Ea (o_new rfl rfl) ?_)))))))))))
 refine Ef (Ed (Eb [1, 2, 3] rfl (Eg (Eh (Ea (Ew rfl) (Ea (Fd rfl rfl rfl) (Ea (Ew rfl) (Ep (o_stC rfl rfl rfl rfl rfl rfl) (Ef (Ed (Eb [1, 2, 3] rfl ?_)))))))))))
 refine Eg (Eh (Ea (Ew rfl) (Ea (Fd rfl rfl rfl) (Ea (Ew rfl) (Ep (o_stC rfl rfl rfl rfl rfl rfl) (Ef (Ed (Eb [1, 2, 3] rfl (Eg (Eh (Ea (Ew rfl) ?_)))))))))))
 refine Ea (Fd rfl rfl rfl) (Ea (Ew rfl) (Ep (o_stC rfl rfl rfl rfl rfl rfl) (Ef (Ed (Eb [1, 2, 3] rfl (Eg (Eh (Ea (Ew rfl) (Ea (Fd rfl rfl rfl) (Ea (Ew rfl) (Ep (o_stC rfl rfl rfl rfl rfl rfl) ?_)))))))))))
 refine Ef (Ed (Eb [1, 2, 3] rfl (Eg (Eh (Ea (Ew rfl) (Ea (Fd rfl rfl rfl) (Ea (Ew rfl) (Ep (o_stC rfl rfl rfl rfl rfl rfl) (Ef (Ed (Eb [1, 2, 3] rfl ?_)))))))))))
 refine Eg (Eh (Ea (Ew rfl) (Ea (Fd rfl rfl rfl) (Ea (Ew rfl) (Ep (o_stC rfl rfl rfl rfl rfl rfl) (Ef (Ed (Eb [1, 2, 3] rfl (Eg (Eh (Ea (Ew rfl) ?_)))))))))))
 refine Ea (Fd rfl rfl rfl) (Ea (Ew rfl) (Ep (o_stC rfl rfl rfl rfl rfl rfl) (Ef (Ed (Eb [2, 3] rfl (Eg (Eh (Ea (Em rfl rfl rfl) (Ep (Eo rfl rfl rfl rfl rfl rfl rfl) (Ef (Ed ?_)))))))))))
 refine Eb [2] rfl (Ek (ret_leafR rfl rfl ?_))
 rotate_left
 all_goals
  rfl
theorem c_162 (xs : List Done) (hl : xs.length ≤ 1048576) : CV prg 162 [.sl 7 (xs.map Done.r)] (fun res => res = .sl 7 (xs.map Done.r)) := by
 refine cv_in g162 (Eb [0] rfl (Eg (Eh (Ea (Ee rfl) (Ef (Ed (Eb [0] rfl (Eg (Eh (Ea (Ee rfl) ?_))))))))))
 first | refine Ea (o_lenM rfl) ?_ | refine Ea (o_len rfl) ?_
 refine Ea (o_mk rfl rfl rfl rfl ⟨by omega, by unfold roomy; omega, by unfold roomy; omega⟩ rfl) (Ea (Ee rfl) (Ef (Ed (Eb [0, 3] rfl (Eg (Eg (Eh (Ea (Ee rfl) (Ef (Ed (Eb [0, 3, 4] rfl ?_)))))))))))
 refine S_block (S_loop (ι := Nat) (fun i => i ≤ xs.length) (fun i => [(4, .w (.int .i64 (i : Int)))]) (fun i => [.arr 7 (tabV Done.r [.w (.int .i64 0), .w (.int .i64 0), .w (.bool false), .w (.int .i64 0), .w (.int .i64 0), .w (.int .i64 0), .w (.int .i64 0)] xs i)]) (fun i => xs.length - i) 1 0 (by simp) rfl (hasOf ⟨rfl, trivial⟩ (by rw [tabV_zero]; rfl)) rfl (fun _ _ => rfl) (fun _ _ => ⟨rfl, rfl⟩) ?_)
 intro i hi
 refine Eb [0, 3, 4] rfl (Eg (Eg (Eh (Ea (Ee rfl) (Ea (Ee rfl) ?_)))))
 first | refine Ea (o_lenM rfl) ?_ | refine Ea (o_len rfl) ?_
 refine Ea (o_lss rfl rfl) (Ef (Ed (Eb [0, 3, 4, 11] rfl ?_)))
 first | refine Eu rfl ?_ ?_ | refine Et rfl ?_ ?_
 intro h1
 try rw [nnp] at h1
 refine Fb (Ed (Eb [0, 3, 4] rfl (Eg (S_block (Eh (Ea (Ee rfl) (Ea (Ee rfl) (Ea (Ee rfl) (Ea (Ee rfl) (s_iaM rfl rfl (by first | omega | (rw [List.length_replicate]; omega)) ?_))))))))))
 intro y2 e2
 try simp only [Int.toNat_natCast, Int.toNat_zero] at e2
 refine Ea (o_ldn rfl rfl) ?_
 first | refine Fc rfl rfl (c_161 _) ?_ | refine s_callL rfl rfl (by simp) (c_161 _) rfl ?_
 refine Ea (o_iaL rfl rfl (by rw [tabV_len _ _ _ _ (by omega), List.length_replicate]; rfl) rfl (by first | omega | (rw [List.length_replicate]; omega))) (Ep (o_stnA rfl rfl rfl rfl rfl (by rw [tabV_len _ _ _ _ (by omega), List.length_replicate]; rfl) (by rw [Int.toNat_natCast]; exact tabV_at _ _ (by omega)) rfl rfl) (Ef (Fg (Ed (Eb [0, 3, 4] rfl (Eh (Ea (Ee rfl) ?_)))))))
 first | refine Ea (o_addn rfl rfl (by omega)) ?_ | refine Ea (o_add rfl rfl) ?_
 refine Ea (Ee rfl) (Ef (q_loopN ?_))
 · refine ⟨i + 1, by omega, by omega, hasOf ⟨rfl, trivial⟩ ?_⟩
   rw [← tabV_set Done.r [.w (.int .i64 0), .w (.int .i64 0), .w (.bool false), .w (.int .i64 0), .w (.int .i64 0), .w (.int .i64 0), .w (.int .i64 0)] (by assumption)]; rfl
 intro h1
 try rw [nnp] at h1
 refine s_exit (q_seqX (q_loopX (q_blkH (Ed (Eb [3] rfl (Eg (Eh (Ea (Ee rfl) (Ea (Ee rfl) (Ef (Ed ?_)))))))))))
 refine Eb [2] rfl (Ek (ret_leafA (.inr rfl) rfl rfl (by rw [tabV_len _ _ _ _ (by omega), List.length_replicate]; rfl) ?_))
 rotate_left
 all_goals
  rw [tabV_end _ _ _ (by omega)]
theorem c_147 (xs : List Done) (left : Int) (h : -1 ≤ left ∧ left ≤ 1048576) (hl : xs.length ≤ 140737488355328) : CV prg 147 [.sl 7 (xs.map Done.r), .w (.int .i64 left)] (fun res => res = .w (.int .i64 (room left xs.length))) := by
 refine cv_in g147 (Eb [0, 1] rfl (Eg (Eh (Ea (Ee rfl) (Ef (Ed (Eb [0, 1] rfl (Eg (Eh (Ea (Ee rfl) (Ea (Ee rfl) ?_)))))))))))
 first | refine Ea (o_lenM rfl) ?_ | refine Ea (o_len rfl) ?_
 first | refine Ea (o_subn rfl rfl (by omega)) ?_ | refine Ea (o_sub rfl rfl) ?_
 refine Ea (Ee rfl) (Ef (Ed (Eb [1] rfl (Eg (Eg (Eh (Ea (Ee rfl) (Ea (o_lss rfl rfl) (Ef (Ed (Eb [1, 10] rfl ?_)))))))))))
 first | refine Eu rfl ?_ ?_ | refine Et rfl ?_ ?_
 intro h1
 try rw [nnp] at h1
 refine Eg (Eh (Ea (Ee rfl) (Ef (Ed (Eb [4] rfl (Ek (Ev (ret_leafIR rfl rfl ?_))))))))
 rotate_left
 intro h1
 try rw [nnp] at h1
 refine Fb (Ed (Eb [1] rfl (Eg (Eh (Ea (Ee rfl) (Ea (Ee rfl) (Ef (Ed (Eb [4] rfl (Ek (ret_leafIR rfl rfl ?_)))))))))))
 rotate_left
 all_goals
  (try unfold room); omega
def Done.beq (x y : Done) : Bool := ((x.cycle == y.cycle) && ((x.who == y.who) && ((x.write == y.write) && ((x.addr == y.addr) && ((x.size == y.size) && ((x.value == y.value) && ((x.resp == y.resp) && true)))))))
def folOk (p : Done × Done) : Bool := (p.1.write == p.2.write) && decide (p.1.addr = p.2.addr) && decide (p.1.size = p.2.size) && !(p.1.write && decide (p.1.resp = 0) && decide (p.1.value ≠ p.2.value))
def follows (l w : List Done) : Bool := decide (l.length ≤ w.length) && (l.zip w).all folOk
def Req.small (x : Req) : Prop := x.data.length ≤ 1048576
def Req.sz (x : Req) : Nat := x.data.length
theorem Req.small_of {x : Req} (h : x.sz ≤ 1048576) : x.small := by unfold Req.small; unfold Req.sz at h; omega
def Mst.small (x : Mst) : Prop := x.queue.length ≤ 1048576 ∧ (∀ y, y ∈ x.queue → Req.small y)
def Mst.sz (x : Mst) : Nat := x.queue.length + sumL Req.sz x.queue
theorem Mst.small_of {x : Mst} (h : x.sz ≤ 1048576) : x.small := ⟨by unfold Mst.sz at h; omega, fun y hy => Req.small_of (by have := sumL_mem Req.sz hy; unfold Mst.sz at h; omega)⟩
theorem c_132 (xs ys : List Int) (hl : xs.length ≤ 1048576) : CV prg 132 [.sl 1 (xs.map iR), .sl 1 (ys.map iR)] (fun res => res = .w (.bool (decide (xs = ys)))) := by
 refine cv_in g132 (Eb [0, 1] rfl (Eg (Eh (Ea (Ee rfl) (Ef (Ed (Eb [0, 1] rfl (Eg (Eg (Eh (Ea (Ee rfl) ?_)))))))))))
 first | refine Ea (o_lenM rfl) ?_ | refine Ea (o_len rfl) ?_
 refine Ea (Ee rfl) ?_
 first | refine Ea (o_lenM rfl) ?_ | refine Ea (o_len rfl) ?_
 refine Ea (o_neq rfl rfl) (Ef (Ed (Eb [0, 1, 10] rfl ?_)))
 first | refine Eu rfl ?_ ?_ | refine Et rfl ?_ ?_
 intro h1
 try rw [nnp] at h1
 refine Eg (Eh (Ea (Ee rfl) (Ef (Ed (Eb [4] rfl (Ek (Ev (Fa rfl rfl ?_))))))))
 rotate_left
 intro h1
 try rw [nnp] at h1
 refine Fb (Ed (Eb [0, 1] rfl (Eg (Eg (Eh (Ea (Ee rfl) (Ef (Ed (Eb [0, 1, 5] rfl (S_block (S_loop0 (ι := Nat) (fun i => i ≤ xs.length ∧ xs.take i = ys.take i ∧ xs.length = ys.length) (fun i => [(5, .w (.int .i64 (i : Int)))]) (fun i => xs.length - i) 0 ⟨by simp, by simp, by omega⟩ rfl ⟨rfl, trivial⟩ (fun _ _ => rfl) rfl ?_)))))))))))
 intro i hi
 refine Eb [0, 1, 5] rfl (Eg (Eg (Eh (Ea (Ee rfl) (Ea (Ee rfl) ?_)))))
 first | refine Ea (o_lenM rfl) ?_ | refine Ea (o_len rfl) ?_
 refine Ea (o_lss rfl rfl) (Ef (Ed (Eb [0, 1, 5, 14] rfl ?_)))
 first | refine Eu rfl ?_ ?_ | refine Et rfl ?_ ?_
 intro h2
 try rw [nnp] at h2
 refine Fb (Ed (Eb [0, 1, 5] rfl (Eg (S_block (Eg (Eh (Ea (Ee rfl) (Ea (Ee rfl) (s_iaM rfl rfl (by omega) ?_)))))))))
 intro y3 e3
 try simp only [Int.toNat_natCast, Int.toNat_zero] at e3
 refine Ea (o_ld rfl rfl) (Ea (Ee rfl) (Ea (Ee rfl) (s_iaM rfl rfl (by omega) ?_)))
 intro y4 e4
 try simp only [Int.toNat_natCast, Int.toNat_zero] at e4
 refine Ea (o_ld rfl rfl) (Ea (o_neq rfl rfl) (Ef (Ed (Eb [0, 1, 5, 25] rfl ?_))))
 first | refine Eu rfl ?_ ?_ | refine Et rfl ?_ ?_
 intro h5
 try rw [nnp] at h5
 refine Eg (Eh (Ea (Ee rfl) (Ef (Ed (Eb [4] rfl (Ek (Ff (Ev (q_loopR (Ff (Ev ?_)))))))))))
 refine Fa rfl rfl ?_
 rotate_left
 intro h5
 try rw [nnp] at h5
 refine Fb (Fg (Ed (Eb [0, 1, 5] rfl (Eh (Ea (Ee rfl) ?_)))))
 first | refine Ea (o_addn rfl rfl (by omega)) ?_ | refine Ea (o_add rfl rfl) ?_
 refine Ea (Ee rfl) (Ef (q_loopN ?_))
 · refine ⟨i + 1, ⟨by omega, eq_take (by assumption) (by assumption) hi.2.1 ?_, hi.2.2⟩, by omega, hasOf ⟨rfl, trivial⟩ rfl⟩
   assumption
 intro h2
 try rw [nnp] at h2
 refine s_exit (q_seqX (q_loopX (q_blkH (Ed (Eb [] rfl (Eg (Eh (Ea (Ee rfl) (Ef (Ed (Eb [4] rfl ?_)))))))))))
 refine Ek (Fa rfl rfl ?_)
 rotate_left
 all_goals
  first | exact (decide_eq_false (ne_at (by assumption) (by assumption) (by assumption))).symm | exact (decide_eq_true (eq_end hi.2.1 (by omega) hi.2.2)).symm | exact (decide_eq_false (fun e => by subst e; simp_all)).symm
def roundStep (c : Conf) (s : Int) (i : Nat) : Int := IntKind.wrap .i64 (s + IntKind.wrap .i64 (c.turn i * c.slot))
def Conf.round (c : Conf) : Int := if c.ok then (List.range c.masters.length).foldl (roundStep c) (IntKind.wrap .i64 (c.cost * c.masters.length)) else 0
def Conf.bound (c : Conf) (beats : Int) : Int := if c.ok && inB beats 1 8 then
 IntKind.wrap .i64 (IntKind.wrap .i64 (IntKind.wrap .i64 (2 * IntKind.wrap .i64 (IntKind.wrap .i64 (beats * IntKind.wrap .i64 (IntKind.wrap .i64 (IntKind.wrap .i64 (2 * c.round) + c.maxSplit) + c.cost)) + c.caps)) + IntKind.wrap .i64 (2 * c.slot)) + 10) else 0
def Wrr.back (w : Wrr) (c : Conf) (who : Int) : Wrr := if w.ok c && decide (who = w.pos) then { w with credit := min (IntKind.wrap .i64 (w.credit + 1)) (c.turn who) } else w
def Post.small (x : Post) : Prop := x.req.small
def Post.sz (x : Post) : Nat := x.req.sz
theorem Post.small_of {x : Post} (h : x.sz ≤ 1048576) : x.small := Req.small_of (by unfold Post.sz at h; omega)
def Script.small (x : Script) : Prop := x.posts.length ≤ 1048576 ∧ (∀ y, y ∈ x.posts → Post.small y) ∧ x.waits.length ≤ 1048576 ∧ x.says.length ≤ 1048576
def Script.sz (x : Script) : Nat := x.posts.length + sumL Post.sz x.posts + x.waits.length + x.says.length
theorem Script.small_of {x : Script} (h : x.sz ≤ 1048576) : x.small := ⟨by unfold Script.sz at h; omega, fun y hy => Post.small_of (by have := sumL_mem Post.sz hy; unfold Script.sz at h; omega), by unfold Script.sz at h; omega, by unfold Script.sz at h; omega⟩
def Dev.small (x : Dev) : Prop := x.regs.length ≤ 1048576 ∧ x.fifo.length ≤ 1048576
def Dev.sz (x : Dev) : Nat := x.regs.length + x.fifo.length
theorem Dev.small_of {x : Dev} (h : x.sz ≤ 1048576) : x.small := ⟨by unfold Dev.sz at h; omega, by unfold Dev.sz at h; omega⟩
def Model.small (x : Model) : Prop := x.ram.length ≤ 1048576 ∧ x.dev.small
def Model.sz (x : Model) : Nat := x.ram.length + x.dev.sz
theorem Model.small_of {x : Model} (h : x.sz ≤ 1048576) : x.small := ⟨by unfold Model.sz at h; omega, Dev.small_of (by unfold Model.sz at h; omega)⟩
theorem c_129 (x y : Dev) (hs : x.small) : CV prg 129 [.agg x.r, .agg y.r] (fun res => res = .w (.bool (decide (x = y)))) := by
 refine cv_in g129 (Eb [0, 1] rfl (Eg (Eh (Ea (o_box rfl rfl rfl) (Ea (o_box rfl rfl rfl) (Ea (Ee rfl) (Ef (Ed (Eb [2, 3] rfl (Eg (Eg ?_)))))))))))
 refine Eh (Ea (Ew rfl) (Ea (Fd rfl rfl rfl) (Ea (Ew rfl) (Ea (Fd rfl rfl rfl) ?_))))
 first | refine Fc rfl rfl (by first | exact (c_132 _ _ hs.1) | exact (c_132 _ _ hs.2)) ?_ | refine s_callL rfl rfl (by simp) (by first | exact (c_132 _ _ hs.1) | exact (c_132 _ _ hs.2)) rfl ?_
 refine Ea (o_not rfl) (Ef (Ed (Eb [2, 3, 10] rfl ?_)))
 first | refine Eu rfl ?_ ?_ | refine s_condN rfl ?_ ?_ | refine s_condNB rfl ?_ ?_ | refine Et rfl ?_ ?_
 intro h1
 try rw [nnp] at h1
 refine Eg (Eh (Ea (Ee rfl) (Ef (Ed (Eb [4] rfl (Ek (Ev (Fa rfl rfl ?_))))))))
 rotate_left
 intro h1
 try rw [nnp] at h1
 refine Fb (Ed (Eb [2, 3] rfl (Eg (Eg (Eh (Ea (Ew rfl) (Ea (Fd rfl rfl rfl) (Ea (Ew rfl) (Ea (Fd rfl rfl rfl) (Ea (o_neq rfl rfl) (Ef ?_)))))))))))
 refine Ed (Eb [2, 3, 15] rfl ?_)
 first | refine Eu rfl ?_ ?_ | refine Et rfl ?_ ?_
 intro h2
 try rw [nnp] at h2
 refine Eg (Eh (Ea (Ee rfl) (Ef (Ed (Eb [4] rfl (Ek (Ev (Fa rfl rfl ?_))))))))
 rotate_left
 intro h2
 try rw [nnp] at h2
 refine Fb (Ed (Eb [2, 3] rfl (Eg (Eg (Eh (Ea (Ew rfl) (Ea (Fd rfl rfl rfl) (Ea (Ew rfl) (Ea (Fd rfl rfl rfl) ?_)))))))))
 first | refine Fc rfl rfl (by first | exact (c_132 _ _ hs.1) | exact (c_132 _ _ hs.2)) ?_ | refine s_callL rfl rfl (by simp) (by first | exact (c_132 _ _ hs.1) | exact (c_132 _ _ hs.2)) rfl ?_
 refine Ea (o_not rfl) (Ef (Ed (Eb [21] rfl ?_)))
 first | refine Eu rfl ?_ ?_ | refine s_condN rfl ?_ ?_ | refine s_condNB rfl ?_ ?_ | refine Et rfl ?_ ?_
 intro h3
 try rw [nnp] at h3
 refine Eg (Eh (Ea (Ee rfl) (Ef (Ed (Eb [4] rfl (Ek (Ev (Fa rfl rfl ?_))))))))
 rotate_left
 intro h3
 try rw [nnp] at h3
 refine Fb (Ed (Eb [] rfl (Eg (Eh (Ea (Ee rfl) (Ef (Ed (Eb [4] rfl (Ek (Fa rfl rfl ?_))))))))))
 rotate_left
 all_goals
  cases x; cases y; simp_all
theorem c_135 (x y : Model) (hs : x.small) : CV prg 135 [.agg x.r, .agg y.r] (fun res => res = .w (.bool (decide (x = y)))) := by
 refine cv_in g135 (Eb [0, 1] rfl (Eg (Eh (Ea (o_box rfl rfl rfl) (Ea (o_box rfl rfl rfl) (Ea (Ee rfl) (Ef (Ed (Eb [2, 3] rfl (Eg (Eg ?_)))))))))))
 refine Eh (Ea (Ew rfl) (Ea (Fd rfl rfl rfl) (Ea (Ew rfl) (Ea (Fd rfl rfl rfl) ?_))))
 first | refine Fc rfl rfl (c_132 _ _ hs.1) ?_ | refine s_callL rfl rfl (by simp) (c_132 _ _ hs.1) rfl ?_
 refine Ea (o_not rfl) (Ef (Ed (Eb [2, 3, 10] rfl ?_)))
 first | refine Eu rfl ?_ ?_ | refine s_condN rfl ?_ ?_ | refine s_condNB rfl ?_ ?_ | refine Et rfl ?_ ?_
 intro h1
 try rw [nnp] at h1
 refine Eg (Eh (Ea (Ee rfl) (Ef (Ed (Eb [4] rfl (Ek (Ev (Fa rfl rfl ?_))))))))
 rotate_left
 intro h1
 try rw [nnp] at h1
 refine Fb (Ed (Eb [2, 3] rfl (Eg (Eg (Eh (Ea (Ew rfl) (Ea (Em rfl rfl rfl) (Ea (Ew rfl) (Ea (Em rfl rfl rfl) ?_)))))))))
 first | refine Fc rfl rfl (c_129 _ _ hs.2) ?_ | refine s_callL rfl rfl (by simp) (c_129 _ _ hs.2) rfl ?_
 refine Ea (o_not rfl) (Ef (Ed (Eb [16] rfl ?_)))
 first | refine Eu rfl ?_ ?_ | refine s_condN rfl ?_ ?_ | refine s_condNB rfl ?_ ?_ | refine Et rfl ?_ ?_
 intro h2
 try rw [nnp] at h2
 refine Eg (Eh (Ea (Ee rfl) (Ef (Ed (Eb [4] rfl (Ek (Ev (Fa rfl rfl ?_))))))))
 rotate_left
 intro h2
 try rw [nnp] at h2
 refine Fb (Ed (Eb [] rfl (Eg (Eh (Ea (Ee rfl) (Ef (Ed (Eb [4] rfl (Ek (Fa rfl rfl ?_))))))))))
 rotate_left
 all_goals
  cases x; cases y; simp_all
def Bus.small (x : Bus) : Prop := x.conf.small ∧ x.ms.length ≤ 1048576 ∧ (∀ y, y ∈ x.ms → Mst.small y) ∧ x.buckets.length ≤ 1048576 ∧ x.splits.length ≤ 1048576 ∧ x.model.small ∧ x.log.length ≤ 1048576
def Bus.sz (x : Bus) : Nat := x.conf.sz + x.ms.length + sumL Mst.sz x.ms + x.buckets.length + x.splits.length + x.model.sz + x.log.length
theorem Bus.small_of {x : Bus} (h : x.sz ≤ 1048576) : x.small := ⟨Conf.small_of (by unfold Bus.sz at h; omega), by unfold Bus.sz at h; omega, fun y hy => Mst.small_of (by have := sumL_mem Mst.sz hy; unfold Bus.sz at h; omega), by unfold Bus.sz at h; omega, by unfold Bus.sz at h; omega, Model.small_of (by unfold Bus.sz at h; omega), by unfold Bus.sz at h; omega⟩
def MConf.beq (x y : MConf) : Bool := ((x.weight == y.weight) && ((x.prio == y.prio) && ((x.every == y.every) && ((x.cap == y.cap) && true))))
def Bucket.beq (x y : Bucket) : Bool := ((x.tokens == y.tokens) && ((x.count == y.count) && true))
def Beat.beq (x y : Beat) : Bool := ((x.live == y.live) && ((x.who == y.who) && ((x.num == y.num) && ((x.first == y.first) && ((x.via == y.via) && ((x.left == y.left) && ((x.resp == y.resp) && ((x.second == y.second) && true))))))))
def Wrr.beq (x y : Wrr) : Bool := ((x.pos == y.pos) && ((x.credit == y.credit) && true))
structure Bus.parts (x y : Bus) : Prop where
 conf : x.conf = y.conf
 now : x.now = y.now
 ms : x.ms = y.ms
 arb : x.arb = y.arb
 buckets : x.buckets = y.buckets
 splits : x.splits = y.splits
 holder : x.holder = y.holder
 kept : x.kept = y.kept
 last : x.last = y.last
 addr : x.addr = y.addr
 data : x.data = y.data
 model : x.model = y.model
 picks : x.picks = y.picks
 log : x.log = y.log
def bytes (size : Int) : Int := if inB size 0 2 then (if size = 0 then 1 else if size = 1 then 2 else 4) else 0
def limit (size : Int) : Int := if inB size 0 2 then (if size = 0 then 256 else if size = 1 then 65536 else 4294967296) else 0
def beatsN (b : Int) : Int := if b = 0 then 1 else if b = 3 then 8 else 4
def beats (b : Int) : Int := if inB b 0 3 then beatsN b else 0
theorem in3 {x : Int} (h : inB x 0 2 = true) : x = 0 ∨ x = 1 ∨ x = 2 := by have := inB_t h; omega
theorem bytes_leaf {x : Int} (h : inB x 0 2 = true) : IntKind.wrap .i64 (1 * 2 ^ (min x.toNat IntKind.i64.bits)) = bytes x := by
 unfold bytes; rw [if_pos h]; rcases in3 h with rfl | rfl | rfl <;> decide
theorem bytes_pos {x : Int} (h : inB x 0 2 = true) : bytes x = 1 ∨ bytes x = 2 ∨ bytes x = 4 := by
 unfold bytes; rw [if_pos h]; rcases in3 h with rfl | rfl | rfl <;> simp
theorem bytes_no {x : Int} (h : inB x 0 2 = false) : bytes x = 0 := by unfold bytes; rw [if_neg (by simp [h])]
theorem bytes_z {x : Int} : bytes x = 0 ∧ inB x 0 2 = false ∨ inB x 0 2 = true ∧ (bytes x = 1 ∨ bytes x = 2 ∨ bytes x = 4) := by
 cases h : inB x 0 2 with
 | false => exact .inl ⟨bytes_no h, rfl⟩
 | true => exact .inr ⟨rfl, bytes_pos h⟩
theorem limit_leaf {x : Int} (h : ¬ bytes x = 0) : IntKind.wrap .i64 (1 * 2 ^ (min (IntKind.wrap .i64 (8 * bytes x)).toNat IntKind.i64.bits)) = limit x := by
 rcases bytes_z (x := x) with ⟨h1, _⟩ | ⟨h1, _⟩
 · exact absurd h1 h
 · unfold limit bytes; rw [if_pos h1, if_pos h1]; rcases in3 h1 with rfl | rfl | rfl <;> decide
theorem limit_no {x : Int} (h : bytes x = 0) : limit x = 0 := by
 rcases bytes_z (x := x) with ⟨_, h1⟩ | ⟨_, h1⟩
 · unfold limit; rw [if_neg (by simp [h1])]
 · omega
theorem limit_bd (x : Int) : 0 ≤ limit x ∧ limit x ≤ 4294967296 := by
 unfold limit
 split
 · rename_i h; rcases in3 h with rfl | rfl | rfl <;> simp
 · simp
def aligned (a size : Int) : Bool := inB size 0 2 && decide (0 ≤ a) && decide (a.tmod (bytes size) = 0)
def nextA (a size burst : Int) : Int :=
 if aligned a size && decide (a < 512) && decide (beats burst ≠ 0) then
  (if burst = 2 ∧ (a + bytes size).tmod (4 * bytes size) = 0 then a + bytes size - 4 * bytes size else a + bytes size)
 else -1
theorem c_33 (size : Int) : CV prg 33 [.w (.int .i64 size)] (fun res => res = .w (.int .i64 (bytes size))) := by
 refine cv_in g33 (Eb [0] rfl (Eg (Eh (Ea (Ee rfl) (Ef (Ed (Eb [0] rfl (Eg (Eg (Eh (Ea (Ee rfl) ?_)))))))))))
 refine Fc rfl rfl (c_103 ..) (Ea (o_not rfl) (Ef (Ed (Eb [0, 5] rfl ?_))))
 first | refine Eu rfl ?_ ?_ | refine s_condN rfl ?_ ?_ | refine s_condNB rfl ?_ ?_ | refine Et rfl ?_ ?_
 intro h1
 try rw [nnp] at h1
 try have h1' := inB_t h1
 refine Eg (Eh (Ea (Ee rfl) (Ef (Ed (Eb [2] rfl (Ek (Ev (ret_leafIR rfl rfl ?_))))))))
 rotate_left
 intro h1
 try rw [nnp] at h1
 try have h1' := inB_t h1
 refine Fb (Ed (Eb [0] rfl (Eg (Eh (Ea (Ee rfl) (Ea (o_shl rfl rfl (by omega)) (Ea (Ee rfl) (Ef (Ed (Eb [2] rfl (Ek ?_)))))))))))
 refine ret_leafIR rfl rfl ?_
 rotate_left
 all_goals
  first | exact bytes_leaf (by assumption) | exact (bytes_no (by assumption)).symm
theorem c_183 (size : Int) : CV prg 183 [.w (.int .i64 size)] (fun res => res = .w (.int .i64 (bytes size))) := by
 refine cv_in g183 (Eb [0] rfl (Eg (Eh (Ea (Ee rfl) (Ef (Ed (Eb [0] rfl (Eg (Eg (Eh (Ea (Ee rfl) ?_)))))))))))
 refine Fc rfl rfl (c_230 ..) (Ea (o_not rfl) (Ef (Ed (Eb [0, 5] rfl ?_))))
 first | refine Eu rfl ?_ ?_ | refine s_condN rfl ?_ ?_ | refine s_condNB rfl ?_ ?_ | refine Et rfl ?_ ?_
 intro h1
 try rw [nnp] at h1
 try have h1' := inB_t h1
 refine Eg (Eh (Ea (Ee rfl) (Ef (Ed (Eb [2] rfl (Ek (Ev (ret_leafIR rfl rfl ?_))))))))
 rotate_left
 intro h1
 try rw [nnp] at h1
 try have h1' := inB_t h1
 refine Fb (Ed (Eb [0] rfl (Eg (Eh (Ea (Ee rfl) (Ea (o_shl rfl rfl (by omega)) (Ea (Ee rfl) (Ef (Ed (Eb [2] rfl (Ek ?_)))))))))))
 refine ret_leafIR rfl rfl ?_
 rotate_left
 all_goals
  first | exact bytes_leaf (by assumption) | exact (bytes_no (by assumption)).symm
theorem c_51 (size : Int) : CV prg 51 [.w (.int .i64 size)] (fun res => res = .w (.int .i64 (limit size))) := by
 have hz := bytes_z (x := size)
 refine cv_in g51 (Eb [0] rfl (Eg (Eh (Ea (Ee rfl) (Ef (Ed (Eb [0] rfl (Eg (Eg (Eh (Ea (Ee rfl) ?_)))))))))))
 refine Fc rfl rfl (c_33 ..) (Ea (o_eql rfl rfl) (Ef (Ed (Eb [0, 5] rfl ?_))))
 first | refine Eu rfl ?_ ?_ | refine Et rfl ?_ ?_
 intro h1
 try rw [nnp] at h1
 refine Eg (Eh (Ea (Ee rfl) (Ef (Ed (Eb [2] rfl (Ek (Ev (ret_leafIR rfl rfl ?_))))))))
 rotate_left
 intro h1
 try rw [nnp] at h1
 refine Fb (Ed (Eb [0] rfl (Eg (Eh (Ea (Ee rfl) (Fc rfl rfl (c_33 ..) (Ea (o_mul rfl rfl) (Ea (o_shl rfl rfl (by rw [wrap_in _ (by omega)]; omega)) (Ea (Ee rfl) (Ef (Ed ?_)))))))))))
 refine Eb [2] rfl (Ek (ret_leafIR rfl rfl ?_))
 rotate_left
 all_goals
  first | exact limit_leaf (by assumption) | exact (limit_no (by assumption)).symm
theorem c_201 (size : Int) : CV prg 201 [.w (.int .i64 size)] (fun res => res = .w (.int .i64 (limit size))) := by
 have hz := bytes_z (x := size)
 refine cv_in g201 (Eb [0] rfl (Eg (Eh (Ea (Ee rfl) (Ef (Ed (Eb [0] rfl (Eg (Eg (Eh (Ea (Ee rfl) ?_)))))))))))
 refine Fc rfl rfl (c_183 ..) (Ea (o_eql rfl rfl) (Ef (Ed (Eb [0, 5] rfl ?_))))
 first | refine Eu rfl ?_ ?_ | refine Et rfl ?_ ?_
 intro h1
 try rw [nnp] at h1
 refine Eg (Eh (Ea (Ee rfl) (Ef (Ed (Eb [2] rfl (Ek (Ev (ret_leafIR rfl rfl ?_))))))))
 rotate_left
 intro h1
 try rw [nnp] at h1
 refine Fb (Ed (Eb [0] rfl (Eg (Eh (Ea (Ee rfl) (Fc rfl rfl (c_183 ..) (Ea (o_mul rfl rfl) (Ea (o_shl rfl rfl (by rw [wrap_in _ (by omega)]; omega)) (Ea (Ee rfl) (Ef (Ed ?_)))))))))))
 refine Eb [2] rfl (Ek (ret_leafIR rfl rfl ?_))
 rotate_left
 all_goals
  first | exact limit_leaf (by assumption) | exact (limit_no (by assumption)).symm
theorem c_92 (v size : Int) : CV prg 92 [.w (.int .i64 v), .w (.int .i64 size)] (fun res => res = .w (.bool (inB v 0 (limit size - 1)))) := by
 have hz := limit_bd size
 refine cv_in g92 (Eb [0, 1] rfl (Eg (Eh (Ea (Ee rfl) (Ef (Ed (Eb [0, 1] rfl (Eg (Eh (Ea (Ee rfl) (Ea (Ee rfl) ?_)))))))))))
 refine Fc rfl rfl (c_51 ..) ?_
 first | refine Ea (o_subn rfl rfl (by omega)) ?_ | refine Ea (o_sub rfl rfl) ?_
 refine Fc rfl rfl (c_103 ..) (Ea (Ee rfl) (Ef (Ed (Eb [4] rfl (Ek (Fa rfl rfl ?_))))))
 rotate_left
 all_goals
  rfl
theorem c_21 (a size : Int) : CV prg 21 [.w (.int .i64 a), .w (.int .i64 size)] (fun res => res = .w (.bool (aligned a size))) := by
 have hz := bytes_z (x := size)
 refine cv_in g21 (Eb [0, 1] rfl (Eg (Eh (Ea (Ee rfl) (Ef (Ed (Eb [0, 1] rfl (Eg (Eh (Ea (Ee rfl) (Fc rfl rfl (c_103 ..) ?_)))))))))))
 refine Ea (Ee rfl) ?_
 first | refine s_gDT rfl ?_ ?_ | refine s_gNDT rfl ?_ ?_ | refine s_gNT rfl ?_ ?_ | refine s_gB rfl ?_ ?_
 intro h1
 try rw [nnp] at h1
 try (have h1' := hz; rw [h1] at h1'; simp at h1')
 refine Ea (Ee rfl) (Ez rfl (Ea (o_geq rfl rfl) (Ea (Er rfl rfl) (Ea (Ee rfl) ?_))))
 first | refine s_gDT rfl ?_ ?_ | refine s_gB rfl ?_ ?_
 intro h2
 try rw [nnp] at h2
 try (have h2' := hz; rw [h2] at h2'; simp at h2')
 refine Ea (Ee rfl) (Ez rfl (Ea (Ee rfl) (Ez rfl (Fc rfl rfl (c_33 ..) (Ez rfl ?_)))))
 first | refine Ea (o_rem rfl rfl (by decide)) ?_ | refine Ea (o_rem rfl rfl (by omega)) ?_
 refine Ez rfl (Ea (o_eql rfl rfl) (Ea (Er rfl rfl) (Ea (Ee rfl) (Ef (Ed (Eb [4] rfl (Ek (Fa rfl rfl ?_))))))))
 rotate_left
 intro h2
 try rw [nnp] at h2
 try (have h2' := hz; rw [h2] at h2'; simp at h2')
 refine Ei rfl (Ei rfl (Ei rfl (Ei rfl (Ei rfl (Ea (Ej rfl rfl) (Ea (Ee rfl) (Ef (Ed (Eb [4] rfl (Ek (Fa rfl rfl ?_)))))))))))
 rotate_left
 intro h1
 try rw [nnp] at h1
 try (have h1' := hz; rw [h1] at h1'; simp at h1')
 refine Ei rfl (Ei rfl (Ea (Ej rfl rfl) (Ea (Ee rfl) (Ei rfl (Ei rfl (Ei rfl (Ei rfl (Ei rfl (Ea (Ej rfl rfl) (Ea (Ee rfl) (Ef ?_)))))))))))
 refine Ed (Eb [4] rfl (Ek (Fa rfl rfl ?_)))
 rotate_left
 all_goals
  first | (simp_all [aligned]; done) | (simp_all [aligned] <;> omega)
theorem c_172 (a size : Int) : CV prg 172 [.w (.int .i64 a), .w (.int .i64 size)] (fun res => res = .w (.bool (aligned a size))) := by
 have hz := bytes_z (x := size)
 refine cv_in g172 (Eb [0, 1] rfl (Eg (Eh (Ea (Ee rfl) (Ef (Ed (Eb [0, 1] rfl (Eg (Eh (Ea (Ee rfl) (Fc rfl rfl (c_183 ..) ?_)))))))))))
 refine Ea (o_gtr rfl rfl) (Ea (Ee rfl) ?_)
 first | refine s_gDT rfl ?_ ?_ | refine s_gB rfl ?_ ?_
 intro h1
 try rw [nnp] at h1
 refine Ea (Ee rfl) (Ez rfl (Ea (o_geq rfl rfl) (Ea (Er rfl rfl) (Ea (Ee rfl) ?_))))
 first | refine s_gDT rfl ?_ ?_ | refine s_gB rfl ?_ ?_
 intro h2
 try rw [nnp] at h2
 refine Ea (Ee rfl) (Ez rfl (Ea (Ee rfl) (Ez rfl (Fc rfl rfl (c_183 ..) (Ez rfl ?_)))))
 first | refine Ea (o_rem rfl rfl (by decide)) ?_ | refine Ea (o_rem rfl rfl (by omega)) ?_
 refine Ez rfl (Ea (o_eql rfl rfl) (Ea (Er rfl rfl) (Ea (Ee rfl) (Ef (Ed (Eb [4] rfl (Ek (Fa rfl rfl ?_))))))))
 rotate_left
 intro h2
 try rw [nnp] at h2
 refine Ei rfl (Ei rfl (Ei rfl (Ei rfl (Ei rfl (Ea (Ej rfl rfl) (Ea (Ee rfl) (Ef (Ed (Eb [4] rfl (Ek (Fa rfl rfl ?_)))))))))))
 rotate_left
 intro h1
 try rw [nnp] at h1
 refine Ei rfl (Ei rfl (Ea (Ej rfl rfl) (Ea (Ee rfl) (Ei rfl (Ei rfl (Ei rfl (Ei rfl (Ei rfl (Ea (Ej rfl rfl) (Ea (Ee rfl) (Ef ?_)))))))))))
 refine Ed (Eb [4] rfl (Ek (Fa rfl rfl ?_)))
 rotate_left
 all_goals
  first | (rcases hz with ⟨h8, h9⟩ | ⟨h8, h9⟩ <;> simp_all [aligned]; done) | (rcases hz with ⟨h8, h9⟩ | ⟨h8, h9⟩ <;> simp_all [aligned] <;> omega)
theorem aligned_t {a s : Int} (h : aligned a s = true) : inB s 0 2 = true ∧ 0 ≤ a ∧ (bytes s = 1 ∨ bytes s = 2 ∨ bytes s = 4) := by
 simp only [aligned, Bool.and_eq_true, decide_eq_true_eq] at h
 exact ⟨h.1.1, h.1.2, bytes_pos h.1.1⟩
def bl (s b : Int) : Nat → Int → Option (List Int)
 | 0, _ => some []
 | n + 1, a => if nextA a s b < 0 then none else (bl s b n (nextA a s b)).map (a :: ·)
def burstL (a s b : Int) : List Int := (bl s b (beats b).toNat a).getD []
def onPage (l : List Int) (x : Int) : Bool := decide (IntKind.wrap .i64 (x.tdiv 64) = IntKind.wrap .i64 (((l[0]?).getD 0).tdiv 64))
def burstOk (a s b : Int) : Bool := (burstL a s b).all (onPage (burstL a s b)) && decide (0 < (burstL a s b).length)
theorem c_266 (xs : List Int) (hl : xs.length ≤ 140737488355328) (f : Nat) (caps : List V) (hc : caps.all (V.fzV 5) = true) (p : Int → Bool) (h : ∀ y, y ∈ xs → CV prg f (.w (.int .i64 y) :: caps) (fun v => v = .w (.bool (p y)))) : CV prg 266 [.sl 1 (xs.map iR), .fn f caps] (fun res => res = .w (.int .i64 (idxOf p xs))) := by
 refine cv_in g266 (Eb [0, 1] rfl (Eg (Eh (Ea (Ee rfl) (Ef (Ed (Eb [0, 1] rfl (Eg (Eg (Eh (Ea (Ee rfl) ?_)))))))))))
 first | refine Ea (o_lenM rfl) ?_ | refine Ea (o_len rfl) ?_
 refine Ea (Ee rfl) (Ef (Ed (Eb [0, 1, 7, 8] rfl (S_block (S_loop0 (ι := Nat) (fun i => i ≤ xs.length ∧ (xs.take i).any p = false) (fun i => [(8, .w (.int .i64 (i : Int)))]) (fun i => xs.length - i) 0 (by simp) rfl ⟨rfl, trivial⟩ (fun _ _ => rfl) rfl ?_)))))
 intro i hi
 refine Eb [0, 1, 7, 8] rfl (Eg (Eh (Ea (o_lss rfl rfl) (Ef (Ed (Eb [0, 1, 7, 8, 9] rfl (Eg ?_)))))))
 first | refine Eu rfl ?_ ?_ | refine Et rfl ?_ ?_
 intro h1
 try rw [nnp] at h1
 refine Fb (Ed (Eb [0, 1, 7, 8] rfl (Eg (S_block (Eg (Eh (Ea (Ee rfl) (Ea (Ee rfl) (Ef (Ed (Eb [0, 1, 5, 7, 8] rfl ?_)))))))))))
 refine Eg (Eh (Ea (Ee rfl) (Ea (Ee rfl) (Ea (Ee rfl) (s_iaM rfl rfl (by simp at *; omega) ?_)))))
 intro y2 e2
 try simp only [Int.toNat_natCast, Int.toNat_zero] at e2
 refine Ea (o_ld rfl rfl) (s_calli rfl rfl (fz1 rfl hc) (h _ (List.mem_of_getElem? (by assumption))) (Ef (Ed (Eb [0, 1, 5, 7, 8, 16] rfl ?_))))
 first | refine Eu rfl ?_ ?_ | refine s_condN rfl ?_ ?_ | refine s_condNB rfl ?_ ?_ | refine Et rfl ?_ ?_
 intro h3
 try rw [nnp] at h3
 refine Eg (Eh (Ea (Ee rfl) (Ea (Ee rfl) (Ef (Ed (Eb [4] rfl (Ek (Ff (Ev (q_loopR (Ff ?_)))))))))))
 refine Ev (ret_leafIR rfl rfl ?_)
 rotate_left
 intro h3
 try rw [nnp] at h3
 refine Fb (Fg (Ed (Eb [0, 1, 7, 8] rfl (Eh ?_))))
 first | refine Ea (o_addn rfl rfl (by omega)) ?_ | refine Ea (o_add rfl rfl) ?_
 refine Ea (Ee rfl) (Ef (q_loopN ?_))
 · exact ⟨i + 1, ⟨by omega, any_take (by assumption) hi.2 (by assumption)⟩, by omega, hasOf ⟨rfl, trivial⟩ rfl⟩
 intro h1
 try rw [nnp] at h1
 refine s_exit (q_seqX (q_loopX (q_blkH (Ed (Eb [] rfl (Eg (Eh (Ea (Ee rfl) (Ef (Ed (Eb [4] rfl ?_)))))))))))
 refine Ek (ret_leafIR rfl rfl ?_)
 rotate_left
 all_goals
  first | exact (idxOf_at (by assumption) hi.2 (by assumption)).symm | exact (idxOf_no (any_end hi.2 (by omega))).symm
theorem c_257 (xs : List Int) (hl : xs.length ≤ 140737488355328) (f : Nat) (caps : List V) (hc : caps.all (V.fzV 5) = true) (p : Int → Bool) (h : ∀ y, y ∈ xs → CV prg f (.w (.int .i64 y) :: caps) (fun v => v = .w (.bool (p y)))) : CV prg 257 [.sl 1 (xs.map iR), .fn f caps] (fun res => res = .w (.bool (xs.any p))) := by
 refine cv_in g257 (Eb [0, 1] rfl (Eg (Eh (Ea (Ee rfl) (Ef (Ed (Eb [0, 1] rfl (Eg (Eh (Ea (Ee rfl) (Ea (Ee rfl) ?_)))))))))))
 refine Fc rfl (fz2 rfl hc) (c_266 _ (by assumption) _ _ hc _ h) (Ea (o_geq rfl rfl) (Ea (Ee rfl) (Ef (Ed (Eb [4] rfl (Ek (Fa rfl rfl ?_)))))))
 rotate_left
 all_goals
  exact idxOf_any p xs
def Req.ok (x : Req) : Bool := burstOk x.addr x.size x.burst && decide ((x.data.length : Int) = if x.write then beats x.burst else 0) && x.data.all fun v => inB v 0 (limit x.size - 1)
def Mst.beats (m : Mst) : Int := match m.queue[0]? with | some r => AL.beats r.burst | none => 0
def Mst.right (m : Mst) : Bool := decide (m.queue.length ≤ 4) && decide (0 ≤ m.tries) && m.queue.all Req.ok &&
 (if m.queue.length = 0 then decide (m.beat = 0) && decide (m.done = 0) && decide (m.tries = 0) && !m.parted && !m.broken else inB m.done 0 (m.beats - 1) && inB m.beat m.done (min (m.done + 2) m.beats))
def okAt (c : Conf) (s : Script) (i : Nat) : Bool := match s.posts[i]? with
 | some p => inB p.moment 0 4000 && inB p.who 0 (c.masters.length - 1) && p.req.ok && (match i with
   | 0 => true
   | j + 1 => match s.posts[j]? with
     | some q => decide (q.moment ≤ p.moment)
     | none => true)
 | none => true
def Script.ok (s : Script) (c : Conf) : Bool := c.ok && decide (s.posts.length ≤ 20) && decide (s.waits.length ≤ 20) && decide (s.says.length ≤ 20) && (List.range s.posts.length).all (okAt c s)
def markI (k : Int) (i : Nat) : Int := k + 1 * i
def markD1 (k : Int) : Done := ⟨k, k + 1, decide ((k + 1 + 1).tmod 3 = 0), k + 1 + 1 + 1, k + 1 + 1 + 1 + 1, k + 1 + 1 + 1 + 1 + 1, k + 1 + 1 + 1 + 1 + 1 + 1⟩
def markD (k : Int) (i : Nat) : Done := markD1 (k + 7 * i)
theorem sets2 {α : Type} (rows : List α) (i : Nat) (x y : α) : (rows.set i x).set i y = rows.set i y := List.set_set ..
theorem cg_337 (xs : List Int) (k : Int) (hl : xs.length ≤ 1048576) (hk : 0 ≤ k ∧ k ≤ 1099511627776) : GV prg 337 [.arr 1 (xs.map iR)] [.ls 0 xs.length, .w (.int .i64 k)] (fun u L1 => u = .w (.int .i64 (k + 1 * xs.length)) ∧ L1 = [.arr 1 (((List.range xs.length).map (markI k)).map iR)]) := by
 refine gv_in g337 (Eb [0, 1] rfl (Eg (Eh (Ea (Ee rfl) (Ef (Ed (Eb [0, 1] rfl (Eg (Eg (Eh (Ea (Ee rfl) ?_)))))))))))
 refine Ef (Ed (Eb [0, 1, 5] rfl (S_block (S_loop (ι := Nat) (fun i => i ≤ xs.length) (fun i => [(5, .w (.int .i64 (i : Int))), (1, .w (.int .i64 (k + 1 * (i : Int))))]) (fun i => [.arr 1 (mix iR (markI k) xs i)]) (fun i => xs.length - i) 1 0 (by simp) rfl (hasOf ⟨rfl, congrArg (fun b => some (V.w (.int .i64 b))) (by simp), trivial⟩ (by rw [mix_zero]; rfl)) rfl (fun _ _ => rfl) (fun _ _ => ⟨rfl, rfl⟩) ?_))))
 intro i hi
 obtain ⟨y0, hy0⟩ : ∃ y, i < xs.length → xs[i]? = some y := by
  by_cases h : i < xs.length
  · exact ⟨xs[i], fun _ => List.getElem?_eq_getElem h⟩
  · exact ⟨markI k 0, fun h2 => absurd h2 h⟩
 refine Eb [0, 1, 5] rfl (Eg (Eg (Eh (Ea (Ee rfl) (Ea (Ee rfl) (Ea (o_lenL rfl rfl (by (try simp only [Int.toNat_natCast, List.length_set]); first | exact List.length_map .. | exact mix_len _ _ _ _ hi)) (Ea (o_lss rfl rfl) (Ef (Ed (Eb [0, 1, 5, 9] rfl ?_))))))))))
 first | refine Eu rfl ?_ ?_ | refine Et rfl ?_ ?_
 intro h1
 try rw [nnp] at h1
 refine Fb (Ed (Eb [0, 1, 5] rfl (Eg (S_block (Eg (Eh (Ea (Ee rfl) (Ea (Ee rfl) (Ea (Ee rfl) (Ea (o_iaL rfl rfl (by (try simp only [Int.toNat_natCast, List.length_set]); first | exact List.length_map .. | exact mix_len _ _ _ _ hi) rfl (by omega)) (Ep (o_stA rfl rfl rfl rfl (by (try simp only [Int.toNat_natCast, List.length_set]); first | exact List.length_map .. | exact mix_len _ _ _ _ hi) (by (try rw [Int.toNat_natCast]); first | exact set_at (by (try simp only [List.length_set]); rw [mix_len _ _ _ _ hi]; omega) | exact mix_at _ _ (hy0 (by omega))) rfl rfl) ?_)))))))))))
 refine Ef (Ed (Eb [0, 1, 5] rfl (Eh (Ea (Ee rfl) ?_))))
 first | refine Ea (o_addn rfl rfl (by omega)) ?_ | refine Ea (o_add rfl rfl) ?_
 refine Ea (Ee rfl) (Ef (Fg (Ed (Eb [0, 1, 5] rfl (Eh (Ea (Ee rfl) ?_))))))
 first | refine Ea (o_addn rfl rfl (by omega)) ?_ | refine Ea (o_add rfl rfl) ?_
 refine Ea (Ee rfl) (Ef (q_loopN ?_))
 · refine ⟨i + 1, by omega, by omega, hasOf ⟨rfl, congrArg (fun b => some (V.w (.int .i64 b))) (by omega), trivial⟩ ?_⟩
   simp only [Int.toNat_natCast]
   rw [← mix_set _ _ (by assumption)]; rfl
 intro h1
 try rw [nnp] at h1
 refine s_exit (q_seqX (q_loopX (q_blkH (Ed (Eb [1] rfl (Eg (Eh (Ea (Ee rfl) (Ea (Ee rfl) (Ef (Ed ?_)))))))))))
 refine Eb [4] rfl (Ek ?_)
 · refine Ec [] (.inr rfl) rfl rfl rfl rfl (show (List.range 1 ++ []).Nodup by decide) ?_
   exact ⟨by rw [show (i : Int) = xs.length by omega], by rw [mix_end _ _ _ (by assumption) hi]⟩
theorem c_380 (n : Nat) (k : Int) (hl : n ≤ 1048576) (hk : 0 ≤ k ∧ k ≤ 1099511627776) : CV prg 380 [.sl 1 (((List.range n).map (markI k)).map iR), .w (.int .i64 k)] (fun res => res = .w (.int .i64 (k + 1 * n))) := by
 have hln : ((List.range n).map (markI k)).length = n := by simp
 refine cv_in g380 (Eb [0, 1] rfl (Eg (Eh (Ea (Ee rfl) (Ef (Ed (Eb [0, 1] rfl (Eg (Eg (Eh (Ea (Ee rfl) ?_)))))))))))
 refine Ef (Ed (Eb [0, 1, 5] rfl (S_block (S_loop0 (ι := Nat) (fun i => i ≤ n) (fun i => [(5, .w (.int .i64 (i : Int))), (1, .w (.int .i64 (k + 1 * (i : Int))))]) (fun i => n - i) 0 (by simp) rfl ⟨rfl, congrArg (fun b => some (V.w (.int .i64 b))) (by simp), trivial⟩ (fun _ _ => rfl) rfl ?_))))
 intro i hi
 refine Eb [0, 1, 5] rfl (Eg (Eg (Eh (Ea (Ee rfl) (Ea (Ee rfl) ?_)))))
 first | refine Ea (o_lenM rfl) ?_ | refine Ea (o_len rfl) ?_
 refine Ea (o_lss rfl rfl) (Ef (Ed (Eb [0, 1, 5, 9] rfl ?_)))
 first | refine Eu rfl ?_ ?_ | refine Et rfl ?_ ?_
 intro h1
 try rw [nnp] at h1
 refine Fb (Ed (Eb [0, 1, 5] rfl (Eg (S_block (Eg (Eg (Eh (Ea (Ee rfl) (Ea (Ee rfl) (s_iaM rfl rfl (by omega) ?_))))))))))
 intro y2 e2
 simp only [Int.toNat_natCast] at e2; obtain rfl := mks_at e2
 refine Ea (o_ld rfl rfl) (Ea (Ee rfl) (Ea (o_neq rfl rfl) (Ef (Ed (Eb [0, 1, 5, 17] rfl ?_)))))
 first | refine Eu rfl ?_ ?_ | refine Et rfl ?_ ?_
 intro h3
 try rw [nnp] at h3
 refine Eg (Eh (Ea (Ee rfl) (Ef (Ed (Eb [4] rfl (Ek (Ev (Ff (Ev (q_loopR (Ff ?_)))))))))))
 refine Ev (ret_leafIR rfl rfl ?_)
 rotate_left
 intro h3
 try rw [nnp] at h3
 refine Fb (Ed (Eb [0, 1, 5] rfl (Eh (Ea (Ee rfl) ?_))))
 first | refine Ea (o_addn rfl rfl (by omega)) ?_ | refine Ea (o_add rfl rfl) ?_
 refine Ea (Ee rfl) (Ef (Fg (Ed (Eb [0, 1, 5] rfl (Eh (Ea (Ee rfl) ?_))))))
 first | refine Ea (o_addn rfl rfl (by omega)) ?_ | refine Ea (o_add rfl rfl) ?_
 refine Ea (Ee rfl) (Ef (q_loopN ?_))
 · exact ⟨i + 1, by omega, by omega, hasOf ⟨rfl, congrArg (fun b => some (V.w (.int .i64 b))) (by omega), trivial⟩ rfl⟩
 intro h1
 try rw [nnp] at h1
 refine s_exit (q_seqX (q_loopX (q_blkH (Ed (Eb [1] rfl (Eg (Eh (Ea (Ee rfl) (Ea (Ee rfl) (Ef (Ed ?_)))))))))))
 refine Eb [4] rfl (Ek (ret_leafIR rfl rfl ?_))
 rotate_left
 all_goals
  first | (rw [show (i : Int) = n by omega]; done) | (exfalso; first | exact absurd rfl (by assumption) | (simp_all [markI]; done) | (simp_all [markI, markD1]; done))
theorem cg_142 (xs : List Done) (k : Int) (hl : xs.length ≤ 1048576) (hk : 0 ≤ k ∧ k ≤ 1099511627776) : GV prg 142 [.arr 7 (xs.map Done.r)] [.ls 0 xs.length, .w (.int .i64 k)] (fun u L1 => u = .w (.int .i64 (k + 7 * xs.length)) ∧ L1 = [.arr 7 (((List.range xs.length).map (markD k)).map Done.r)]) := by
 refine gv_in g142 (Eb [0, 1] rfl (Eg (Eh (Ea (Ee rfl) (Ef (Ed (Eb [0, 1] rfl (Eg (Eg (Eh (Ea (Ee rfl) ?_)))))))))))
 refine Ef (Ed (Eb [0, 1, 5] rfl (S_block (S_loop (ι := Nat) (fun i => i ≤ xs.length) (fun i => [(5, .w (.int .i64 (i : Int))), (1, .w (.int .i64 (k + 7 * (i : Int))))]) (fun i => [.arr 7 (mix Done.r (markD k) xs i)]) (fun i => xs.length - i) 1 0 (by simp) rfl (hasOf ⟨rfl, congrArg (fun b => some (V.w (.int .i64 b))) (by simp), trivial⟩ (by rw [mix_zero]; rfl)) rfl (fun _ _ => rfl) (fun _ _ => ⟨rfl, rfl⟩) ?_))))
 intro i hi
 obtain ⟨y0, hy0⟩ : ∃ y, i < xs.length → xs[i]? = some y := by
  by_cases h : i < xs.length
  · exact ⟨xs[i], fun _ => List.getElem?_eq_getElem h⟩
  · exact ⟨markD k 0, fun h2 => absurd h2 h⟩
 refine Eb [0, 1, 5] rfl (Eg (Eg (Eh (Ea (Ee rfl) (Ea (Ee rfl) (Ea (o_lenL rfl rfl (by (try simp only [Int.toNat_natCast, List.length_set]); first | exact List.length_map .. | exact mix_len _ _ _ _ hi)) (Ea (o_lss rfl rfl) (Ef (Ed (Eb [0, 1, 5, 9] rfl ?_))))))))))
 first | refine Eu rfl ?_ ?_ | refine Et rfl ?_ ?_
 intro h1
 try rw [nnp] at h1
 refine Fb (Ed (Eb [0, 1, 5] rfl (Eg (S_block (Eg (Eh (Ea (Ee rfl) (Ea (Ee rfl) (Ea (Ee rfl) (Ea (o_iaL rfl rfl (by (try simp only [Int.toNat_natCast, List.length_set]); first | exact List.length_map .. | exact mix_len _ _ _ _ hi) rfl (by omega)) (Ea (o_faA rfl rfl (by (try simp only [Int.toNat_natCast, List.length_set]); first | exact List.length_map .. | exact mix_len _ _ _ _ hi)) ?_)))))))))))
 refine Ep (o_stA rfl rfl rfl rfl (by (try simp only [Int.toNat_natCast, List.length_set]); first | exact List.length_map .. | exact mix_len _ _ _ _ hi) (by (try rw [Int.toNat_natCast]); first | exact set_at (by (try simp only [List.length_set]); rw [mix_len _ _ _ _ hi]; omega) | exact mix_at _ _ (hy0 (by omega))) rfl rfl) (Ef (Ed (Eb [0, 1, 5] rfl (Eg (Eh (Ea (Ee rfl) ?_))))))
 first | refine Ea (o_addn rfl rfl (by omega)) ?_ | refine Ea (o_add rfl rfl) ?_
 refine Ea (Ee rfl) (Ef (Ed (Eb [0, 1, 5] rfl (Eg (Eh (Ea (Ee rfl) (Ea (Ee rfl) (Ea (Ee rfl) (Ea (o_iaL rfl rfl (by (try simp only [Int.toNat_natCast, List.length_set]); first | exact List.length_map .. | exact mix_len _ _ _ _ hi) rfl (by omega)) (Ea (o_faA rfl rfl (by (try simp only [Int.toNat_natCast, List.length_set]); first | exact List.length_map .. | exact mix_len _ _ _ _ hi)) (Ep (o_stA rfl rfl rfl rfl (by (try simp only [Int.toNat_natCast, List.length_set]); first | exact List.length_map .. | exact mix_len _ _ _ _ hi) (by (try rw [Int.toNat_natCast]); first | exact set_at (by (try simp only [List.length_set]); rw [mix_len _ _ _ _ hi]; omega) | exact mix_at _ _ (hy0 (by omega))) rfl rfl) ?_)))))))))))
 refine Ef (Ed (Eb [0, 1, 5] rfl (Eg (Eh (Ea (Ee rfl) ?_)))))
 first | refine Ea (o_addn rfl rfl (by omega)) ?_ | refine Ea (o_add rfl rfl) ?_
 refine Ea (Ee rfl) (Ef (Ed (Eb [0, 1, 5] rfl (Eg (Eh (Ea (Ee rfl) (Ea (Ee rfl) (Ea (Ee rfl) ?_))))))))
 first | refine Ea (o_rem rfl rfl (by decide)) ?_ | refine Ea (o_rem rfl rfl (by omega)) ?_
 refine Ea (o_eql rfl rfl) (Ea (o_iaL rfl rfl (by (try simp only [Int.toNat_natCast, List.length_set]); first | exact List.length_map .. | exact mix_len _ _ _ _ hi) rfl (by omega)) (Ea (o_faA rfl rfl (by (try simp only [Int.toNat_natCast, List.length_set]); first | exact List.length_map .. | exact mix_len _ _ _ _ hi)) (Ep (o_stA rfl rfl rfl rfl (by (try simp only [Int.toNat_natCast, List.length_set]); first | exact List.length_map .. | exact mix_len _ _ _ _ hi) (by (try rw [Int.toNat_natCast]); first | exact set_at (by (try simp only [List.length_set]); rw [mix_len _ _ _ _ hi]; omega) | exact mix_at _ _ (hy0 (by omega))) rfl rfl) (Ef (Ed (Eb [0, 1, 5] rfl (Eg (Eh (Ea (Ee rfl) ?_)))))))))
 first | refine Ea (o_addn rfl rfl (by omega)) ?_ | refine Ea (o_add rfl rfl) ?_
 refine Ea (Ee rfl) (Ef (Ed (Eb [0, 1, 5] rfl (Eg (Eh (Ea (Ee rfl) (Ea (Ee rfl) (Ea (Ee rfl) (Ea (o_iaL rfl rfl (by (try simp only [Int.toNat_natCast, List.length_set]); first | exact List.length_map .. | exact mix_len _ _ _ _ hi) rfl (by omega)) (Ea (o_faA rfl rfl (by (try simp only [Int.toNat_natCast, List.length_set]); first | exact List.length_map .. | exact mix_len _ _ _ _ hi)) (Ep (o_stA rfl rfl rfl rfl (by (try simp only [Int.toNat_natCast, List.length_set]); first | exact List.length_map .. | exact mix_len _ _ _ _ hi) (by (try rw [Int.toNat_natCast]); first | exact set_at (by (try simp only [List.length_set]); rw [mix_len _ _ _ _ hi]; omega) | exact mix_at _ _ (hy0 (by omega))) rfl rfl) ?_)))))))))))
 refine Ef (Ed (Eb [0, 1, 5] rfl (Eg (Eh (Ea (Ee rfl) ?_)))))
 first | refine Ea (o_addn rfl rfl (by omega)) ?_ | refine Ea (o_add rfl rfl) ?_
 refine Ea (Ee rfl) (Ef (Ed (Eb [0, 1, 5] rfl (Eg (Eh (Ea (Ee rfl) (Ea (Ee rfl) (Ea (Ee rfl) (Ea (o_iaL rfl rfl (by (try simp only [Int.toNat_natCast, List.length_set]); first | exact List.length_map .. | exact mix_len _ _ _ _ hi) rfl (by omega)) (Ea (o_faA rfl rfl (by (try simp only [Int.toNat_natCast, List.length_set]); first | exact List.length_map .. | exact mix_len _ _ _ _ hi)) (Ep (o_stA rfl rfl rfl rfl (by (try simp only [Int.toNat_natCast, List.length_set]); first | exact List.length_map .. | exact mix_len _ _ _ _ hi) (by (try rw [Int.toNat_natCast]); first | exact set_at (by (try simp only [List.length_set]); rw [mix_len _ _ _ _ hi]; omega) | exact mix_at _ _ (hy0 (by omega))) rfl rfl) ?_)))))))))))
 refine Ef (Ed (Eb [0, 1, 5] rfl (Eg (Eh (Ea (Ee rfl) ?_)))))
 first | refine Ea (o_addn rfl rfl (by omega)) ?_ | refine Ea (o_add rfl rfl) ?_
 refine Ea (Ee rfl) (Ef (Ed (Eb [0, 1, 5] rfl (Eg (Eh (Ea (Ee rfl) (Ea (Ee rfl) (Ea (Ee rfl) (Ea (o_iaL rfl rfl (by (try simp only [Int.toNat_natCast, List.length_set]); first | exact List.length_map .. | exact mix_len _ _ _ _ hi) rfl (by omega)) (Ea (o_faA rfl rfl (by (try simp only [Int.toNat_natCast, List.length_set]); first | exact List.length_map .. | exact mix_len _ _ _ _ hi)) (Ep (o_stA rfl rfl rfl rfl (by (try simp only [Int.toNat_natCast, List.length_set]); first | exact List.length_map .. | exact mix_len _ _ _ _ hi) (by (try rw [Int.toNat_natCast]); first | exact set_at (by (try simp only [List.length_set]); rw [mix_len _ _ _ _ hi]; omega) | exact mix_at _ _ (hy0 (by omega))) rfl rfl) ?_)))))))))))
 refine Ef (Ed (Eb [0, 1, 5] rfl (Eg (Eh (Ea (Ee rfl) ?_)))))
 first | refine Ea (o_addn rfl rfl (by omega)) ?_ | refine Ea (o_add rfl rfl) ?_
 refine Ea (Ee rfl) (Ef (Ed (Eb [0, 1, 5] rfl (Eg (Eh (Ea (Ee rfl) (Ea (Ee rfl) (Ea (Ee rfl) (Ea (o_iaL rfl rfl (by (try simp only [Int.toNat_natCast, List.length_set]); first | exact List.length_map .. | exact mix_len _ _ _ _ hi) rfl (by omega)) (Ea (o_faA rfl rfl (by (try simp only [Int.toNat_natCast, List.length_set]); first | exact List.length_map .. | exact mix_len _ _ _ _ hi)) (Ep (o_stA rfl rfl rfl rfl (by (try simp only [Int.toNat_natCast, List.length_set]); first | exact List.length_map .. | exact mix_len _ _ _ _ hi) (by (try rw [Int.toNat_natCast]); first | exact set_at (by (try simp only [List.length_set]); rw [mix_len _ _ _ _ hi]; omega) | exact mix_at _ _ (hy0 (by omega))) rfl rfl) ?_)))))))))))
 refine Ef (Ed (Eb [0, 1, 5] rfl (Eh (Ea (Ee rfl) ?_))))
 first | refine Ea (o_addn rfl rfl (by omega)) ?_ | refine Ea (o_add rfl rfl) ?_
 refine Ea (Ee rfl) (Ef (Fg (Ed (Eb [0, 1, 5] rfl (Eh (Ea (Ee rfl) ?_))))))
 first | refine Ea (o_addn rfl rfl (by omega)) ?_ | refine Ea (o_add rfl rfl) ?_
 refine Ea (Ee rfl) (Ef (q_loopN ?_))
 · refine ⟨i + 1, by omega, by omega, hasOf ⟨rfl, congrArg (fun b => some (V.w (.int .i64 b))) (by omega), trivial⟩ ?_⟩
   simp only [Int.toNat_natCast, sets2]
   rw [← mix_set _ _ (by assumption)]; rfl
 intro h1
 try rw [nnp] at h1
 refine s_exit (q_seqX (q_loopX (q_blkH (Ed (Eb [1] rfl (Eg (Eh (Ea (Ee rfl) (Ea (Ee rfl) (Ef (Ed ?_)))))))))))
 refine Eb [4] rfl (Ek ?_)
 · refine Ec [] (.inr rfl) rfl rfl rfl rfl (show (List.range 1 ++ []).Nodup by decide) ?_
   exact ⟨by rw [show (i : Int) = xs.length by omega], by rw [mix_end _ _ _ (by assumption) hi]⟩
theorem words_map {α : Type} (k : Nat) {r : α → List V} (xs : List α) (h : ∀ y v, v ∈ r y → ∃ x, v = .w x) : (LB.arr k (xs.map r)).words := by
 intro row hrow v hv
 obtain ⟨y, _, rfl⟩ := List.mem_map.1 hrow
 exact h y v hv
def Wrr.hit (w : Wrr) (req : List Bool) (i : Nat) : Bool := (req[((w.pos + ((i : Int) + 1)).tmod req.length).toNat]?).getD false
def Wrr.pick (w : Wrr) (c : Conf) (req : List Bool) : Wrr × Int := if w.ok c && decide (req.length = c.masters.length) then
    (if decide (0 < w.credit) && (req[w.pos.toNat]?).getD false then (⟨w.pos, IntKind.wrap .i64 (w.credit - 1)⟩, w.pos)
     else match (List.range req.length).find? (w.hit req) with
      | some i => (⟨(w.pos + ((i : Int) + 1)).tmod req.length, IntKind.wrap .i64 (c.turn ((w.pos + ((i : Int) + 1)).tmod req.length) - 1)⟩, (w.pos + ((i : Int) + 1)).tmod req.length)
      | none => (⟨w.pos, 0⟩, -1))
 else (w, -1)
def band (a b : Int) : Int := IntKind.wrap .i64 ((BitVec.ofInt 64 a &&& BitVec.ofInt 64 b).toNat : Nat)
theorem o_band {G : Prg} {q : Bool} {tl : Tl} {L : List LB} {x y a b} (hx : evE tl x = some (.w (.int .i64 a))) (hy : evE tl y = some (.w (.int .i64 b))) : OpV G q (.bin .and x y) tl L (some (.w (.int .i64 (band a b)))) L :=
 o_bin hx hy rfl rfl
def cur (code : List Int) (i h : Int) : LB := .cell [.sl 1 (code.map uR), .w (.int .i64 i), .w (.int .i64 h)]
def Bucket.ok (b : Bucket) (m : MConf) : Bool := if m.prio then inB b.tokens 0 m.cap && decide (0 ≤ b.count) && decide (b.count < m.every) else decide (b.tokens = 0) && decide (b.count = 0)
def Bucket.take (b : Bucket) (m : MConf) : Bucket × Bool := if m.prio && b.ok m && decide (b.tokens ≠ 0) then (⟨b.tokens - 1, b.count⟩, true) else (b, false)
def Bucket.back (b : Bucket) (m : MConf) : Bucket := if m.prio && b.ok m && decide (b.tokens < m.cap) then ⟨b.tokens + 1, b.count⟩ else b
def MConf.most (m : MConf) (n : Int) : Int := if m.prio = true ∧ 1 ≤ m.every ∧ 0 ≤ m.cap ∧ inB n 0 4000 = true then m.cap + n.tdiv m.every + 1 else 0
def Script.fit (s : Script) : Prop := s.posts.length ≤ 6 ∧ (∀ p, p ∈ s.posts → p.req.data.length ≤ 16) ∧ (s.waits.length ≤ 6 ∧ ∀ y, y ∈ s.waits → 0 ≤ y ∧ y ≤ 16) ∧ s.says.length ≤ 6 ∧ ∀ y, y ∈ s.says → 0 ≤ y ∧ y ≤ 16
theorem cg_162 (xs : List Done) (hl : xs.length ≤ 1048576) : GV prg 162 [] [.sl 7 (xs.map Done.r)] (fun u L1 => u = .ls 0 xs.length ∧ L1 = [.arr 7 (xs.map Done.r)]) := by
 refine gv_in g162 (Eb [0] rfl (Eg (Eh (Ea (Ee rfl) (Ef (Ed (Eb [0] rfl (Eg (Eh (Ea (Ee rfl) ?_))))))))))
 first | refine Ea (o_lenM rfl) ?_ | refine Ea (o_len rfl) ?_
 refine Ea (o_mk rfl rfl rfl rfl ⟨by omega, by unfold roomy; omega, by unfold roomy; omega⟩ rfl) (Ea (Ee rfl) (Ef (Ed (Eb [0, 3] rfl (Eg (Eg (Eh (Ea (Ee rfl) (Ef (Ed (Eb [0, 3, 4] rfl ?_)))))))))))
 refine S_block (S_loop (ι := Nat) (fun i => i ≤ xs.length) (fun i => [(4, .w (.int .i64 (i : Int)))]) (fun i => [.arr 7 (tabV Done.r [.w (.int .i64 0), .w (.int .i64 0), .w (.bool false), .w (.int .i64 0), .w (.int .i64 0), .w (.int .i64 0), .w (.int .i64 0)] xs i)]) (fun i => xs.length - i) 1 0 (by simp) rfl (hasOf ⟨rfl, trivial⟩ (by rw [tabV_zero]; rfl)) rfl (fun _ _ => rfl) (fun _ _ => ⟨rfl, rfl⟩) ?_)
 intro i hi
 refine Eb [0, 3, 4] rfl (Eg (Eg (Eh (Ea (Ee rfl) (Ea (Ee rfl) ?_)))))
 first | refine Ea (o_lenM rfl) ?_ | refine Ea (o_len rfl) ?_
 refine Ea (o_lss rfl rfl) (Ef (Ed (Eb [0, 3, 4, 11] rfl ?_)))
 first | refine Eu rfl ?_ ?_ | refine Et rfl ?_ ?_
 intro h1
 try rw [nnp] at h1
 refine Fb (Ed (Eb [0, 3, 4] rfl (Eg (S_block (Eh (Ea (Ee rfl) (Ea (Ee rfl) (Ea (Ee rfl) (Ea (Ee rfl) (s_iaM rfl rfl (by first | omega | (rw [List.length_replicate]; omega)) ?_))))))))))
 intro y2 e2
 try simp only [Int.toNat_natCast, Int.toNat_zero] at e2
 refine Ea (o_ldn rfl rfl) ?_
 first | refine Fc rfl rfl (c_161 _) ?_ | refine s_callL rfl rfl (by simp) (c_161 _) rfl ?_
 refine Ea (o_iaL rfl rfl (by rw [tabV_len _ _ _ _ (by omega), List.length_replicate]; rfl) rfl (by first | omega | (rw [List.length_replicate]; omega))) (Ep (o_stnA rfl rfl rfl rfl rfl (by rw [tabV_len _ _ _ _ (by omega), List.length_replicate]; rfl) (by rw [Int.toNat_natCast]; exact tabV_at _ _ (by omega)) rfl rfl) (Ef (Fg (Ed (Eb [0, 3, 4] rfl (Eh (Ea (Ee rfl) ?_)))))))
 first | refine Ea (o_addn rfl rfl (by omega)) ?_ | refine Ea (o_add rfl rfl) ?_
 refine Ea (Ee rfl) (Ef (q_loopN ?_))
 · refine ⟨i + 1, by omega, by omega, hasOf ⟨rfl, trivial⟩ ?_⟩
   rw [← tabV_set Done.r [.w (.int .i64 0), .w (.int .i64 0), .w (.bool false), .w (.int .i64 0), .w (.int .i64 0), .w (.int .i64 0), .w (.int .i64 0)] (by assumption)]; rfl
 intro h1
 try rw [nnp] at h1
 refine s_exit (q_seqX (q_loopX (q_blkH (Ed (Eb [3] rfl (Eg (Eh (Ea (Ee rfl) (Ea (Ee rfl) (Ef (Ed ?_)))))))))))
 refine Eb [2] rfl (Ek ?_)
 · refine Ec [0] (.inr rfl) rfl rfl rfl rfl (show (List.range 0 ++ [0]).Nodup by decide) ?_
   exact ⟨by rw [List.length_replicate]; rfl, by rw [tabV_end _ _ _ (by omega)]⟩
def byteB (v : Int) : Bool := inB v 0 255
def wordB (v : Int) : Bool := inB v 0 (limit 2 - 1)
def Dev.ok (d : Dev) : Bool := decide ((d.regs.length : Int) = 4) && decide ((d.fifo.length : Int) ≤ 4) && d.regs.all wordB && d.fifo.all wordB && wordB d.timer
def Model.ok (m : Model) : Bool := decide ((m.ram.length : Int) = 192) && m.ram.all byteB && m.dev.ok
def fitsB (xs : List Int) (a z : Int) : Bool := decide ((xs.length : Int) ≤ 512) && xs.all byteB && aligned a z && decide (a ≤ xs.length - bytes z)
theorem any_not {p : Int → Bool} (xs : List Int) : (!xs.any (fun v => !p v)) = xs.all p := by
 induction xs with
 | nil => rfl
 | cons m xs ih => simp only [List.any_cons, List.all_cons, Bool.not_or, Bool.not_not, ih]
theorem any_not' {p : Int → Bool} (xs : List Int) : xs.any (fun v => !p v) = !xs.all p := by rw [← any_not, Bool.not_not]
theorem fits0 {xs : List Int} (h : (xs.length : Int) = 192) : fitsB xs 0 0 = xs.all byteB := by
 have h1 : aligned 0 0 = true := by decide
 have h2 : bytes 0 = 1 := by decide
 unfold fitsB
 rw [h1, h2, h]
 simp
theorem c_87 (n : Int) : CV prg 87 [.w (.int .i64 n)] (fun res => res = .w (.bool (!byteB n))) := by
 refine cv_in g87 (Eb [0] rfl (Eg (Eh (Ea (Ee rfl) (Ef (Ed (Eb [0] rfl (Eg (Eh (Ea (Ee rfl) (Fc rfl rfl (c_103 ..) ?_)))))))))))
 refine Ea (o_not rfl) (Ea (Ee rfl) (Ef (Ed (Eb [2] rfl (Ek (Fa rfl rfl ?_))))))
 rotate_left
 all_goals
  rfl
theorem c_41 (n : Int) : CV prg 41 [.w (.int .i64 n)] (fun res => res = .w (.bool (!wordB n))) := by
 refine cv_in g41 (Eb [0] rfl (Eg (Eh (Ea (Ee rfl) (Ef (Ed (Eb [0] rfl (Eg (Eh (Ea (Ee rfl) (Fc rfl rfl (c_92 ..) ?_)))))))))))
 refine Ea (o_not rfl) (Ea (Ee rfl) (Ef (Ed (Eb [2] rfl (Ek (Fa rfl rfl ?_))))))
 rotate_left
 all_goals
  rfl
theorem c_86 (xs : List Int) (a z : Int) (hl : xs.length ≤ 1048576) : CV prg 86 [.sl 1 (xs.map iR), .w (.int .i64 a), .w (.int .i64 z)] (fun res => res = .w (.bool (fitsB xs a z))) := by
 have hz := bytes_z (x := z)
 refine cv_in g86 (Eb [0, 1, 2] rfl (Eg (Eh (Ea (Ee rfl) (Ef (Ed (Eb [0, 1, 2] rfl (Eg (Eh (Ea (Ee rfl) ?_))))))))))
 first | refine Ea (o_lenM rfl) ?_ | refine Ea (o_len rfl) ?_
 refine Ea (o_leq rfl rfl) (Ea (Ee rfl) ?_)
 first | refine s_gDT rfl ?_ ?_ | refine s_gB rfl ?_ ?_
 intro h1
 try rw [nnp] at h1
 refine Ea (Ee rfl) (Ez rfl (Fc rfl rfl (c_257 _ (by omega) _ _ rfl (fun v => !byteB v) (fun y _ => c_87 y)) (Ez rfl (Ea (o_not rfl) (Ea (Er rfl rfl) (Ea (Ee rfl) ?_))))))
 first | refine s_gDT rfl ?_ ?_ | refine s_gNDT rfl ?_ ?_ | refine s_gNT rfl ?_ ?_ | refine s_gB rfl ?_ ?_
 intro h2
 try rw [nnp] at h2
 refine Ea (Ee rfl) (Ez rfl (Ea (Ee rfl) (Ez rfl (Fc rfl rfl (c_21 ..) (Ea (Er rfl rfl) (Ea (Ee rfl) (s_keepO (is := [0, 1, 2, 20]) rfl ?_)))))))
 first | refine s_gDT rfl ?_ ?_ | refine s_gNDT rfl ?_ ?_ | refine s_gNT rfl ?_ ?_ | refine s_gB rfl ?_ ?_
 intro h3
 try rw [nnp] at h3
 refine Ea (Ee rfl) (Ez rfl (Ea (Ee rfl) (Ez rfl ?_)))
 first | refine Ea (o_lenM rfl) ?_ | refine Ea (o_len rfl) ?_
 refine Ez rfl (Ea (Ee rfl) (Ez rfl (Fc rfl rfl (c_33 ..) (Ez rfl ?_))))
 first | refine Ea (o_subn rfl rfl (by omega)) ?_ | refine Ea (o_sub rfl rfl) ?_
 refine Ez rfl (Ea (o_leq rfl rfl) (Ea (Er rfl rfl) (Ea (Ee rfl) (Ef (Ed (Eb [6] rfl (Ek (Fa rfl rfl ?_))))))))
 rotate_left
 intro h3
 try rw [nnp] at h3
 iterate 7 refine Ei rfl ?_
 refine Ea (Ej rfl rfl) (Ea (Ee rfl) (Ef (Ed (Eb [6] rfl (Ek (Fa rfl rfl ?_))))))
 rotate_left
 intro h2
 try rw [nnp] at h2
 refine Ei rfl (Ei rfl (Ei rfl (Ea (Ej rfl rfl) (Ea (Ee rfl) (s_keepO (is := [0, 1, 2, 20]) rfl ?_)))))
 iterate 7 refine Ei rfl ?_
 refine Ea (Ej rfl rfl) (Ea (Ee rfl) (Ef (Ed (Eb [6] rfl (Ek (Fa rfl rfl ?_))))))
 rotate_left
 intro h1
 try rw [nnp] at h1
 refine Ei rfl (Ei rfl (Ei rfl (Ea (Ej rfl rfl) (Ea (Ee rfl) (Ei rfl (Ei rfl (Ei rfl (Ea (Ej rfl rfl) (Ea (Ee rfl) (s_keepO (is := [0, 1, 2, 20]) rfl ?_))))))))))
 iterate 7 refine Ei rfl ?_
 refine Ea (Ej rfl rfl) (Ea (Ee rfl) (Ef (Ed (Eb [6] rfl (Ek (Fa rfl rfl ?_))))))
 rotate_left
 all_goals
  (try simp only [any_not'] at *); unfold fitsB; generalize xs.all byteB = p at *; generalize (xs.length : Int) = n1 at *; first | (simp_all; done) | (simp_all; intros; omega) | (simp_all; omega)
theorem c_238 (xs : List Int) (hl : xs.length ≤ 1048576) : CV prg 238 [.sl 1 (xs.map iR)] (fun res => res = .w (.bool (xs.all byteB && decide ((xs.length : Int) ≤ 512)))) := by
 have hz := limit_bd 2
 refine cv_in g238 (Eb [0] rfl (Eg (Eh (Ea (Ee rfl) (Ef (Ed (Eb [0] rfl (Eg (Eg (Eh (Ea (Ee rfl) ?_)))))))))))
 refine Ef (Ed (Eb [0, 3] rfl (S_block (S_loop0 (ι := Nat) (fun i => i ≤ xs.length ∧ (xs.take i).all byteB = true) (fun i => [(3, .w (.int .i64 (i : Int)))]) (fun i => xs.length - i) 0 (by simp) rfl ⟨rfl, trivial⟩ (fun _ _ => rfl) rfl ?_))))
 intro i hi
 refine Eb [0, 3] rfl (Eg (Eg (Eh (Ea (Ee rfl) (Ea (Ee rfl) ?_)))))
 first | refine Ea (o_lenM rfl) ?_ | refine Ea (o_len rfl) ?_
 refine Ea (o_lss rfl rfl) (Ef (Ed (Eb [0, 3, 7] rfl ?_)))
 first | refine Eu rfl ?_ ?_ | refine Et rfl ?_ ?_
 intro h1
 try rw [nnp] at h1
 refine Fb (Ed (Eb [0, 3] rfl (Eg (S_block (Eg (Eh (Ea (Ee rfl) (Ea (Ee rfl) (s_iaM rfl rfl (by omega) ?_)))))))))
 intro y2 e2
 try simp only [Int.toNat_natCast, Int.toNat_zero] at e2
 refine Ea (o_ld rfl rfl) ?_
 first | refine Fc rfl rfl (c_230 ..) ?_ | refine s_callL rfl rfl (by simp) (c_230 ..) rfl ?_
 refine Ea (o_not rfl) (Ef (Ed (Eb [0, 3, 15] rfl ?_)))
 first | refine Eu rfl ?_ ?_ | refine s_condN rfl ?_ ?_ | refine s_condNB rfl ?_ ?_ | refine Et rfl ?_ ?_
 intro h3
 try rw [nnp] at h3
 refine Eg (Eh (Ea (Ee rfl) (Ef (Ed (Eb [2] rfl (Ek (Ff (Ev (q_loopR (Ff (Ev ?_)))))))))))
 refine Fa rfl rfl ?_
 rotate_left
 intro h3
 try rw [nnp] at h3
 refine Fb (Fg (Ed (Eb [0, 3] rfl (Eh (Ea (Ee rfl) ?_)))))
 first | refine Ea (o_addn rfl rfl (by omega)) ?_ | refine Ea (o_add rfl rfl) ?_
 refine Ea (Ee rfl) (Ef (q_loopN ?_))
 · exact ⟨i + 1, ⟨by omega, all_take (by assumption) hi.2 (by assumption)⟩, by omega, hasOf ⟨rfl, trivial⟩ rfl⟩
 intro h1
 try rw [nnp] at h1
 refine s_exit (q_seqX (q_loopX (q_blkH (Ed (Eb [0] rfl (Eg (Eh (Ea (Ee rfl) ?_))))))))
 first | refine Ea (o_lenM rfl) ?_ | refine Ea (o_len rfl) ?_
 refine Ea (o_leq rfl rfl) (Ea (Ee rfl) (Ef (Ed (Eb [2] rfl (Ek (Fa rfl rfl ?_))))))
 rotate_left
 all_goals
  first | (rw [all_no (p := byteB) (by assumption) (by assumption)]; done) | (rw [all_no (p := byteB) (by assumption) (by assumption)]; rfl) | (rw [all_end hi.2 (by omega)]; done) | (rw [all_end hi.2 (by omega)]; simp)
theorem c_250 (xs : List Int) (hl : xs.length ≤ 1048576) : CV prg 250 [.sl 1 (xs.map iR)] (fun res => res = .w (.bool (xs.all wordB))) := by
 have hz := limit_bd 2
 refine cv_in g250 (Eb [0] rfl (Eg (Eh (Ea (Ee rfl) (Ef (Ed (Eb [0] rfl (Eg (Eg (Eh (Ea (Ee rfl) ?_)))))))))))
 refine Ef (Ed (Eb [0, 3] rfl (S_block (S_loop0 (ι := Nat) (fun i => i ≤ xs.length ∧ (xs.take i).all wordB = true) (fun i => [(3, .w (.int .i64 (i : Int)))]) (fun i => xs.length - i) 0 (by simp) rfl ⟨rfl, trivial⟩ (fun _ _ => rfl) rfl ?_))))
 intro i hi
 refine Eb [0, 3] rfl (Eg (Eg (Eh (Ea (Ee rfl) (Ea (Ee rfl) ?_)))))
 first | refine Ea (o_lenM rfl) ?_ | refine Ea (o_len rfl) ?_
 refine Ea (o_lss rfl rfl) (Ef (Ed (Eb [0, 3, 7] rfl ?_)))
 first | refine Eu rfl ?_ ?_ | refine Et rfl ?_ ?_
 intro h1
 try rw [nnp] at h1
 refine Fb (Ed (Eb [0, 3] rfl (Eg (S_block (Eg (Eh (Ea (Ee rfl) (Ea (Ee rfl) (s_iaM rfl rfl (by omega) ?_)))))))))
 intro y2 e2
 try simp only [Int.toNat_natCast, Int.toNat_zero] at e2
 refine Ea (o_ld rfl rfl) (Fc rfl rfl (c_201 ..) ?_)
 first | refine Ea (o_subn rfl rfl (by omega)) ?_ | refine Ea (o_sub rfl rfl) ?_
 first | refine Fc rfl rfl (c_230 ..) ?_ | refine s_callL rfl rfl (by simp) (c_230 ..) rfl ?_
 refine Ea (o_not rfl) (Ef (Ed (Eb [0, 3, 17] rfl ?_)))
 first | refine Eu rfl ?_ ?_ | refine s_condN rfl ?_ ?_ | refine s_condNB rfl ?_ ?_ | refine Et rfl ?_ ?_
 intro h3
 try rw [nnp] at h3
 refine Eg (Eh (Ea (Ee rfl) (Ef (Ed (Eb [2] rfl (Ek (Ff (Ev (q_loopR (Ff (Ev ?_)))))))))))
 refine Fa rfl rfl ?_
 rotate_left
 intro h3
 try rw [nnp] at h3
 refine Fb (Fg (Ed (Eb [0, 3] rfl (Eh (Ea (Ee rfl) ?_)))))
 first | refine Ea (o_addn rfl rfl (by omega)) ?_ | refine Ea (o_add rfl rfl) ?_
 refine Ea (Ee rfl) (Ef (q_loopN ?_))
 · exact ⟨i + 1, ⟨by omega, all_take (by assumption) hi.2 (by assumption)⟩, by omega, hasOf ⟨rfl, trivial⟩ rfl⟩
 intro h1
 try rw [nnp] at h1
 refine s_exit (q_seqX (q_loopX (q_blkH (Ed (Eb [] rfl (Eg (Eh (Ea (Ee rfl) (Ef (Ed (Eb [2] rfl ?_)))))))))))
 refine Ek (Fa rfl rfl ?_)
 rotate_left
 all_goals
  first | (rw [all_no (p := wordB) (by assumption) (by assumption)]; done) | (rw [all_no (p := wordB) (by assumption) (by assumption)]; rfl) | (rw [all_end hi.2 (by omega)]; done) | (rw [all_end hi.2 (by omega)]; simp)
theorem c_40 (d : Dev) (hs : d.small) : CV prg 40 [.agg d.r] (fun res => res = .w (.bool d.ok)) := by
 have h1 := hs.1
 have h2 := hs.2
 refine cv_in g40 (Eb [0] rfl (Eg (Eh (Ea (o_box rfl rfl rfl) (Ea (Ee rfl) (Ef (Ed (Eb [1] rfl (Eg (Eh (Ea (Ee rfl) ?_)))))))))))
 refine Ef (Ed (Eb [1, 3] rfl (Eg (Eh (Ea (Ew rfl) (Ea (Fd rfl rfl rfl) ?_))))))
 first | refine Ea (o_lenM rfl) ?_ | refine Ea (o_len rfl) ?_ | refine Ea (o_lenL rfl rfl rfl) ?_ | refine Ea (o_lenN rfl) ?_
 refine Ea (o_eql rfl rfl) (Ea (Ee rfl) ?_)
 first | refine s_gDT rfl ?_ ?_ | refine s_gB rfl ?_ ?_
 intro h1
 try rw [nnp] at h1
 refine Ea (Ew rfl) (Ez rfl (Ea (Fd rfl rfl rfl) (Ez rfl ?_)))
 first | refine Ea (o_lenM rfl) ?_ | refine Ea (o_len rfl) ?_ | refine Ea (o_lenL rfl rfl rfl) ?_ | refine Ea (o_lenN rfl) ?_
 refine Ez rfl (Ea (o_leq rfl rfl) (Ea (Er rfl rfl) (Ea (Ee rfl) ?_)))
 first | refine s_gDT rfl ?_ ?_ | refine s_gB rfl ?_ ?_
 intro h2
 try rw [nnp] at h2
 refine Ea (Ew rfl) (Ez rfl (Ea (Fd rfl rfl rfl) (Ez rfl (Ea (Ee rfl) (s_keepO (is := [1, 3, 14, 16, 17]) rfl (Ez rfl (Fc rfl rfl (c_257 _ (by omega) _ _ rfl (fun v => !wordB v) (fun y _ => c_41 y)) (Ez rfl (Ea (o_not rfl) (Ea (Er rfl rfl) (Ea (Ee rfl) ?_)))))))))))
 first | refine s_gDT rfl ?_ ?_ | refine s_gNDT rfl ?_ ?_ | refine s_gNT rfl ?_ ?_ | refine s_gB rfl ?_ ?_
 intro h3
 try rw [nnp] at h3
 refine Ea (Ew rfl) (Ez rfl (Ea (Fd rfl rfl rfl) (Ez rfl (Ea (Ee rfl) (Ez rfl (Fc rfl rfl (c_257 _ (by omega) _ _ rfl (fun v => !wordB v) (fun y _ => c_41 y)) (Ez rfl (Ea (o_not rfl) (Ea (Er rfl rfl) (Ea (Ee rfl) ?_))))))))))
 first | refine s_gDT rfl ?_ ?_ | refine s_gNDT rfl ?_ ?_ | refine s_gNT rfl ?_ ?_ | refine s_gB rfl ?_ ?_
 intro h4
 try rw [nnp] at h4
 refine Ea (Ew rfl) (Ez rfl (Ea (Fd rfl rfl rfl) (Ez rfl ?_)))
 first | refine Fc rfl rfl (c_92 ..) ?_ | refine s_callL rfl rfl (by simp) (c_92 ..) rfl ?_
 refine s_keepO (is := [28, 31]) rfl (Ea (Er rfl rfl) (Ea (Ee rfl) (Ef (Ed (Eb [2] rfl (Ek (Fa rfl rfl ?_)))))))
 rotate_left
 intro h4
 try rw [nnp] at h4
 refine Ei rfl (Ei rfl (Ei rfl (s_keepO (is := [28, 31]) rfl (Ea (Ej rfl rfl) (Ea (Ee rfl) (Ef (Ed (Eb [2] rfl (Ek (Fa rfl rfl ?_))))))))))
 rotate_left
 intro h3
 try rw [nnp] at h3
 refine Ei rfl (Ei rfl (Ei rfl (Ei rfl (Ei rfl (Ea (Ej rfl rfl) (Ea (Ee rfl) (Ei rfl (Ei rfl (Ei rfl (s_keepO (is := [28, 31]) rfl (Ea (Ej rfl rfl) ?_)))))))))))
 refine Ea (Ee rfl) (Ef (Ed (Eb [2] rfl (Ek (Fa rfl rfl ?_)))))
 rotate_left
 intro h2
 try rw [nnp] at h2
 refine Ei rfl (Ei rfl (Ei rfl (s_keepO (is := [1, 3, 14, 16, 17]) rfl (Ei rfl (Ei rfl (Ea (Ej rfl rfl) (Ea (Ee rfl) (Ei rfl (Ei rfl (Ei rfl (Ei rfl ?_)))))))))))
 refine Ei rfl (Ea (Ej rfl rfl) (Ea (Ee rfl) (Ei rfl (Ei rfl (Ei rfl (s_keepO (is := [28, 31]) rfl (Ea (Ej rfl rfl) (Ea (Ee rfl) (Ef (Ed (Eb [2] rfl ?_)))))))))))
 refine Ek (Fa rfl rfl ?_)
 rotate_left
 intro h1
 try rw [nnp] at h1
 refine Ei rfl (Ei rfl (Ei rfl (Ei rfl (Ea (Ej rfl rfl) (Ea (Ee rfl) (Ei rfl (Ei rfl (Ei rfl (s_keepO (is := [1, 3, 14, 16, 17]) rfl (Ei rfl (Ei rfl ?_)))))))))))
 refine Ea (Ej rfl rfl) (Ea (Ee rfl) (Ei rfl (Ei rfl (Ei rfl (Ei rfl (Ei rfl (Ea (Ej rfl rfl) (Ea (Ee rfl) (Ei rfl (Ei rfl (Ei rfl ?_)))))))))))
 refine s_keepO (is := [28, 31]) rfl (Ea (Ej rfl rfl) (Ea (Ee rfl) (Ef (Ed (Eb [2] rfl (Ek (Fa rfl rfl ?_)))))))
 rotate_left
 all_goals
  clear hs; (try simp only [any_not'] at *); (try rw [show inB d.timer 0 (limit 2 - 1) = wordB d.timer from rfl] at *); unfold Dev.ok; generalize d.regs.all wordB = p at *; generalize d.fifo.all wordB = q at *; generalize wordB d.timer = w at *; generalize (d.regs.length : Int) = n1 at *; generalize (d.fifo.length : Int) = n2 at *; first | (simp_all; done) | (simp_all; intros; omega) | (simp_all; omega)
theorem c_189 (d : Dev) (hs : d.small) : CV prg 189 [.agg d.r] (fun res => res = .w (.bool d.ok)) := by
 have h1 := hs.1
 have h2 := hs.2
 have hz := limit_bd 2
 refine cv_in g189 (Eb [0] rfl (Eg (Eh (Ea (o_box rfl rfl rfl) (Ea (Ee rfl) (Ef (Ed (Eb [1] rfl (Eg (Eh (Ea (Ew rfl) ?_)))))))))))
 refine Ea (Fd rfl rfl rfl) ?_
 first | refine Ea (o_lenM rfl) ?_ | refine Ea (o_len rfl) ?_ | refine Ea (o_lenL rfl rfl rfl) ?_ | refine Ea (o_lenN rfl) ?_
 refine Ea (o_eql rfl rfl) (Ea (Ee rfl) ?_)
 first | refine s_gDT rfl ?_ ?_ | refine s_gB rfl ?_ ?_
 intro h1
 try rw [nnp] at h1
 refine Ea (Ew rfl) (Ez rfl (Ea (Fd rfl rfl rfl) (Ez rfl ?_)))
 first | refine Fc rfl rfl (c_250 _ (by omega)) ?_ | refine s_callL rfl rfl (by simp) (c_250 _ (by omega)) rfl ?_
 refine Ea (Er rfl rfl) (Ea (Ee rfl) ?_)
 first | refine s_gDT rfl ?_ ?_ | refine s_gNDT rfl ?_ ?_ | refine s_gNT rfl ?_ ?_ | refine s_gB rfl ?_ ?_
 intro h2
 try rw [nnp] at h2
 refine Ea (Ew rfl) (Ez rfl (Ea (Fd rfl rfl rfl) (Ez rfl (Fc rfl rfl (c_201 ..) (Ez rfl ?_)))))
 first | refine Ea (o_subn rfl rfl (by omega)) ?_ | refine Ea (o_sub rfl rfl) ?_
 refine s_keepO (is := [1, 12, 14, 16]) rfl (Ez rfl ?_)
 first | refine Fc rfl rfl (c_230 ..) ?_ | refine s_callL rfl rfl (by simp) (c_230 ..) rfl ?_
 refine Ea (Er rfl rfl) (Ea (Ee rfl) ?_)
 first | refine s_gDT rfl ?_ ?_ | refine s_gNDT rfl ?_ ?_ | refine s_gNT rfl ?_ ?_ | refine s_gB rfl ?_ ?_
 intro h3
 try rw [nnp] at h3
 refine Ea (Ew rfl) (Ez rfl (Ea (Fd rfl rfl rfl) (Ez rfl ?_)))
 first | refine Ea (o_lenM rfl) ?_ | refine Ea (o_len rfl) ?_ | refine Ea (o_lenL rfl rfl rfl) ?_ | refine Ea (o_lenN rfl) ?_
 refine Ez rfl (Ea (o_leq rfl rfl) (Ea (Er rfl rfl) (Ea (Ee rfl) ?_)))
 first | refine s_gDT rfl ?_ ?_ | refine s_gB rfl ?_ ?_
 intro h4
 try rw [nnp] at h4
 refine Ea (Ew rfl) (Ez rfl (Ea (Fd rfl rfl rfl) (Ez rfl ?_)))
 first | refine Fc rfl rfl (c_250 _ (by omega)) ?_ | refine s_callL rfl rfl (by simp) (c_250 _ (by omega)) rfl ?_
 refine Ea (Er rfl rfl) (Ea (Ee rfl) (Ef (Ed (Eb [2] rfl (Ek (Fa rfl rfl ?_))))))
 rotate_left
 intro h4
 try rw [nnp] at h4
 refine Ei rfl (Ei rfl (Ei rfl (Ea (Ej rfl rfl) (Ea (Ee rfl) (Ef (Ed (Eb [2] rfl (Ek (Fa rfl rfl ?_)))))))))
 rotate_left
 intro h3
 try rw [nnp] at h3
 refine Ei rfl (Ei rfl (Ei rfl (Ei rfl (Ea (Ej rfl rfl) (Ea (Ee rfl) (Ei rfl (Ei rfl (Ei rfl (Ea (Ej rfl rfl) (Ea (Ee rfl) (Ef ?_)))))))))))
 refine Ed (Eb [2] rfl (Ek (Fa rfl rfl ?_)))
 rotate_left
 intro h2
 try rw [nnp] at h2
 refine Ei rfl (Ei rfl (Ei rfl (Ei rfl (s_keepO (is := [1, 12, 14, 16]) rfl (Ei rfl (Ea (Ej rfl rfl) (Ea (Ee rfl) (Ei rfl (Ei rfl (Ei rfl (Ei rfl ?_)))))))))))
 refine Ea (Ej rfl rfl) (Ea (Ee rfl) (Ei rfl (Ei rfl (Ei rfl (Ea (Ej rfl rfl) (Ea (Ee rfl) (Ef (Ed (Eb [2] rfl (Ek (Fa rfl rfl ?_)))))))))))
 rotate_left
 intro h1
 try rw [nnp] at h1
 refine Ei rfl (Ei rfl (Ei rfl (Ea (Ej rfl rfl) (Ea (Ee rfl) (Ei rfl (Ei rfl (Ei rfl (Ei rfl (s_keepO (is := [1, 12, 14, 16]) rfl (Ei rfl (Ea (Ej rfl rfl) ?_)))))))))))
 refine Ea (Ee rfl) (Ei rfl (Ei rfl (Ei rfl (Ei rfl (Ea (Ej rfl rfl) (Ea (Ee rfl) (Ei rfl (Ei rfl (Ei rfl (Ea (Ej rfl rfl) (Ea (Ee rfl) ?_)))))))))))
 refine Ef (Ed (Eb [2] rfl (Ek (Fa rfl rfl ?_))))
 rotate_left
 all_goals
  clear hs; (try simp only [any_not'] at *); (try rw [show inB d.timer 0 (limit 2 - 1) = wordB d.timer from rfl] at *); unfold Dev.ok; generalize d.regs.all wordB = p at *; generalize d.fifo.all wordB = q at *; generalize wordB d.timer = w at *; generalize (d.regs.length : Int) = n1 at *; generalize (d.fifo.length : Int) = n2 at *; first | (simp_all; done) | (simp_all; intros; omega) | (simp_all; omega)
theorem c_53 (m : Model) (hs : m.small) : CV prg 53 [.agg m.r] (fun res => res = .w (.bool m.ok)) := by
 have h1 := hs.1
 have h2 := hs.2
 refine cv_in g53 (Eb [0] rfl (Eg (Eh (Ea (o_box rfl rfl rfl) (Ea (Ee rfl) (Ef (Ed (Eb [1] rfl (Eg (Eh (Ea (Ew rfl) ?_)))))))))))
 refine Ea (Fd rfl rfl rfl) ?_
 first | refine Ea (o_lenM rfl) ?_ | refine Ea (o_len rfl) ?_ | refine Ea (o_lenL rfl rfl rfl) ?_ | refine Ea (o_lenN rfl) ?_
 refine Ea (o_eql rfl rfl) (Ea (Ee rfl) ?_)
 first | refine s_gDT rfl ?_ ?_ | refine s_gB rfl ?_ ?_
 intro h1
 try rw [nnp] at h1
 refine Ea (Ew rfl) (Ez rfl (Ea (Fd rfl rfl rfl) (Ez rfl ?_)))
 first | refine Fc rfl rfl (c_86 _ _ _ (by omega)) ?_ | refine s_callL rfl rfl (by simp) (c_86 _ _ _ (by omega)) rfl ?_
 refine Ea (Er rfl rfl) (Ea (Ee rfl) ?_)
 first | refine s_gDT rfl ?_ ?_ | refine s_gNDT rfl ?_ ?_ | refine s_gNT rfl ?_ ?_ | refine s_gB rfl ?_ ?_
 intro h2
 try rw [nnp] at h2
 refine Ea (Ew rfl) (Ez rfl (Ea (Em rfl rfl rfl) (Ez rfl ?_)))
 first | refine Fc rfl rfl (c_40 m.dev hs.2) ?_ | refine s_callL rfl rfl (by simp) (c_40 m.dev hs.2) rfl ?_
 refine Ea (Er rfl rfl) (Ea (Ee rfl) (Ef (Ed (Eb [2] rfl (Ek (Fa rfl rfl ?_))))))
 rotate_left
 intro h2
 try rw [nnp] at h2
 refine Ei rfl (Ei rfl (Ei rfl (Ea (Ej rfl rfl) (Ea (Ee rfl) (Ef (Ed (Eb [2] rfl (Ek (Fa rfl rfl ?_)))))))))
 rotate_left
 intro h1
 try rw [nnp] at h1
 refine Ei rfl (Ei rfl (Ei rfl (Ea (Ej rfl rfl) (Ea (Ee rfl) (Ei rfl (Ei rfl (Ei rfl (Ea (Ej rfl rfl) (Ea (Ee rfl) (Ef (Ed ?_)))))))))))
 refine Eb [2] rfl (Ek (Fa rfl rfl ?_))
 rotate_left
 all_goals
  clear hs; unfold Model.ok; first | (simp only [fits0 (by assumption)] at *; generalize m.ram.all byteB = p at *; simp_all; done) | (generalize m.ram.all byteB = p at *; simp_all; done) | (generalize m.ram.all byteB = p at *; simp_all; omega)
theorem c_203 (m : Model) (hs : m.small) : CV prg 203 [.agg m.r] (fun res => res = .w (.bool m.ok)) := by
 have h1 := hs.1
 have h2 := hs.2
 refine cv_in g203 (Eb [0] rfl (Eg (Eh (Ea (o_box rfl rfl rfl) (Ea (Ee rfl) (Ef (Ed (Eb [1] rfl (Eg (Eh (Ea (Ew rfl) ?_)))))))))))
 refine Ea (Fd rfl rfl rfl) ?_
 first | refine Ea (o_lenM rfl) ?_ | refine Ea (o_len rfl) ?_ | refine Ea (o_lenL rfl rfl rfl) ?_ | refine Ea (o_lenN rfl) ?_
 refine Ea (o_eql rfl rfl) (Ea (Ee rfl) ?_)
 first | refine s_gDT rfl ?_ ?_ | refine s_gB rfl ?_ ?_
 intro h1
 try rw [nnp] at h1
 refine Ea (Ew rfl) (Ez rfl (Ea (Fd rfl rfl rfl) (Ez rfl ?_)))
 first | refine Fc rfl rfl (c_238 _ (by omega)) ?_ | refine s_callL rfl rfl (by simp) (c_238 _ (by omega)) rfl ?_
 refine Ea (Er rfl rfl) (Ea (Ee rfl) ?_)
 first | refine s_gDT rfl ?_ ?_ | refine s_gNDT rfl ?_ ?_ | refine s_gNT rfl ?_ ?_ | refine s_gB rfl ?_ ?_
 intro h2
 try rw [nnp] at h2
 refine Ea (Ew rfl) (Ez rfl (Ea (Em rfl rfl rfl) (Ez rfl ?_)))
 first | refine Fc rfl rfl (c_189 m.dev hs.2) ?_ | refine s_callL rfl rfl (by simp) (c_189 m.dev hs.2) rfl ?_
 refine Ea (Er rfl rfl) (Ea (Ee rfl) (Ef (Ed (Eb [2] rfl (Ek (Fa rfl rfl ?_))))))
 rotate_left
 intro h2
 try rw [nnp] at h2
 refine Ei rfl (Ei rfl (Ei rfl (Ea (Ej rfl rfl) (Ea (Ee rfl) (Ef (Ed (Eb [2] rfl (Ek (Fa rfl rfl ?_)))))))))
 rotate_left
 intro h1
 try rw [nnp] at h1
 refine Ei rfl (Ei rfl (Ei rfl (Ea (Ej rfl rfl) (Ea (Ee rfl) (Ei rfl (Ei rfl (Ei rfl (Ea (Ej rfl rfl) (Ea (Ee rfl) (Ef (Ed ?_)))))))))))
 refine Eb [2] rfl (Ek (Fa rfl rfl ?_))
 rotate_left
 all_goals
  clear hs; unfold Model.ok; first | (simp only [fits0 (by assumption)] at *; generalize m.ram.all byteB = p at *; simp_all; done) | (generalize m.ram.all byteB = p at *; simp_all; done) | (generalize m.ram.all byteB = p at *; simp_all; omega)
def liveL (b : Bus) : List Beat := [b.addr, b.data].filter (fun x => x.live)
def Beat.none : Beat := ⟨false, 0, 0, false, 0, 0, 0, false⟩
def cntW (l : List Beat) (i : Nat) : Int := ((l.filter (fun x : Beat => decide (x.who = (i : Int)))).length : Int)
def fl (b : Bus) (j : Nat) : List (List V) := (List.range b.ms.length).map (fun i => iR (cntW ((liveL b).take j) i))
theorem cg_253 (xs : List Int) (hl : xs.length ≤ 1048576) : GV prg 253 [] [.sl 1 (xs.map iR)] (fun u L1 => u = .ls 0 xs.length ∧ L1 = [.arr 1 (xs.map iR)]) := by
 refine gv_in g253 (Eb [0] rfl (Eg (Eh (Ea (Ee rfl) (Ef (Ed (Eb [0] rfl (Eg (Eg (Eh (Ea (Ee rfl) ?_)))))))))))
 refine s_eqnilS rfl ?_ ?_
 refine Ef (Ed (Eb [0, 4] rfl (Fe rfl (Fb (Ed (Eb [0] rfl (Eg (Eh (Ea (o_bs rfl rfl rfl rfl) (Ea (Ee rfl) ?_))))))))))
 first | refine Ea (o_appL rfl rfl rfl rfl rfl rfl rfl (by simp [roomy]; omega)) ?_ | refine Ea (o_app rfl rfl rfl rfl rfl (by simp [roomy]; omega)) ?_
 refine Ea (Ee rfl) (Ef (Ed (Eb [2] rfl ?_)))
 first | refine s_nil 2 1 rfl ⟨rfl, rfl⟩ rfl ?_ | skip
 refine Ek ?_
 · refine Ec [0] (.inr rfl) rfl rfl rfl rfl (show (List.range 0 ++ [0]).Nodup by decide) ?_
   first | (have : xs = [] := List.map_eq_nil_iff.1 hnil
            subst this; exact ⟨rfl, rfl⟩) | exact ⟨by simp, rfl⟩
 intro hnil
 refine Ef (Ed (Eb [0, 4] rfl (Fh rfl (Eg (Eh (Ea (Ee rfl) (Ef (Ed (Eb [2] rfl ?_)))))))))
 first | refine s_nil 2 1 rfl ⟨rfl, rfl⟩ rfl ?_ | skip
 refine Ek (Ev ?_)
 · refine Ec [0] (.inr rfl) rfl rfl rfl rfl (show (List.range 0 ++ [0]).Nodup by decide) ?_
   first | (have : xs = [] := List.map_eq_nil_iff.1 hnil
            subst this; exact ⟨rfl, rfl⟩) | exact ⟨by simp, rfl⟩
def Mst.backC (m : Mst) : Bool := m.right && decide (m.beat ≠ m.done)
def Mst.back (m : Mst) : Mst × Bool := if m.backC then (⟨m.queue, m.beat - 1, m.done, m.tries, m.parted, m.broken⟩, true) else (m, false)
def Mst.finC (m : Mst) : Bool := m.right && decide (m.beat ≠ m.done)
def Mst.fin (m : Mst) : Mst × Bool := if m.finC then (if m.done + 1 = m.beats then (⟨m.queue.drop 1, 0, 0, 0, false, false⟩, true) else (⟨m.queue, m.beat, m.done + 1, 0, false, m.broken⟩, true)) else (m, false)
def Mst.postC (m : Mst) (x : Req) : Bool := m.right && x.ok && decide (¬ (m.queue.length : Int) = 4)
def Mst.post (m : Mst) (x : Req) : Mst × Bool := if m.postC x then (⟨m.queue ++ [x], m.beat, m.done, m.tries, m.parted, m.broken⟩, true) else (m, false)
def Mst.fit (m : Mst) : Prop := m.queue.length ≤ 4 ∧ ∀ x, x ∈ m.queue → x.data.length ≤ 16
def Mst.fit5 (m : Mst) : Prop := m.queue.length ≤ 5 ∧ ∀ x, x ∈ m.queue → x.data.length ≤ 16
theorem Mst.fit.to5 {m : Mst} (h : m.fit) : m.fit5 := ⟨Nat.le_trans h.1 (by decide), h.2⟩
theorem Mst.fit5.small {m : Mst} (h : m.fit5) : m.small := ⟨Nat.le_trans h.1 (by decide), fun x hx => Nat.le_trans (h.2 x hx) (by decide)⟩
theorem Mst.fit.small {m : Mst} (h : m.fit) : m.small := h.to5.small
theorem Mst.fit.back {m : Mst} (h : m.fit) : m.back.1.fit := by
 unfold Mst.back
 split
 · exact h
 · exact h
theorem Mst.fit.fin {m : Mst} (h : m.fit) : m.fin.1.fit := by
 unfold Mst.fin
 split
 · split
   · exact ⟨by simp only [List.length_drop]; have := h.1; omega, fun x hx => h.2 x (List.mem_of_mem_drop hx)⟩
   · exact h
 · exact h
theorem Mst.fit.post {m : Mst} (h : m.fit) {x : Req} (hx : x.data.length ≤ 16) : (m.post x).1.fit := by
 unfold Mst.post
 split
 · rename_i hc
   unfold Mst.postC at hc
   simp only [Bool.and_eq_true, decide_eq_true_eq] at hc
   refine ⟨by simp only [List.length_append, List.length_cons, List.length_nil]; have := h.1; omega, fun y hy => ?_⟩
   rcases List.mem_append.1 hy with hy | hy
   · exact h.2 y hy
   · rw [List.mem_singleton.1 hy]; exact hx
 · exact h
def Mst.n (x : Mst) : List V := [.w (.slice none 0 0), .w (.int .i64 x.beat), .w (.int .i64 x.done), .w (.int .i64 x.tries), .w (.bool x.parted), .w (.bool x.broken)]
theorem cg_379 (xs ys : List Int) (t k : Int) (hx : xs.length ≤ 1048576) (hy : ys.length ≤ 1048576) (hk : 0 ≤ k ∧ k ≤ 549755813888) : GV prg 379 [.arr 1 (xs.map iR), .arr 1 (ys.map iR)] [.agg [.ls 0 xs.length, .w (.int .i64 t), .ls 1 ys.length], .w (.int .i64 k)] (fun u L1 => u = .w (.int .i64 (k + 1 * xs.length + 1 * ys.length)) ∧ L1 = [.arr 1 (((List.range xs.length).map (markI k)).map iR), .arr 1 (((List.range ys.length).map (markI (k + 1 * xs.length))).map iR)]) := by
 refine gv_in g379 (Eb [0, 1] rfl (Eg (Eh (Ea (o_box rfl rfl rfl) (Ea (Ee rfl) (Ef (Ed (Eb [1, 2] rfl (Eg (Eh (Ea (Ew rfl) ?_)))))))))))
 refine Ea (Fd rfl rfl rfl) (Ea (Ee rfl) (s_callG [0] rfl rfl rfl rfl (by simp) (.inl rfl) (cg_337 _ _ hx (by omega)) ?_))
 rintro u L1 ⟨rfl, rfl⟩
 refine ⟨_, _, rfl, rfl, ?_⟩
 refine Ea (Ee rfl) (Ef (Ed (Eb [1, 2] rfl (Eg (Eh (Ea (Ew rfl) (Ea (Fd rfl rfl rfl) (Ea (Ee rfl) (s_callG [1] rfl rfl rfl rfl (by simp) (.inl rfl) (cg_337 _ _ hy (by omega)) ?_)))))))))
 rintro u L1 ⟨rfl, rfl⟩
 refine ⟨_, _, rfl, rfl, ?_⟩
 refine Ea (Ee rfl) (Ef (Ed (Eb [1] rfl (Eg (Eh (Ea (Ee rfl) (Ea (Ee rfl) (Ef (Ed (Eb [4] rfl (Ek ?_)))))))))))
 · refine Ec [] (.inr rfl) rfl rfl rfl rfl (show (List.range 2 ++ []).Nodup by decide) ?_
   exact ⟨rfl, rfl⟩
theorem c_381 (n m : Nat) (t k : Int) (hn : n ≤ 1048576) (hm : m ≤ 1048576) (hk : 0 ≤ k ∧ k ≤ 549755813888) : CV prg 381 [.agg [.sl 1 (((List.range n).map (markI k)).map iR), .w (.int .i64 t), .sl 1 (((List.range m).map (markI (k + 1 * n))).map iR)], .w (.int .i64 k)] (fun res => res = .w (.int .i64 (k + 1 * n + 1 * m))) := by
 refine cv_in g381 (Eb [0, 1] rfl (Eg (Eh (Ea (o_box rfl rfl rfl) (Ea (Ee rfl) (Ef (Ed (Eb [1, 2] rfl (Eg (Eh (Ea (Ew rfl) ?_)))))))))))
 refine Ea (Fd rfl rfl rfl) (Ea (Ee rfl) ?_)
 first | refine Fc rfl rfl (c_380 _ _ (by omega) (by omega)) ?_ | refine s_callL rfl rfl (by simp) (c_380 _ _ (by omega) (by omega)) rfl ?_
 refine Ea (Ee rfl) (Ef (Ed (Eb [1, 2] rfl (Eg (Eg (Eh (Ea (Ee rfl) (Ea (o_lss rfl rfl) (Ef (Ed (Eb [1, 2, 10] rfl ?_)))))))))))
 first | refine Eu rfl ?_ ?_ | refine Et rfl ?_ ?_
 intro h1
 try rw [nnp] at h1
 refine Eg (Eh (Ea (Ee rfl) (Ef (Ed (Eb [4] rfl (Ek (Ev (ret_leafIR rfl rfl ?_))))))))
 rotate_left
 intro h1
 try rw [nnp] at h1
 refine Fb (Ed (Eb [1, 2] rfl (Eg (Eh (Ea (Ew rfl) (Ea (Fd rfl rfl rfl) (Ea (Ee rfl) ?_)))))))
 first | refine Fc rfl rfl (c_380 _ _ (by omega) (by omega)) ?_ | refine s_callL rfl rfl (by simp) (c_380 _ _ (by omega) (by omega)) rfl ?_
 refine Ea (Ee rfl) (Ef (Ed (Eb [1] rfl (Eg (Eg (Eh (Ea (Ee rfl) (Ea (o_lss rfl rfl) (Ef (Ed (Eb [1, 16] rfl ?_)))))))))))
 first | refine Eu rfl ?_ ?_ | refine Et rfl ?_ ?_
 intro h2
 try rw [nnp] at h2
 refine Eg (Eh (Ea (Ee rfl) (Ef (Ed (Eb [4] rfl (Ek (Ev (ret_leafIR rfl rfl ?_))))))))
 rotate_left
 intro h2
 try rw [nnp] at h2
 refine Fb (Ed (Eb [1] rfl (Eg (Eh (Ea (Ee rfl) (Ea (Ee rfl) (Ef (Ed (Eb [4] rfl (Ek (ret_leafIR rfl rfl ?_)))))))))))
 rotate_left
 all_goals
  first | rfl | (exfalso; omega)
theorem cg_362 (zs xs ys : List Int) (t k : Int) (hz : zs.length ≤ 1048576) (hx : xs.length ≤ 1048576) (hy : ys.length ≤ 1048576) (hk : 0 ≤ k ∧ k ≤ 274877906944) : GV prg 362 [.arr 1 (zs.map iR), .arr 1 (xs.map iR), .arr 1 (ys.map iR)] [.agg [.ls 0 zs.length, .ls 1 xs.length, .w (.int .i64 t), .ls 2 ys.length], .w (.int .i64 k)] (fun u L1 => u = .w (.int .i64 (k + 1 * zs.length + 1 * xs.length + 1 * ys.length)) ∧ L1 = [.arr 1 (((List.range zs.length).map (markI k)).map iR), .arr 1 (((List.range xs.length).map (markI (k + 1 * zs.length))).map iR), .arr 1 (((List.range ys.length).map (markI (k + 1 * zs.length + 1 * xs.length))).map iR)]) := by
 refine gv_in g362 (Eb [0, 1] rfl (Eg (Eh (Ea (o_box rfl rfl rfl) (Ea (Ee rfl) (Ef (Ed (Eb [1, 2] rfl (Eg (Eh (Ea (Ew rfl) ?_)))))))))))
 refine Ea (Fd rfl rfl rfl) (Ea (Ee rfl) (s_callG [0] rfl rfl rfl rfl (by simp) (.inl rfl) (cg_337 _ _ hz (by omega)) ?_))
 rintro u L1 ⟨rfl, rfl⟩
 refine ⟨_, _, rfl, rfl, ?_⟩
 refine Ea (Ee rfl) (Ef (Ed (Eb [1, 2] rfl (Eg (Eh (Ea (Ew rfl) (Ea (Em rfl rfl rfl) (Ea (Ee rfl) (s_callG [1, 2] rfl rfl rfl rfl (by simp) (.inl rfl) (cg_379 _ _ _ _ hx hy (by omega)) ?_)))))))))
 rintro u L1 ⟨rfl, rfl⟩
 refine ⟨_, _, rfl, rfl, ?_⟩
 refine Ea (Ee rfl) (Ef (Ed (Eb [1] rfl (Eg (Eh (Ea (Ee rfl) (Ea (Ee rfl) (Ef (Ed (Eb [4] rfl (Ek ?_)))))))))))
 · refine Ec [] (.inr rfl) rfl rfl rfl rfl (show (List.range 3 ++ []).Nodup by decide) ?_
   exact ⟨rfl, rfl⟩
theorem c_363 (l n m : Nat) (t k : Int) (hl : l ≤ 1048576) (hn : n ≤ 1048576) (hm : m ≤ 1048576) (hk : 0 ≤ k ∧ k ≤ 274877906944) : CV prg 363 [.agg [.sl 1 (((List.range l).map (markI k)).map iR), .sl 1 (((List.range n).map (markI (k + 1 * l))).map iR), .w (.int .i64 t), .sl 1 (((List.range m).map (markI (k + 1 * l + 1 * n))).map iR)], .w (.int .i64 k)] (fun res => res = .w (.int .i64 (k + 1 * l + 1 * n + 1 * m))) := by
 refine cv_in g363 (Eb [0, 1] rfl (Eg (Eh (Ea (o_box rfl rfl rfl) (Ea (Ee rfl) (Ef (Ed (Eb [1, 2] rfl (Eg (Eh (Ea (Ew rfl) ?_)))))))))))
 refine Ea (Fd rfl rfl rfl) (Ea (Ee rfl) ?_)
 first | refine Fc rfl rfl (c_380 _ _ hl (by omega)) ?_ | refine s_callL rfl rfl (by simp) (c_380 _ _ hl (by omega)) rfl ?_
 refine Ea (Ee rfl) (Ef (Ed (Eb [1, 2] rfl (Eg (Eg (Eh (Ea (Ee rfl) (Ea (o_lss rfl rfl) (Ef (Ed (Eb [1, 2, 10] rfl ?_)))))))))))
 first | refine Eu rfl ?_ ?_ | refine Et rfl ?_ ?_
 intro h1
 try rw [nnp] at h1
 refine Eg (Eh (Ea (Ee rfl) (Ef (Ed (Eb [4] rfl (Ek (Ev (ret_leafIR rfl rfl ?_))))))))
 rotate_left
 intro h1
 try rw [nnp] at h1
 refine Fb (Ed (Eb [1, 2] rfl (Eg (Eh (Ea (Ew rfl) (Ea (Em rfl rfl rfl) (Ea (Ee rfl) ?_)))))))
 first | refine Fc rfl rfl (c_381 _ _ _ _ hn hm (by omega)) ?_ | refine s_callL rfl rfl (by simp) (c_381 _ _ _ _ hn hm (by omega)) rfl ?_
 refine Ea (Ee rfl) (Ef (Ed (Eb [1] rfl (Eg (Eg (Eh (Ea (Ee rfl) (Ea (o_lss rfl rfl) (Ef (Ed (Eb [1, 16] rfl ?_)))))))))))
 first | refine Eu rfl ?_ ?_ | refine Et rfl ?_ ?_
 intro h2
 try rw [nnp] at h2
 refine Eg (Eh (Ea (Ee rfl) (Ef (Ed (Eb [4] rfl (Ek (Ev (ret_leafIR rfl rfl ?_))))))))
 rotate_left
 intro h2
 try rw [nnp] at h2
 refine Fb (Ed (Eb [1] rfl (Eg (Eh (Ea (Ee rfl) (Ea (Ee rfl) (Ef (Ed (Eb [4] rfl (Ek (ret_leafIR rfl rfl ?_)))))))))))
 rotate_left
 all_goals
  first | rfl | (exfalso; omega)
def model0 : Model := ⟨List.replicate 192 0, ⟨List.replicate 4 0, 0, []⟩⟩
def Bus.mid (b : Bus) : List V := [.w (.int .i64 b.holder), .w (.int .i64 b.kept), .w (.int .i64 b.last), .w (.bool b.addr.live), .w (.int .i64 b.addr.who), .w (.int .i64 b.addr.num), .w (.bool b.addr.first), .w (.int .i64 b.addr.via), .w (.int .i64 b.addr.left), .w (.int .i64 b.addr.resp), .w (.bool b.addr.second), .w (.bool b.data.live), .w (.int .i64 b.data.who), .w (.int .i64 b.data.num), .w (.bool b.data.first), .w (.int .i64 b.data.via), .w (.int .i64 b.data.left), .w (.int .i64 b.data.resp), .w (.bool b.data.second)]
def Bus.o (b : Bus) : List V := [.ls 0 b.conf.masters.length, .w (.int .i64 b.conf.quantum), .w (.int .i64 b.conf.maxWait), .w (.int .i64 b.conf.maxRetry), .w (.int .i64 b.conf.maxSplit), .w (.int .i64 b.conf.lockMost), .w (.int .i64 b.now), .ls 1 b.ms.length, .w (.int .i64 b.arb.pos), .w (.int .i64 b.arb.credit), .ls 2 b.buckets.length, .ls 3 b.splits.length] ++ b.mid ++ [.ls 4 b.model.ram.length, .ls 5 b.model.dev.regs.length, .w (.int .i64 b.model.dev.timer), .ls 6 b.model.dev.fifo.length, .w (.int .i64 b.picks), .ls 7 b.log.length]
def Bus.n (b : Bus) : List V := [.sl 4 (b.conf.masters.map MConf.r), .w (.int .i64 b.conf.quantum), .w (.int .i64 b.conf.maxWait), .w (.int .i64 b.conf.maxRetry), .w (.int .i64 b.conf.maxSplit), .w (.int .i64 b.conf.lockMost), .w (.int .i64 b.now), .sl 6 (b.ms.map Mst.n), .w (.int .i64 b.arb.pos), .w (.int .i64 b.arb.credit), .sl 2 (b.buckets.map Bucket.r), .sl 1 (b.splits.map iR)] ++ b.mid ++ [.sl 1 (b.model.ram.map iR), .sl 1 (b.model.dev.regs.map iR), .w (.int .i64 b.model.dev.timer), .sl 1 (b.model.dev.fifo.map iR), .w (.int .i64 b.picks), .sl 7 (b.log.map Done.r)]
theorem rep192 : List.replicate (192 : Int).toNat [V.w (.int .i64 0)] = (List.replicate 192 (0 : Int)).map iR := by rw [List.map_replicate]; rfl
theorem cg_400  : GV prg 400 [] [] (fun u L1 => u = .agg [.ls 0 4, .w (.int .i64 0), .w (.slice none 0 0)] ∧ L1 = [.arr 1 ((List.replicate 4 (0 : Int)).map iR)]) := by
 refine gv_in g400 (Eb [] rfl (Eg (Eh (Ea (o_new rfl rfl) (Ef (Ed (Eb [0] rfl (Eg (Eh (Ea (o_mk rfl rfl rfl rfl (by decide) rfl) (Ea (o_bd rfl rfl) ?_)))))))))))
 refine Ep (Eo rfl rfl rfl rfl rfl rfl rfl) (Ef (Ed (Eb [0] rfl (Ek ?_))))
 · refine Ec [1] (.inr rfl) rfl rfl rfl rfl (show (List.range 0 ++ [1]).Nodup by decide) ?_
   exact ⟨rfl, rfl⟩
theorem cg_188  : GV prg 188 [] [] (fun u L1 => u = .agg [.ls 0 4, .w (.int .i64 0), .w (.slice none 0 0)] ∧ L1 = [.arr 1 ((List.replicate 4 (0 : Int)).map iR)]) := by
 refine gv_in g188 (Eb [] rfl (Eg (Eh (Ea (o_new rfl rfl) (Ef (Ed (Eb [0] rfl (Eg (Eh (Ea (o_mk rfl rfl rfl rfl (by decide) rfl) (Ea (o_bd rfl rfl) ?_)))))))))))
 refine Ep (Eo rfl rfl rfl rfl rfl rfl rfl) (Ef (Ed (Eb [0] rfl (Ek ?_))))
 · refine Ec [1] (.inr rfl) rfl rfl rfl rfl (show (List.range 0 ++ [1]).Nodup by decide) ?_
   exact ⟨rfl, rfl⟩
theorem cg_378  : GV prg 378 [] [] (fun u L1 => u = .agg [.ls 0 192, .ls 1 4, .w (.int .i64 0), .w (.slice none 0 0)] ∧ L1 = [.arr 1 ((List.replicate 192 (0 : Int)).map iR), .arr 1 ((List.replicate 4 (0 : Int)).map iR)]) := by
 refine gv_in g378 (Eb [] rfl (Eg (Eh (Ea (o_new rfl rfl) (Ef (Ed (Eb [0] rfl (Eg (Eh (Ea (o_mk rfl rfl rfl rfl (by decide) rfl) (s_callG [] rfl rfl rfl rfl (by simp) (.inr rfl) (cg_400) ?_)))))))))))
 rintro u L1 ⟨rfl, rfl⟩
 refine ⟨_, _, rfl, rfl, ?_⟩
 refine Ea (o_bd rfl rfl) (Ep (Eo rfl rfl rfl rfl rfl rfl rfl) (Ef (Ed (Eb [0] rfl (Ek ?_)))))
 · refine Ec [1, 2] (.inr rfl) rfl rfl rfl rfl (show (List.range 0 ++ [1, 2]).Nodup by decide) ?_
   exact ⟨rfl, by rw [rep192]⟩
def Bus.rows (b : Bus) : List LB := [.arr 4 (b.conf.masters.map MConf.r), .arr 6 (b.ms.map Mst.n), .arr 2 (b.buckets.map Bucket.r), .arr 1 (b.splits.map iR), .arr 1 (b.model.ram.map iR), .arr 1 (b.model.dev.regs.map iR), .arr 1 (b.model.dev.fifo.map iR), .arr 7 (b.log.map Done.r)]
def bor (a b : Int) : Int := IntKind.wrap .i64 ((BitVec.ofInt 64 a ||| BitVec.ofInt 64 b).toNat : Nat)
theorem o_bor {G : Prg} {q : Bool} {tl : Tl} {L : List LB} {x y a b} (hx : evE tl x = some (.w (.int .i64 a))) (hy : evE tl y = some (.w (.int .i64 b))) : OpV G q (.bin .or x y) tl L (some (.w (.int .i64 (bor a b)))) L :=
 o_bin hx hy rfl rfl
theorem bor_nat {a b : Nat} (ha : a < 4611686018427387904) (hb : b < 4611686018427387904) : bor a b = ((a ||| b : Nat) : Int) := by
 have h : a ||| b < 4611686018427387904 := Nat.or_lt_two_pow (n := 62) ha hb
 unfold bor
 rw [BitVec.ofInt_natCast, BitVec.ofInt_natCast, BitVec.toNat_or, BitVec.toNat_ofNat, BitVec.toNat_ofNat, Nat.mod_eq_of_lt (by omega), Nat.mod_eq_of_lt (by omega), wrap_in _ (by omega)]
theorem band_nat {a : Nat} (ha : a < 4611686018427387904) : band a 255 = ((a % 256 : Nat) : Int) := by
 unfold band
 rw [show (255 : Int) = ((255 : Nat) : Int) from rfl, BitVec.ofInt_natCast, BitVec.ofInt_natCast, BitVec.toNat_and, BitVec.toNat_ofNat, BitVec.toNat_ofNat, Nat.mod_eq_of_lt (by omega), Nat.mod_eq_of_lt (by omega)]
 have h := Nat.and_two_pow_sub_one_eq_mod a 8
 rw [show (2 : Nat) ^ 8 - 1 = 255 from rfl, show (2 : Nat) ^ 8 = 256 from rfl] at h
 rw [h, wrap_in _ (by omega)]
theorem or_add {n y k : Nat} (h : n < 2 ^ k) : n ||| y * 2 ^ k = n + y * 2 ^ k := by
 rw [Nat.or_comm, ← Nat.shiftLeft_eq, ← Nat.shiftLeft_add_eq_or_of_lt h, Nat.add_comm]
def byteAt (xs : List Int) (k : Int) : Int := (xs[k.toNat]?).getD 0
theorem byteAt_of {xs : List Int} {k y : Int} (h : xs[k.toNat]? = some y) : byteAt xs k = y := by unfold byteAt; rw [h]; rfl
def top (xs : List Int) : Nat → Int → Int
 | 0, _ => 0
 | c + 1, k => byteAt xs k + 256 * top xs c (k + 1)
def psum (xs : List Int) (a : Int) : Nat → Int
 | 0 => 0
 | i + 1 => psum xs a i + byteAt xs (a + i) * 256 ^ i
theorem top_psum (xs : List Int) (a : Int) (n : Nat) : ∀ i, i ≤ n → top xs n a = psum xs a i + 256 ^ i * top xs (n - i) (a + i)
 | 0, _ => by simp [psum]
 | i + 1, h => by
   rw [top_psum xs a n i (by omega), show n - i = (n - (i + 1)) + 1 by omega, top, psum, Int.pow_succ, Int.mul_add, show a + (i : Int) + 1 = a + ((i + 1 : Nat) : Int) by omega, Int.mul_comm (byteAt xs (a + i)) (256 ^ i), ← Int.mul_assoc, ← Int.add_assoc]
theorem psum_end (xs : List Int) (a : Int) (n : Nat) : psum xs a n = top xs n a := by
 rw [top_psum xs a n n (Nat.le_refl _), Nat.sub_self]; simp [top]
def bytesOk (xs : List Int) : Prop := ∀ k, 0 ≤ byteAt xs k ∧ byteAt xs k ≤ 255
theorem bytesOk_of {xs : List Int} (h : xs.all byteB = true) : bytesOk xs := by
 intro k
 unfold byteAt
 cases e : xs[k.toNat]? with
 | none => simp
 | some y =>
   have := inB_t (List.all_eq_true.1 h y (List.mem_of_getElem? e))
   simp; omega
theorem fits_bd {xs : List Int} {a z : Int} (h : fitsB xs a z = true) : 0 ≤ a ∧ (bytes z = 1 ∨ bytes z = 2 ∨ bytes z = 4) ∧ a + bytes z ≤ xs.length ∧ (xs.length : Int) ≤ 512 ∧ bytesOk xs := by
 simp only [fitsB, Bool.and_eq_true, decide_eq_true_eq] at h
 obtain ⟨⟨⟨h1, h2⟩, h3⟩, h4⟩ := h
 obtain ⟨h5, h6, h7⟩ := aligned_t h3
 exact ⟨h6, h7, by omega, h1, bytesOk_of h2⟩
theorem byte_bd {xs : List Int} (h : bytesOk xs) {k : Int} {y : Int} (hy : xs[k.toNat]? = some y) : 0 ≤ y ∧ y ≤ 255 := by
 have := h k
 rwa [byteAt_of hy] at this
theorem top_bd {xs : List Int} (h : bytesOk xs) : ∀ (c : Nat) (k : Int), 0 ≤ top xs c k ∧ top xs c k < 256 ^ c
 | 0, k => by simp [top]
 | c + 1, k => by
   have h1 := top_bd h c (k + 1)
   have h2 := h k
   rw [top, Int.pow_succ]
   omega
theorem top_lt {c : Nat} {t : Int} (hc : c ≤ 4) (h : 0 ≤ t ∧ t < 256 ^ c) : 0 ≤ t ∧ t < 4294967296 ∧ (c ≤ 3 → t < 16777216) := by
 rcases (show c = 0 ∨ c = 1 ∨ c = 2 ∨ c = 3 ∨ c = 4 by omega) with rfl | rfl | rfl | rfl | rfl <;> simp at h <;> omega
theorem top_step {xs : List Int} {a n y : Int} {c : Nat} (hy : xs[(a + (n - 1 - (c : Int))).toNat]? = some y) : top xs c (a + (n - (c : Int))) * 256 + y = top xs (c + 1) (a + (n - ((c + 1 : Nat) : Int))) := by
 rw [top, show a + (n - ((c + 1 : Nat) : Int)) = a + (n - 1 - (c : Int)) by omega, byteAt_of hy, show a + (n - 1 - (c : Int)) + 1 = a + (n - (c : Int)) by omega]
 omega
theorem psum_bd {xs : List Int} (h : bytesOk xs) (a : Int) (i : Nat) : 0 ≤ psum xs a i ∧ psum xs a i < 256 ^ i := by rw [psum_end]; exact top_bd h i a
theorem or_step {xs : List Int} (h : bytesOk xs) {a y : Int} {i : Nat} (hi : i ≤ 3) (hy : xs[(a + (i : Int)).toNat]? = some y) : bor (psum xs a i) (IntKind.wrap .i64 (y * 2 ^ (min (8 * (i : Int)).toNat 64))) = psum xs a (i + 1) := by
 have h1 := psum_bd h a i
 have h2 := h (a + i)
 rw [byteAt_of hy] at h2
 rw [psum, byteAt_of hy]
 obtain ⟨n, hn⟩ : ∃ n : Nat, psum xs a i = n := ⟨(psum xs a i).toNat, by omega⟩
 obtain ⟨m, rfl⟩ : ∃ m : Nat, y = m := ⟨y.toNat, by omega⟩
 rw [hn] at h1 ⊢
 have e : (8 * (i : Int)).toNat = 8 * i := by omega
 rw [e, Nat.min_eq_left (by omega)]
 have hk : ∀ k : Nat, 8 * i = k → n < 2 ^ k → m * 2 ^ k < 4611686018427387904 → n < 4611686018427387904 → (256 : Int) ^ i = ((2 ^ k : Nat) : Int) → bor (n : Int) (IntKind.wrap .i64 ((m : Int) * 2 ^ (8 * i))) = (n : Int) + (m : Int) * 256 ^ i := by
  intro k hk1 hk2 hk3 hk4 hk5
  rw [hk1, hk5, show (m : Int) * 2 ^ k = ((m * 2 ^ k : Nat) : Int) by simp, wrap_in _ (by omega), bor_nat hk4 hk3, or_add hk2]
  simp
 clear hn hy e
 rcases (show i = 0 ∨ i = 1 ∨ i = 2 ∨ i = 3 by omega) with rfl | rfl | rfl | rfl
 · exact hk 0 rfl (by simp at h1; omega) (by simp; omega) (by simp at h1; omega) (by simp)
 · exact hk 8 rfl (by simp at h1; omega) (by simp; omega) (by simp at h1; omega) (by simp)
 · exact hk 16 rfl (by simp at h1; omega) (by simp; omega) (by simp at h1; omega) (by simp)
 · exact hk 24 rfl (by simp at h1; omega) (by simp; omega) (by simp at h1; omega) (by simp)
def pset (xs : List Int) (a v : Int) : Nat → List Int
 | 0 => xs
 | i + 1 => (pset xs a v i).set (a + i).toNat (v / 256 ^ i % 256)
theorem pset_len (xs : List Int) (a v : Int) : ∀ i, (pset xs a v i).length = xs.length
 | 0 => rfl
 | i + 1 => by rw [pset, List.length_set, pset_len xs a v i]
theorem and_step {v : Int} {i : Nat} (h : 0 ≤ v ∧ v ≤ 4294967295) (hi : i ≤ 3) : band (v.fdiv (2 ^ (min (8 * (i : Int)).toNat 64))) 255 = v / 256 ^ i % 256 := by
 obtain ⟨n, rfl⟩ : ∃ n : Nat, v = n := ⟨v.toNat, by omega⟩
 rw [Int.fdiv_eq_ediv_of_nonneg _ (Int.pow_nonneg (by decide))]
 have e : (8 * (i : Int)).toNat = 8 * i := by omega
 rw [e, Nat.min_eq_left (by omega), show (2 : Int) ^ (8 * i) = 256 ^ i by rw [Int.pow_mul]; rfl]
 have e2 : (n : Int) / 256 ^ i = ((n / 256 ^ i : Nat) : Int) := by simp
 have hle : n / 256 ^ i ≤ n := Nat.div_le_self ..
 rw [e2, band_nat (by omega)]
 simp
theorem rem_step {v : Int} {i : Nat} (h : 0 ≤ v) : (v / 256 ^ i).tmod 256 = v / 256 ^ i % 256 := Int.tmod_eq_emod_of_nonneg (Int.ediv_nonneg h (Int.pow_nonneg (by decide)))
theorem quo_step {v : Int} {i : Nat} (h : 0 ≤ v ∧ v ≤ 4294967295) : IntKind.wrap .i64 ((v / 256 ^ i).tdiv 256) = v / 256 ^ (i + 1) := by
 have h1 : 0 ≤ v / 256 ^ i := Int.ediv_nonneg h.1 (Int.pow_nonneg (by decide))
 have h2 : v / 256 ^ i ≤ v := Int.ediv_le_self _ h.1
 rw [Int.tdiv_eq_ediv_of_nonneg h1, wrap_in _ (by omega), Int.ediv_ediv_of_nonneg (Int.pow_nonneg (by decide)), Int.pow_succ]
def getN (xs : List Int) (a z : Int) : Int × Bool := if fitsB xs a z then (top xs (bytes z).toNat a, true) else (0, false)
theorem get_yes {xs : List Int} {a z : Int} (h : fitsB xs a z = true) : getN xs a z = (top xs (bytes z).toNat a, true) := by unfold getN; rw [if_pos h]
theorem get_no {xs : List Int} {a z : Int} (h : fitsB xs a z = false) : getN xs a z = (0, false) := by unfold getN; rw [h]; rfl
def putC (xs : List Int) (a z v : Int) : Bool := fitsB xs a z && inB v 0 (limit z - 1)
def putN (xs : List Int) (a z v : Int) : List Int × Bool := if putC xs a z v then (pset xs a v (bytes z).toNat, true) else (xs, false)
theorem put_yes {xs : List Int} {a z v : Int} (h : fitsB xs a z = true) (h2 : inB v 0 (limit z - 1) = true) : putN xs a z v = (pset xs a v (bytes z).toNat, true) := by unfold putN putC; rw [h, h2]; rfl
theorem put_no {xs : List Int} {a z v : Int} (h : putC xs a z v = false) : putN xs a z v = (xs, false) := by unfold putN; rw [h]; rfl
def slaveOf (a : Int) : Int := if a < 0 ∨ 224 ≤ a then 0 else if a < 128 then 1 else if a < 192 then 2 else 3
def tupN (p : Int × Bool) : V := .tup [.w (.int .i64 p.1), .w (.bool p.2)]
def tupL (p : List Int × Bool) : V := .tup [.sl 1 (p.1.map iR), .w (.bool p.2)]
theorem c_406 (xs : List Int) (a z : Int) (hl : xs.length ≤ 1048576) : CV prg 406 [.sl 1 (xs.map iR), .w (.int .i64 a), .w (.int .i64 z)] (fun res => res = .w (.bool (fitsB xs a z))) := by
 have hz := bytes_z (x := z)
 refine cv_in g406 (Eb [0, 1, 2] rfl (Eg (Eh (Ea (Ee rfl) (Ef (Ed (Eb [0, 1, 2] rfl (Eg (Eh (Ea (Ee rfl) (Fc rfl rfl (c_238 _ (by assumption)) ?_)))))))))))
 refine Ea (Ee rfl) ?_
 first | refine s_gDT rfl ?_ ?_ | refine s_gNDT rfl ?_ ?_ | refine s_gNT rfl ?_ ?_ | refine s_gB rfl ?_ ?_
 intro h1
 try rw [nnp] at h1
 refine Ea (Ee rfl) (Ez rfl (Ea (Ee rfl) (Ez rfl (Fc rfl rfl (c_172 ..) (Ea (Er rfl rfl) (Ea (Ee rfl) ?_))))))
 first | refine s_gDT rfl ?_ ?_ | refine s_gNDT rfl ?_ ?_ | refine s_gNT rfl ?_ ?_ | refine s_gB rfl ?_ ?_
 intro h2
 try rw [nnp] at h2
 refine Ea (Ee rfl) (Ez rfl (Ea (Ee rfl) (Ez rfl ?_)))
 first | refine Ea (o_lenM rfl) ?_ | refine Ea (o_len rfl) ?_
 refine Ez rfl (Ea (Ee rfl) (Ez rfl (Fc rfl rfl (c_183 ..) (Ez rfl ?_))))
 first | refine Ea (o_subn rfl rfl (by omega)) ?_ | refine Ea (o_sub rfl rfl) ?_
 refine s_keepO (is := [14, 15, 20]) rfl (Ez rfl (Ea (o_leq rfl rfl) (Ea (Er rfl rfl) (Ea (Ee rfl) (Ef (Ed (Eb [6] rfl (Ek (Fa rfl rfl ?_)))))))))
 rotate_left
 intro h2
 try rw [nnp] at h2
 iterate 6 refine Ei rfl ?_
 refine s_keepO (is := [14, 15, 20]) rfl (Ei rfl (Ea (Ej rfl rfl) (Ea (Ee rfl) (Ef (Ed (Eb [6] rfl (Ek (Fa rfl rfl ?_))))))))
 rotate_left
 intro h1
 try rw [nnp] at h1
 refine Ei rfl (Ei rfl (Ei rfl (Ea (Ej rfl rfl) (Ea (Ee rfl) ?_))))
 iterate 6 refine Ei rfl ?_
 refine s_keepO (is := [14, 15, 20]) rfl (Ei rfl (Ea (Ej rfl rfl) (Ea (Ee rfl) (Ef (Ed (Eb [6] rfl (Ek (Fa rfl rfl ?_))))))))
 rotate_left
 all_goals
  unfold fitsB; generalize xs.all byteB = p at *; generalize (xs.length : Int) = n1 at *; first | (simp_all; done) | (simp_all; intros; omega) | (cases p <;> simp_all <;> omega) | (cases p <;> simp_all <;> intros <;> omega)
theorem c_47 (xs : List Int) (a z : Int) (hl : xs.length ≤ 1048576) : CV prg 47 [.sl 1 (xs.map iR), .w (.int .i64 a), .w (.int .i64 z)] (fun res => res = tupN (getN xs a z)) := by
 have hz := bytes_z (x := z)
 refine cv_in g47 (Eb [0, 1, 2] rfl (Eg (Eh (Ea (Ee rfl) (Ea (Ee rfl) (Ef (Ed (Eb [0, 1, 2] rfl (Eg (Eg (Eh ?_)))))))))))
 refine Ea (Ee rfl) (Ea (Ee rfl) (Ea (Ee rfl) (Fc rfl rfl (c_86 _ _ _ (by assumption)) (Ea (o_not rfl) (Ef (Ed (Eb [0, 1, 2, 14] rfl ?_)))))))
 first | refine Eu rfl ?_ ?_ | refine s_condN rfl ?_ ?_ | refine s_condNB rfl ?_ ?_ | refine Et rfl ?_ ?_
 intro h1
 try rw [nnp] at h1
 try have h1' := fits_bd h1
 try have h1' := inB_t h1
 refine Eg (Eh (Ea (Ee rfl) (Ea (Ee rfl) (Ef (Ed (Eb [6, 7] rfl (Ek (Ev ?_))))))))
 · refine ret_leaf (.inr rfl) rfl rfl ?_
   first | (rw [get_no (by assumption)]; rfl) | (rw [get_yes (by assumption), ← psum_end, show (bytes z).toNat = i by omega]; rfl)
 intro h1
 try rw [nnp] at h1
 try have h1' := fits_bd h1
 try have h1' := inB_t h1
 refine Fb (Ed (Eb [0, 1, 2] rfl (Eg (Eh (Ea (Ee rfl) (Ef (Ed (Eb [0, 1, 2, 8] rfl (Eg (Eg (Eh ?_)))))))))))
 refine Ea (Ee rfl) (Fc rfl rfl (c_33 ..) (Ea (Ee rfl) (Ef (Ed (Eb [0, 1, 8, 16, 17] rfl (S_block (S_loop0 (ι := Nat) (fun i => i ≤ (bytes z).toNat) (fun i => [(17, .w (.int .i64 (i : Int))), (8, .w (.int .i64 (psum xs a i)))]) (fun i => (bytes z).toNat - i) 0 (by simp) rfl ⟨rfl, rfl, trivial⟩ (fun _ _ => rfl) rfl ?_)))))))
 intro i hi
 refine Eb [0, 1, 8, 16, 17] rfl (Eg (Eh (Ea (o_lss rfl rfl) (Ef (Ed (Eb [0, 1, 8, 16, 17, 18] rfl (Eg ?_)))))))
 first | refine Eu rfl ?_ ?_ | refine Et rfl ?_ ?_
 intro h2
 try rw [nnp] at h2
 try have h2' := fits_bd h2
 try have h2' := inB_t h2
 refine Fb (Ed (Eb [0, 1, 8, 16, 17] rfl (Eg (S_block (Eg (Eh (Ea (Ee rfl) (Ea (Ee rfl) (Ef (Ed (Eb [0, 1, 8, 9, 16, 17] rfl ?_)))))))))))
 refine Eh (Ea (Ee rfl) (Ea (Ee rfl) (Ea (Ee rfl) (Ea (Ee rfl) ?_))))
 first | refine Ea (o_addn rfl rfl (by omega)) ?_ | refine Ea (o_add rfl rfl) ?_
 refine s_iaM rfl rfl (by omega) ?_
 intro y3 e3
 skip
 refine Ea (o_ld rfl rfl) (Ea (Ee rfl) ?_)
 first | refine Ea (o_muln rfl rfl (by omega)) ?_ | refine Ea (o_mul rfl rfl) ?_
 refine Ea (o_shl rfl rfl (by omega)) (Ea (o_bor rfl rfl) (Ea (Ee rfl) (Ef (Fg (Ed (Eb [0, 1, 8, 16, 17] rfl (Eh ?_)))))))
 first | refine Ea (o_addn rfl rfl (by omega)) ?_ | refine Ea (o_add rfl rfl) ?_
 refine Ea (Ee rfl) (Ef (q_loopN ?_))
 · refine ⟨i + 1, by omega, by omega, hasOf ⟨rfl, congrArg (fun b => some (V.w (.int .i64 b))) ?_, trivial⟩ rfl⟩
   exact or_step (by assumption : _ ∧ _ ∧ _ ∧ _ ∧ bytesOk xs).2.2.2.2 (by omega) (by assumption)
 intro h2
 try rw [nnp] at h2
 try have h2' := fits_bd h2
 try have h2' := inB_t h2
 refine s_exit (q_seqX (q_loopX (q_blkH (Ed (Eb [8] rfl (Eg (Eh (Ea (Ee rfl) (Ea (Ee rfl) (Ea (Ee rfl) (Ef ?_)))))))))))
 refine Ed (Eb [6, 7] rfl (Ek ?_))
 · refine ret_leaf (.inr rfl) rfl rfl ?_
   first | (rw [get_no (by assumption)]; rfl) | (rw [get_yes (by assumption), ← psum_end, show (bytes z).toNat = i by omega]; rfl)
theorem c_398 (xs : List Int) (a z : Int) (hl : xs.length ≤ 1048576) : CV prg 398 [.sl 1 (xs.map iR), .w (.int .i64 a), .w (.int .i64 z)] (fun res => res = tupN (getN xs a z)) := by
 have hz := bytes_z (x := z)
 refine cv_in g398 (Eb [0, 1, 2] rfl (Eg (Eh (Ea (Ee rfl) (Ea (Ee rfl) (Ef (Ed (Eb [0, 1, 2] rfl (Eg (Eg (Eh ?_)))))))))))
 refine Ea (Ee rfl) (Ea (Ee rfl) (Ea (Ee rfl) (Fc rfl rfl (c_406 _ _ _ (by assumption)) (Ea (o_not rfl) (Ef (Ed (Eb [0, 1, 2, 14] rfl ?_)))))))
 first | refine Eu rfl ?_ ?_ | refine s_condN rfl ?_ ?_ | refine s_condNB rfl ?_ ?_ | refine Et rfl ?_ ?_
 intro h1
 try rw [nnp] at h1
 try have h1' := fits_bd h1
 try have h1' := inB_t h1
 refine Eg (Eh (Ea (Ee rfl) (Ea (Ee rfl) (Ef (Ed (Eb [6, 7] rfl (Ek (Ev ?_))))))))
 · refine ret_leaf (.inr rfl) rfl rfl ?_
   first | (rw [get_no (by assumption)]; rfl) | (rw [get_yes (by assumption), show (bytes z).toNat = c by omega, show a + (bytes z - (c : Int)) = a by omega]; rfl)
 intro h1
 try rw [nnp] at h1
 try have h1' := fits_bd h1
 try have h1' := inB_t h1
 refine Fb (Ed (Eb [0, 1, 2] rfl (Eg (Eh (Ea (Ee rfl) (Ef (Ed (Eb [0, 1, 2, 8] rfl (Eg (Eg (Eh ?_)))))))))))
 refine Ea (Ee rfl) (Fc rfl rfl (c_183 ..) ?_)
 first | refine Ea (o_subn rfl rfl (by omega)) ?_ | refine Ea (o_sub rfl rfl) ?_
 refine Ea (Ee rfl) (Ef (Ed (Eb [0, 1, 8, 9] rfl (S_block (S_loop0 (ι := Nat) (fun c => c ≤ (bytes z).toNat) (fun c => [(9, .w (.int .i64 (bytes z - 1 - (c : Int)))), (8, .w (.int .i64 (top xs c (a + (bytes z - (c : Int))))))]) (fun c => (bytes z).toNat - c) 0 (by simp) rfl ⟨congrArg (fun b => some (V.w (.int .i64 b))) (by simp), rfl, trivial⟩ (fun _ _ => rfl) rfl ?_)))))
 intro c hi
 have htb := top_bd (by assumption : _ ∧ _ ∧ _ ∧ _ ∧ bytesOk xs).2.2.2.2 c (a + (bytes z - (c : Int)))
 have ht2 := top_lt (c := c) (by omega) htb
 refine Eb [0, 1, 8, 9] rfl (Eg (Eg (Eh (Ea (Ee rfl) (Ea (o_geq rfl rfl) (Ef (Ed (Eb [0, 1, 8, 9, 19] rfl ?_))))))))
 first | refine Eu rfl ?_ ?_ | refine Et rfl ?_ ?_
 intro h2
 try rw [nnp] at h2
 try have h2' := fits_bd h2
 try have h2' := inB_t h2
 refine Fb (Ed (Eb [0, 1, 8, 9] rfl (Eg (S_block (Eh (Ea (Ee rfl) (Ea (o_muln rfl rfl (by omega)) (Ea (Ee rfl) (Ea (Ee rfl) (Ea (Ee rfl) ?_))))))))))
 first | refine Ea (o_addn rfl rfl (by omega)) ?_ | refine Ea (o_add rfl rfl) ?_
 refine s_iaM rfl rfl (by omega) ?_
 intro y3 e3
 have e3b := byte_bd (by assumption : _ ∧ _ ∧ _ ∧ _ ∧ bytesOk xs).2.2.2.2 e3
 refine Ea (o_ld rfl rfl) ?_
 first | refine Ea (o_addn rfl rfl (by omega)) ?_ | refine Ea (o_add rfl rfl) ?_
 refine Ea (Ee rfl) (Ef (Fg (Ed (Eb [0, 1, 8, 9] rfl (Eh (Ea (Ee rfl) ?_))))))
 first | refine Ea (o_subn rfl rfl (by omega)) ?_ | refine Ea (o_sub rfl rfl) ?_
 refine Ea (Ee rfl) (Ef (q_loopN ?_))
 · refine ⟨c + 1, by omega, by omega, hasOf ⟨congrArg (fun b => some (V.w (.int .i64 b))) (by omega), congrArg (fun b => some (V.w (.int .i64 b))) ?_, trivial⟩ rfl⟩
   exact top_step (by assumption)
 intro h2
 try rw [nnp] at h2
 try have h2' := fits_bd h2
 try have h2' := inB_t h2
 refine s_exit (q_seqX (q_loopX (q_blkH (Ed (Eb [8] rfl (Eg (Eh (Ea (Ee rfl) (Ea (Ee rfl) (Ea (Ee rfl) (Ef ?_)))))))))))
 refine Ed (Eb [6, 7] rfl (Ek ?_))
 · refine ret_leaf (.inr rfl) rfl rfl ?_
   first | (rw [get_no (by assumption)]; rfl) | (rw [get_yes (by assumption), show (bytes z).toNat = c by omega, show a + (bytes z - (c : Int)) = a by omega]; rfl)
theorem lim_bd {v z : Int} (h : inB v 0 (limit z - 1) = true) : 0 ≤ v ∧ v ≤ 4294967295 := by
 have h1 := inB_t h
 have h2 := limit_bd z
 omega
theorem pset_set {xs : List Int} {a v x : Int} {i : Nat} (h : x = v / 256 ^ i % 256) : ((pset xs a v i).map iR).set (a + (i : Int)).toNat (iR x) = (pset xs a v (i + 1)).map iR := by
 rw [pset, List.map_set, h]
theorem pset_at (xs : List Int) (a v : Int) (i : Nat) {k : Nat} (h : k < xs.length) : ∃ r, ((pset xs a v i).map iR)[k]? = some (iR r) := by
 rw [List.getElem?_map, List.getElem?_eq_getElem (by rw [pset_len]; exact h)]
 exact ⟨_, rfl⟩
theorem cg_62 (xs : List Int) (a z v : Int) (hl : xs.length ≤ 1048576) : GV prg 62 [] [.sl 1 (xs.map iR), .w (.int .i64 a), .w (.int .i64 z), .w (.int .i64 v)] (fun u L1 => u = .tup [.ls 0 (putN xs a z v).1.length, .w (.bool (putN xs a z v).2)] ∧ L1 = [.arr 1 ((putN xs a z v).1.map iR)]) := by
 have hz := bytes_z (x := z)
 have hlz := limit_bd z
 refine gv_in g62 (Eb [0, 1, 2, 3] rfl (Eg (Eh (Ea (Ee rfl) (Ea (Ee rfl) (Ef (Ed (Eb [0, 1, 2, 3] rfl (Eg (Eh (Ea (Ee rfl) ?_)))))))))))
 refine s_callG [] rfl rfl rfl rfl (by simp) (.inl rfl) (cg_253 _ hl) ?_
 rintro u L1 ⟨rfl, rfl⟩
 refine ⟨_, _, rfl, rfl, ?_⟩
 refine Ea (Ee rfl) (Ef (Ed (Eb [0, 1, 2, 3, 10] rfl (Eg (Eg (Eh (Ea (Ee rfl) (Ea (Ee rfl) (Ea (Ee rfl) (Fc rfl rfl (c_86 _ _ _ (by assumption)) (Ea (o_not rfl) ?_)))))))))))
 refine Ea (Ee rfl) ?_
 first | refine s_gDF rfl ?_ ?_ | refine s_gNDF rfl ?_ ?_ | refine s_gNF rfl ?_ ?_ | refine s_gB rfl ?_ ?_
 intro h1
 try rw [nnp] at h1
 try have h1' := fits_bd h1
 try have h1' := inB_t h1
 try (have hv := lim_bd (by assumption : inB v 0 (limit z - 1) = true))
 refine Ea (Ee rfl) (Ez rfl (Ea (Ee rfl) (Ez rfl (Fc rfl rfl (c_92 ..) (Ez rfl (Ea (o_not rfl) (Ea (Ej rfl rfl) (Ef (Ed (Eb [1, 2, 3, 10, 24] rfl ?_))))))))))
 first | refine Eu rfl ?_ ?_ | refine s_condN rfl ?_ ?_ | refine s_condNB rfl ?_ ?_ | refine Et rfl ?_ ?_
 intro h2
 try rw [nnp] at h2
 try have h2' := fits_bd h2
 try have h2' := inB_t h2
 try (have hv := lim_bd (by assumption : inB v 0 (limit z - 1) = true))
 refine Eg (Eh (Ea (Ee rfl) (Ea (Ee rfl) (Ea (Ee rfl) (Ef (Ed (Eb [8, 9] rfl (Ek (Ev ?_)))))))))
 · refine Ec [0] (.inr rfl) rfl rfl rfl rfl (show (List.range 0 ++ [0]).Nodup by decide) ?_
   first | (rw [put_no (by simp_all [putC])]; exact ⟨rfl, rfl⟩) | (rw [put_yes (by assumption) (by assumption), show (bytes z).toNat = i by omega]; exact ⟨by simp [pset_len], rfl⟩)
 intro h2
 try rw [nnp] at h2
 try have h2' := fits_bd h2
 try have h2' := inB_t h2
 try (have hv := lim_bd (by assumption : inB v 0 (limit z - 1) = true))
 refine Fb (Ed (Eb [1, 2, 3, 10] rfl (Eg (Eg (Eh (Ea (Ee rfl) (Fc rfl rfl (c_33 ..) (Ea (Ee rfl) (Ef (Ed (Eb [1, 3, 10, 27, 28] rfl ?_)))))))))))
 refine S_block (S_loop (ι := Nat) (fun i => i ≤ (bytes z).toNat) (fun i => [(28, .w (.int .i64 (i : Int)))]) (fun i => [.arr 1 ((pset xs a v i).map iR)]) (fun i => (bytes z).toNat - i) 1 0 (by simp) rfl (hasOf ⟨rfl, trivial⟩ rfl) rfl (fun _ _ => rfl) (fun _ _ => ⟨rfl, rfl⟩) ?_)
 intro i hi
 obtain ⟨r0, hr0⟩ : ∃ r, i < (bytes z).toNat → ((pset xs a v i).map iR)[(a + (i : Int)).toNat]? = some (iR r) := by
  by_cases h : i < (bytes z).toNat
  · obtain ⟨r, hr⟩ := pset_at xs a v i (k := (a + (i : Int)).toNat) (by omega)
    exact ⟨r, fun _ => hr⟩
  · exact ⟨0, fun h2 => absurd h2 h⟩
 refine Eb [1, 3, 10, 27, 28] rfl (Eg (Eh (Ea (o_lss rfl rfl) (Ef (Ed (Eb [1, 3, 10, 27, 28, 29] rfl (Eg ?_)))))))
 first | refine Eu rfl ?_ ?_ | refine Et rfl ?_ ?_
 intro h3
 try rw [nnp] at h3
 try have h3' := fits_bd h3
 try have h3' := inB_t h3
 try (have hv := lim_bd (by assumption : inB v 0 (limit z - 1) = true))
 refine Fb (Ed (Eb [1, 3, 10, 27, 28] rfl (Eg (S_block (Eg (Eh (Ea (Ee rfl) (Ea (Ee rfl) (Ef (Ed (Eb [1, 3, 10, 11, 27, 28] rfl ?_)))))))))))
 refine Eh (Ea (Ee rfl) (Ea (Ee rfl) (Ea (Ee rfl) ?_)))
 first | refine Ea (o_addn rfl rfl (by omega)) ?_ | refine Ea (o_add rfl rfl) ?_
 refine Ea (Ee rfl) (Ea (Ee rfl) (Ea (o_muln rfl rfl (by omega)) (Ea (o_shr rfl rfl (by omega)) (Ea (o_band rfl rfl) (Ea (o_iaL rfl rfl (by first | rfl | (simp only [List.length_map, pset_len])) rfl (by omega)) (Ep (o_stA rfl rfl rfl rfl (by first | rfl | (simp only [List.length_map, pset_len])) (hr0 (by omega)) rfl rfl) (Ef (Fg (Ed (Eb [1, 3, 10, 27, 28] rfl (Eh ?_)))))))))))
 first | refine Ea (o_addn rfl rfl (by omega)) ?_ | refine Ea (o_add rfl rfl) ?_
 refine Ea (Ee rfl) (Ef (q_loopN ?_))
 · refine ⟨i + 1, by omega, by omega, hasOf ⟨rfl, trivial⟩ ?_⟩
   rw [← pset_set (and_step hv (by omega))]; rfl
 intro h3
 try rw [nnp] at h3
 try have h3' := fits_bd h3
 try have h3' := inB_t h3
 try (have hv := lim_bd (by assumption : inB v 0 (limit z - 1) = true))
 refine s_exit (q_seqX (q_loopX (q_blkH (Ed (Eb [10] rfl (Eg (Eh (Ea (Ee rfl) (Ea (Ee rfl) (Ea (Ee rfl) (Ef ?_)))))))))))
 refine Ed (Eb [8, 9] rfl (Ek ?_))
 · refine Ec [0] (.inr rfl) rfl rfl rfl rfl (show (List.range 0 ++ [0]).Nodup by decide) ?_
   first | (rw [put_no (by simp_all [putC])]; exact ⟨rfl, rfl⟩) | (rw [put_yes (by assumption) (by assumption), show (bytes z).toNat = i by omega]; exact ⟨by simp [pset_len], rfl⟩)
 intro h1
 try rw [nnp] at h1
 try have h1' := fits_bd h1
 try have h1' := inB_t h1
 try (have hv := lim_bd (by assumption : inB v 0 (limit z - 1) = true))
 refine Ei rfl (Ei rfl (Ei rfl (Ei rfl (Ea (Er rfl rfl) (Ef (Ed (Eb [1, 2, 3, 10, 24] rfl (Fh rfl (Eg (Eh (Ea (Ee rfl) ?_)))))))))))
 refine Ea (Ee rfl) (Ea (Ee rfl) (Ef (Ed (Eb [8, 9] rfl (Ek (Ev ?_))))))
 · refine Ec [0] (.inr rfl) rfl rfl rfl rfl (show (List.range 0 ++ [0]).Nodup by decide) ?_
   first | (rw [put_no (by simp_all [putC])]; exact ⟨rfl, rfl⟩) | (rw [put_yes (by assumption) (by assumption), show (bytes z).toNat = i by omega]; exact ⟨by simp [pset_len], rfl⟩)
theorem c_397 (xs : List Int) (a z v : Int) (hl : xs.length ≤ 1048576) : CV prg 397 [.sl 1 (xs.map iR), .w (.int .i64 a), .w (.int .i64 z), .w (.int .i64 v)] (fun res => res = tupL (putN xs a z v)) := by
 have hz := bytes_z (x := z)
 have hlz := limit_bd z
 refine cv_in g397 (Eb [0, 1, 2, 3] rfl (Eg (Eh (Ea (Ee rfl) (Ea (Ee rfl) (Ef (Ed (Eb [0, 1, 2, 3] rfl (Eg (Eh (Ea (o_bs rfl rfl rfl rfl) ?_)))))))))))
 refine Ea (Ee rfl) ?_
 first | refine Ea (o_appL rfl rfl (by first | rfl | simp [pset_len]) rfl rfl rfl rfl (by simp [roomy]; omega)) ?_ | refine Ea (o_app rfl rfl (by first | rfl | simp [pset_len]) rfl rfl (by simp [roomy]; omega)) ?_
 refine Ea (Ee rfl) (Ef (Ed (Eb [0, 1, 2, 3, 10] rfl (Eg (Eg (Eh (Ea (Ee rfl) (Ea (Ee rfl) (Ea (Ee rfl) (Fc rfl rfl (c_406 _ _ _ (by assumption)) (Ea (o_not rfl) ?_)))))))))))
 refine Ea (Ee rfl) ?_
 first | refine s_gDF rfl ?_ ?_ | refine s_gNDF rfl ?_ ?_ | refine s_gNF rfl ?_ ?_ | refine s_gB rfl ?_ ?_
 intro h1
 try rw [nnp] at h1
 try have h1' := fits_bd h1
 try have h1' := inB_t h1
 try (have hv := lim_bd (by assumption : inB v 0 (limit z - 1) = true))
 refine Ea (Ee rfl) (Ez rfl (Ea (Ee rfl) (Ez rfl (Fc rfl rfl (c_201 ..) (Ez rfl ?_)))))
 first | refine Ea (o_subn rfl rfl (by omega)) ?_ | refine Ea (o_sub rfl rfl) ?_
 refine Ez rfl (Fc rfl rfl (c_230 ..) (Ez rfl (Ea (o_not rfl) (Ea (Ej rfl rfl) (Ef (Ed (Eb [1, 2, 3, 10, 27] rfl ?_)))))))
 first | refine Eu rfl ?_ ?_ | refine s_condN rfl ?_ ?_ | refine s_condNB rfl ?_ ?_ | refine Et rfl ?_ ?_
 intro h2
 try rw [nnp] at h2
 try have h2' := fits_bd h2
 try have h2' := inB_t h2
 try (have hv := lim_bd (by assumption : inB v 0 (limit z - 1) = true))
 refine Eg (Eh (Ea (Ee rfl) (Ea (Ee rfl) (Ea (Ee rfl) (Ef (Ed (Eb [8, 9] rfl (Ek (Ev ?_)))))))))
 · refine ret_leafA (.inr rfl) rfl rfl (by simp [pset_len]) ?_
   first | (rw [put_no (by simp_all [putC])]; rfl) | (rw [put_yes (by assumption) (by assumption), show (bytes z).toNat = i by omega]; rfl)
 intro h2
 try rw [nnp] at h2
 try have h2' := fits_bd h2
 try have h2' := inB_t h2
 try (have hv := lim_bd (by assumption : inB v 0 (limit z - 1) = true))
 refine Fb (Ed (Eb [1, 2, 3, 10] rfl (Eg (Eg (Eh (Ea (Ee rfl) (Ef (Ed (Eb [1, 2, 3, 10, 11] rfl (S_block (S_loop (ι := Nat) (fun i => i ≤ (bytes z).toNat) (fun i => [(11, .w (.int .i64 (i : Int))), (3, .w (.int .i64 (v / 256 ^ i)))]) (fun i => [.arr 1 ((pset xs a v i).map iR)]) (fun i => (bytes z).toNat - i) 1 0 (by simp) rfl (hasOf ⟨rfl, congrArg (fun b => some (V.w (.int .i64 b))) (by simp), trivial⟩ rfl) rfl (fun _ _ => rfl) (fun _ _ => ⟨rfl, rfl⟩) ?_)))))))))))
 intro i hi
 obtain ⟨r0, hr0⟩ : ∃ r, i < (bytes z).toNat → ((pset xs a v i).map iR)[(a + (i : Int)).toNat]? = some (iR r) := by
  by_cases h : i < (bytes z).toNat
  · obtain ⟨r, hr⟩ := pset_at xs a v i (k := (a + (i : Int)).toNat) (by omega)
    exact ⟨r, fun _ => hr⟩
  · exact ⟨0, fun h2 => absurd h2 h⟩
 refine Eb [1, 2, 3, 10, 11] rfl (Eg (Eg (Eh (Ea (Ee rfl) (Ea (Ee rfl) (Fc rfl rfl (c_183 ..) (Ea (o_lss rfl rfl) (Ef (Ed (Eb [1, 2, 3, 10, 11, 32] rfl ?_))))))))))
 first | refine Eu rfl ?_ ?_ | refine Et rfl ?_ ?_
 intro h3
 try rw [nnp] at h3
 try have h3' := fits_bd h3
 try have h3' := inB_t h3
 try (have hv := lim_bd (by assumption : inB v 0 (limit z - 1) = true))
 refine Fb (Ed (Eb [1, 2, 3, 10, 11] rfl (Eg (S_block (Eg (Eh (Ea (Ee rfl) (Ea (Ee rfl) (Ea (Ee rfl) ?_)))))))))
 first | refine Ea (o_addn rfl rfl (by omega)) ?_ | refine Ea (o_add rfl rfl) ?_
 refine Ea (Ee rfl) ?_
 first | refine Ea (o_rem rfl rfl (by decide)) ?_ | refine Ea (o_rem rfl rfl (by omega)) ?_
 refine Ea (o_iaL rfl rfl (by first | rfl | simp [pset_len]) rfl (by first | omega | (simp only [List.replicate_zero, List.nil_append, List.length_append, List.length_nil, List.length_map]; omega))) (Ep (o_stA rfl rfl rfl rfl (by first | rfl | simp [pset_len]) (hr0 (by omega)) rfl rfl) (Ef (Ed (Eb [1, 2, 3, 10, 11] rfl (Eh (Ea (Ee rfl) ?_))))))
 first | refine Ea (o_quo rfl rfl (by decide)) ?_ | refine Ea (o_quo rfl rfl (by omega)) ?_
 refine Ea (Ee rfl) (Ef (Fg (Ed (Eb [1, 2, 3, 10, 11] rfl (Eh (Ea (Ee rfl) ?_))))))
 first | refine Ea (o_addn rfl rfl (by omega)) ?_ | refine Ea (o_add rfl rfl) ?_
 refine Ea (Ee rfl) (Ef (q_loopN ?_))
 · refine ⟨i + 1, by omega, by omega, hasOf ⟨rfl, congrArg (fun b => some (V.w (.int .i64 b))) (quo_step hv), trivial⟩ ?_⟩
   rw [← pset_set (rem_step hv.1)]; rfl
 intro h3
 try rw [nnp] at h3
 try have h3' := fits_bd h3
 try have h3' := inB_t h3
 try (have hv := lim_bd (by assumption : inB v 0 (limit z - 1) = true))
 refine s_exit (q_seqX (q_loopX (q_blkH (Ed (Eb [10] rfl (Eg (Eh (Ea (Ee rfl) (Ea (Ee rfl) (Ea (Ee rfl) (Ef ?_)))))))))))
 refine Ed (Eb [8, 9] rfl (Ek ?_))
 · refine ret_leafA (.inr rfl) rfl rfl (by simp [pset_len]) ?_
   first | (rw [put_no (by simp_all [putC])]; rfl) | (rw [put_yes (by assumption) (by assumption), show (bytes z).toNat = i by omega]; rfl)
 intro h1
 try rw [nnp] at h1
 try have h1' := fits_bd h1
 try have h1' := inB_t h1
 try (have hv := lim_bd (by assumption : inB v 0 (limit z - 1) = true))
 iterate 6 refine Ei rfl ?_
 refine Ea (Er rfl rfl) (Ef (Ed (Eb [1, 2, 3, 10, 27] rfl (Fh rfl (Eg (Eh (Ea (Ee rfl) (Ea (Ee rfl) (Ea (Ee rfl) (Ef (Ed ?_)))))))))))
 refine Eb [8, 9] rfl (Ek (Ev ?_))
 · refine ret_leafA (.inr rfl) rfl rfl (by simp [pset_len]) ?_
   first | (rw [put_no (by simp_all [putC])]; rfl) | (rw [put_yes (by assumption) (by assumption), show (bytes z).toNat = i by omega]; rfl)
theorem c_73 (a : Int) : CV prg 73 [.w (.int .i64 a)] (fun res => res = .w (.int .i64 (slaveOf a))) := by
 refine cv_in g73 (Eb [0] rfl (Eg (Eh (Ea (Ee rfl) (Ef (Ed (Eb [0] rfl (Eg (S_block (Eg (Eh ?_)))))))))))
 refine Ea (Ee rfl) (Ea (o_lss rfl rfl) (Ea (Ee rfl) ?_))
 first | refine s_gDF rfl ?_ ?_ | refine s_gB rfl ?_ ?_
 intro h1
 try rw [nnp] at h1
 refine Ea (Ee rfl) (Ez rfl (Ea (o_geq rfl rfl) (Ea (Ej rfl rfl) (Ea (Ee rfl) (Ef (Ed (Eb [0, 3] rfl ?_)))))))
 first | refine Eu rfl ?_ ?_ | refine Et rfl ?_ ?_
 intro h2
 try rw [nnp] at h2
 refine Eg (Eh (Ea (Ee rfl) (Ef (Ed (Eb [2] rfl (Ek (Ff (Ev (ret_leafIR rfl rfl ?_)))))))))
 rotate_left
 intro h2
 try rw [nnp] at h2
 refine Eg (Eh (Ea (Ee rfl) (Ea (o_lss rfl rfl) (Ea (Ee rfl) (Ef (Ed (Eb [0, 10] rfl ?_)))))))
 first | refine Eu rfl ?_ ?_ | refine Et rfl ?_ ?_
 intro h3
 try rw [nnp] at h3
 refine Eg (Eh (Ea (Ee rfl) (Ef (Ed (Eb [2] rfl (Ek (Ff (Ev (ret_leafIR rfl rfl ?_)))))))))
 rotate_left
 intro h3
 try rw [nnp] at h3
 refine Eg (Eh (Ea (Ee rfl) (Ea (o_lss rfl rfl) (Ea (Ee rfl) (Ef (Ed (Eb [13] rfl ?_)))))))
 first | refine Eu rfl ?_ ?_ | refine Et rfl ?_ ?_
 intro h4
 try rw [nnp] at h4
 refine Eg (Eh (Ea (Ee rfl) (Ef (Ed (Eb [2] rfl (Ek (Ff (Ev (ret_leafIR rfl rfl ?_)))))))))
 rotate_left
 intro h4
 try rw [nnp] at h4
 refine Fb (Fg (Ed (Eb [] rfl (Eg (Eh (Ea (Ee rfl) (Ef (Ed (Eb [2] rfl (Ek (ret_leafIR rfl rfl ?_)))))))))))
 rotate_left
 intro h1
 try rw [nnp] at h1
 refine Ei rfl (Ei rfl (Ea (Er rfl rfl) (Ea (Ee rfl) (Ef (Ed (Eb [0, 3] rfl (Fh rfl (Eg (Eh (Ea (Ee rfl) (Ef ?_)))))))))))
 refine Ed (Eb [2] rfl (Ek (Ff (Ev (ret_leafIR rfl rfl ?_)))))
 rotate_left
 all_goals
  first | (simp_all [slaveOf]; done) | (unfold slaveOf; simp_all; omega) | (unfold slaveOf; repeat' split) <;> omega
theorem c_396 (a : Int) : CV prg 396 [.w (.int .i64 a)] (fun res => res = .w (.int .i64 (slaveOf a))) := by
 refine cv_in g396 (Eb [0] rfl (Eg (Eh (Ea (Ee rfl) (Ef (Ed (Eb [0] rfl (Eg (S_block (Eg (Eh ?_)))))))))))
 refine Ea (Ee rfl) (Ea (o_lss rfl rfl) (Ea (Ee rfl) ?_))
 first | refine s_gDF rfl ?_ ?_ | refine s_gB rfl ?_ ?_
 intro h1
 try rw [nnp] at h1
 refine Ea (Ee rfl) (Ez rfl (Ea (o_geq rfl rfl) (Ea (Ej rfl rfl) (Ea (Ee rfl) (Ef (Ed (Eb [0, 3] rfl ?_)))))))
 first | refine Eu rfl ?_ ?_ | refine Et rfl ?_ ?_
 intro h2
 try rw [nnp] at h2
 refine Eg (Eh (Ea (Ee rfl) (Ef (Ed (Eb [2] rfl (Ek (Ff (Ev (ret_leafIR rfl rfl ?_)))))))))
 rotate_left
 intro h2
 try rw [nnp] at h2
 refine Eg (Eh (Ea (Ee rfl) (Ea (o_lss rfl rfl) (Ea (Ee rfl) (Ef (Ed (Eb [0, 10] rfl ?_)))))))
 first | refine Eu rfl ?_ ?_ | refine Et rfl ?_ ?_
 intro h3
 try rw [nnp] at h3
 refine Eg (Eh (Ea (Ee rfl) (Ef (Ed (Eb [2] rfl (Ek (Ff (Ev (ret_leafIR rfl rfl ?_)))))))))
 rotate_left
 intro h3
 try rw [nnp] at h3
 refine Eg (Eh (Ea (Ee rfl) (Ea (o_lss rfl rfl) (Ea (Ee rfl) (Ef (Ed (Eb [13] rfl ?_)))))))
 first | refine Eu rfl ?_ ?_ | refine Et rfl ?_ ?_
 intro h4
 try rw [nnp] at h4
 refine Eg (Eh (Ea (Ee rfl) (Ef (Ed (Eb [2] rfl (Ek (Ff (Ev (ret_leafIR rfl rfl ?_)))))))))
 rotate_left
 intro h4
 try rw [nnp] at h4
 refine Fb (Fg (Ed (Eb [] rfl (Eg (Eh (Ea (Ee rfl) (Ef (Ed (Eb [2] rfl (Ek (ret_leafIR rfl rfl ?_)))))))))))
 rotate_left
 intro h1
 try rw [nnp] at h1
 refine Ei rfl (Ei rfl (Ea (Er rfl rfl) (Ea (Ee rfl) (Ef (Ed (Eb [0, 3] rfl (Fh rfl (Eg (Eh (Ea (Ee rfl) (Ef ?_)))))))))))
 refine Ed (Eb [2] rfl (Ek (Ff (Ev (ret_leafIR rfl rfl ?_)))))
 rotate_left
 all_goals
  first | (simp_all [slaveOf]; done) | (unfold slaveOf; simp_all; omega) | (unfold slaveOf; repeat' split) <;> omega
def Req.w (r : Req) (x : Value) : List V := [.w (.bool r.write), .w (.int .i64 r.addr), .w (.int .i64 r.size), .w (.int .i64 r.burst), .w (.bool r.lock), .raw x]
def one (a : Option Nat) (xs : List Int) : Mem := match a with
 | some ad => upd M0 ad (some ⟨xs.map (Value.int .i64), true, 1⟩)
 | none => M0
end Go.Proofs.Ytdialnejieoelaa.AL
