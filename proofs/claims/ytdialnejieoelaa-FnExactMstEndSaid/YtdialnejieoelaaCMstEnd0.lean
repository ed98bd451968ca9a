/- What functions do with plain data, each by the form of its code. Printed by program. -/
import Derived.Test.YtdialnejieoelaaSpec0
import Derived.Test.YtdialnejieoelaaIrMstEnd
import Derived.Test.YtdialnejieoelaaVG
namespace Go.Proofs.Ytdialnejieoelaa.AL
open Go
set_option linter.unusedVariables false
set_option linter.unusedSimpArgs false
set_option maxRecDepth 4096
theorem c_230 (a b c : Int) : CV prg 230 [.w (.int .i64 a), .w (.int .i64 b), .w (.int .i64 c)] (fun res => res = .w (.bool (inB a b c))) := by
 refine cv_in g230 (Eb [0, 1, 2] rfl (Ef (Eg (Ea (Ee rfl) (Ed (Ec (Eb [0, 1, 2] rfl (Ef (Eg (Ea (Ee rfl) (Ea (Ee rfl) ?_)))))))))))
 refine Ea (o_geq rfl rfl) (Ea (Ee rfl) ?_)
 first | refine s_gDT rfl ?_ ?_ | refine s_gB rfl ?_ ?_
 intro h1
 try rw [nnp] at h1
 refine Ea (Ee rfl) (s_gT rfl (Ea (Ee rfl) (s_gT rfl (Ea (o_leq rfl rfl) (Ea (o_pickT rfl rfl) (Ea (Ee rfl) (Ed (Ec (Eb [6] rfl (Ek (Eh rfl rfl ?_)))))))))))
 rotate_left
 intro h1
 try rw [nnp] at h1
 refine Eu rfl (Eu rfl (Eu rfl (Ea (Fa rfl rfl) (Ea (Ee rfl) (Ed (Ec (Eb [6] rfl (Ek (Eh rfl rfl ?_)))))))))
 rotate_left
 all_goals
  simp_all [inB] <;> omega
theorem c_103 (a b c : Int) : CV prg 103 [.w (.int .i64 a), .w (.int .i64 b), .w (.int .i64 c)] (fun res => res = .w (.bool (inB a b c))) := by
 refine cv_in g103 (Eb [0, 1, 2] rfl (Ef (Eg (Ea (Ee rfl) (Ed (Ec (Eb [0, 1, 2] rfl (Ef (Eg (Ea (Ee rfl) (Ea (Ee rfl) ?_)))))))))))
 refine Ea (o_leq rfl rfl) (Ea (Ee rfl) ?_)
 first | refine s_gDT rfl ?_ ?_ | refine s_gB rfl ?_ ?_
 intro h1
 try rw [nnp] at h1
 refine Ea (Ee rfl) (s_gT rfl (Ea (Ee rfl) (s_gT rfl (Ea (o_leq rfl rfl) (Ea (o_pickT rfl rfl) (Ea (Ee rfl) (Ed (Ec (Eb [6] rfl (Ek (Eh rfl rfl ?_)))))))))))
 rotate_left
 intro h1
 try rw [nnp] at h1
 refine Eu rfl (Eu rfl (Eu rfl (Ea (Fa rfl rfl) (Ea (Ee rfl) (Ed (Ec (Eb [6] rfl (Ek (Eh rfl rfl ?_)))))))))
 rotate_left
 all_goals
  simp_all [inB] <;> omega
def Conf.small (x : Conf) : Prop := x.masters.length ≤ 1048576
def Conf.sz (x : Conf) : Nat := x.masters.length
theorem Conf.small_of {x : Conf} (h : x.sz ≤ 1048576) : x.small := by unfold Conf.small; unfold Conf.sz at h; omega
def Done.beq (x y : Done) : Bool := ((x.cycle == y.cycle) && ((x.who == y.who) && ((x.write == y.write) && ((x.addr == y.addr) && ((x.size == y.size) && ((x.value == y.value) && ((x.resp == y.resp) && true)))))))
def folOk (p : Done × Done) : Bool := (p.1.write == p.2.write) && decide (p.1.addr = p.2.addr) && decide (p.1.size = p.2.size) && !(p.1.write && decide (p.1.resp = 0) && decide (p.1.value ≠ p.2.value))
def follows (l w : List Done) : Bool := decide (l.length ≤ w.length) && (l.zip w).all folOk
def Req.small (x : Req) : Prop := x.data.length ≤ 1048576
def Req.sz (x : Req) : Nat := x.data.length
theorem Req.small_of {x : Req} (h : x.sz ≤ 1048576) : x.small := by unfold Req.small; unfold Req.sz at h; omega
def Mst.small (x : Mst) : Prop := x.queue.length ≤ 1048576 ∧ (∀ y, y ∈ x.queue → Req.small y)
def Mst.sz (x : Mst) : Nat := x.queue.length + sumL Req.sz x.queue
theorem Mst.small_of {x : Mst} (h : x.sz ≤ 1048576) : x.small := ⟨by unfold Mst.sz at h; omega, fun y hy => Req.small_of (by have := sumL_mem Req.sz hy; unfold Mst.sz at h; omega)⟩
theorem c_132 (xs ys : List Int) (hl : xs.length ≤ 1048576) : CV prg 132 [.sl 1 (xs.map iR), .sl 1 (ys.map iR)] (fun res => res = .w (.bool (decide (xs = ys)))) := by
 refine cv_in g132 (Eb [0, 1] rfl (Ef (Eg (Ea (Ee rfl) (Ed (Ec (Eb [0, 1] rfl (Ef (Ef (Eg (Ea (Ee rfl) ?_)))))))))))
 first | refine Ea (o_lenM rfl) ?_ | refine Ea (o_len rfl) ?_
 refine Ea (Ee rfl) ?_
 first | refine Ea (o_lenM rfl) ?_ | refine Ea (o_len rfl) ?_
 refine Ea (o_neq rfl rfl) (Ed (Ec (Eb [0, 1, 10] rfl ?_)))
 first | refine Ev rfl ?_ ?_ | refine Eo rfl ?_ ?_
 intro h1
 try rw [nnp] at h1
 refine Ef (Eg (Ea (Ee rfl) (Ed (Ec (Eb [4] rfl (Ek (Ep (Eh rfl rfl ?_))))))))
 rotate_left
 intro h1
 try rw [nnp] at h1
 refine Ey (Ec (Eb [0, 1] rfl (Ef (Ef (Eg (Ea (Ee rfl) (Ed (Ec (Eb [0, 1, 5] rfl (S_block (S_loop0 (ι := Nat) (fun i => i ≤ xs.length ∧ xs.take i = ys.take i ∧ xs.length = ys.length) (fun i => [(5, .w (.int .i64 (i : Int)))]) (fun i => xs.length - i) 0 ⟨by simp, by simp, by omega⟩ rfl ⟨rfl, trivial⟩ (fun _ _ => rfl) rfl ?_)))))))))))
 intro i hi
 refine Eb [0, 1, 5] rfl (Ef (Ef (Eg (Ea (Ee rfl) (Ea (Ee rfl) ?_)))))
 first | refine Ea (o_lenM rfl) ?_ | refine Ea (o_len rfl) ?_
 refine Ea (o_lss rfl rfl) (Ed (Ec (Eb [0, 1, 5, 14] rfl ?_)))
 first | refine Ev rfl ?_ ?_ | refine Eo rfl ?_ ?_
 intro h2
 try rw [nnp] at h2
 refine Ey (Ec (Eb [0, 1, 5] rfl (Ef (S_block (Ef (Eg (Ea (Ee rfl) (Ea (Ee rfl) (s_iaM rfl rfl (by omega) ?_)))))))))
 intro y3 e3
 try simp only [Int.toNat_natCast, Int.toNat_zero] at e3
 refine Ea (o_ld rfl rfl) (Ea (Ee rfl) (Ea (Ee rfl) (s_iaM rfl rfl (by omega) ?_)))
 intro y4 e4
 try simp only [Int.toNat_natCast, Int.toNat_zero] at e4
 refine Ea (o_ld rfl rfl) (Ea (o_neq rfl rfl) (Ed (Ec (Eb [0, 1, 5, 25] rfl ?_))))
 first | refine Ev rfl ?_ ?_ | refine Eo rfl ?_ ?_
 intro h5
 try rw [nnp] at h5
 refine Ef (Eg (Ea (Ee rfl) (Ed (Ec (Eb [4] rfl (Ek (q_blkR (Ep (q_loopR (q_blkR (Ep ?_)))))))))))
 refine Eh rfl rfl ?_
 rotate_left
 intro h5
 try rw [nnp] at h5
 refine Ey (q_blkN (Ec (Eb [0, 1, 5] rfl (Eg (Ea (Ee rfl) ?_)))))
 first | refine Ea (o_addn rfl rfl (by omega)) ?_ | refine Ea (o_add rfl rfl) ?_
 refine Ea (Ee rfl) (Ed (q_loopN ?_))
 · refine ⟨i + 1, ⟨by omega, eq_take (by assumption) (by assumption) hi.2.1 ?_, hi.2.2⟩, by omega, hasOf ⟨rfl, trivial⟩ rfl⟩
   assumption
 intro h2
 try rw [nnp] at h2
 refine s_exit (q_seqX (q_loopX (q_blkH (Ec (Eb [] rfl (Ef (Eg (Ea (Ee rfl) (Ed (Ec (Eb [4] rfl ?_)))))))))))
 refine Ek (Eh rfl rfl ?_)
 rotate_left
 all_goals
  first | exact (decide_eq_false (ne_at (by assumption) (by assumption) (by assumption))).symm | exact (decide_eq_true (eq_end hi.2.1 (by omega) hi.2.2)).symm | exact (decide_eq_false (fun e => by subst e; simp_all)).symm
theorem c_138 (x y : Req) (hs : x.small) : CV prg 138 [.agg x.r, .agg y.r] (fun res => res = .w (.bool (decide (x = y)))) := by
 refine cv_in g138 (Eb [0, 1] rfl (Ef (Eg (Ea (o_box rfl rfl rfl) (Ea (o_box rfl rfl rfl) (Ea (Ee rfl) (Ed (Ec (Eb [2, 3] rfl (Ef (Ef ?_)))))))))))
 refine Eg (Ea (Ej rfl) (Ea (Er rfl rfl rfl) (Ea (Ej rfl) (Ea (Er rfl rfl rfl) (Ea (o_eqb rfl rfl) (Ed (Ec (Eb [2, 3, 9] rfl ?_))))))))
 first | refine s_condNB rfl ?_ ?_ | refine Eo rfl ?_ ?_
 intro h1
 try rw [nnp] at h1
 refine Ef (Eg (Ea (Ee rfl) (Ed (Ec (Eb [4] rfl (Ek (Ep (Eh rfl rfl ?_))))))))
 rotate_left
 intro h1
 try rw [nnp] at h1
 refine Ey (Ec (Eb [2, 3] rfl (Ef (Ef (Eg (Ea (Ej rfl) (Ea (Er rfl rfl rfl) (Ea (Ej rfl) (Ea (Er rfl rfl rfl) (Ea (o_neq rfl rfl) (Ed ?_)))))))))))
 refine Ec (Eb [2, 3, 14] rfl ?_)
 first | refine Ev rfl ?_ ?_ | refine Eo rfl ?_ ?_
 intro h2
 try rw [nnp] at h2
 refine Ef (Eg (Ea (Ee rfl) (Ed (Ec (Eb [4] rfl (Ek (Ep (Eh rfl rfl ?_))))))))
 rotate_left
 intro h2
 try rw [nnp] at h2
 refine Ey (Ec (Eb [2, 3] rfl (Ef (Ef (Eg (Ea (Ej rfl) (Ea (Er rfl rfl rfl) (Ea (Ej rfl) (Ea (Er rfl rfl rfl) (Ea (o_neq rfl rfl) (Ed ?_)))))))))))
 refine Ec (Eb [2, 3, 19] rfl ?_)
 first | refine Ev rfl ?_ ?_ | refine Eo rfl ?_ ?_
 intro h3
 try rw [nnp] at h3
 refine Ef (Eg (Ea (Ee rfl) (Ed (Ec (Eb [4] rfl (Ek (Ep (Eh rfl rfl ?_))))))))
 rotate_left
 intro h3
 try rw [nnp] at h3
 refine Ey (Ec (Eb [2, 3] rfl (Ef (Ef (Eg (Ea (Ej rfl) (Ea (Er rfl rfl rfl) (Ea (Ej rfl) (Ea (Er rfl rfl rfl) (Ea (o_neq rfl rfl) (Ed ?_)))))))))))
 refine Ec (Eb [2, 3, 24] rfl ?_)
 first | refine Ev rfl ?_ ?_ | refine Eo rfl ?_ ?_
 intro h4
 try rw [nnp] at h4
 refine Ef (Eg (Ea (Ee rfl) (Ed (Ec (Eb [4] rfl (Ek (Ep (Eh rfl rfl ?_))))))))
 rotate_left
 intro h4
 try rw [nnp] at h4
 refine Ey (Ec (Eb [2, 3] rfl (Ef (Ef (Eg (Ea (Ej rfl) (Ea (Er rfl rfl rfl) (Ea (Ej rfl) (Ea (Er rfl rfl rfl) (Ea (o_eqb rfl rfl) (Ed ?_)))))))))))
 refine Ec (Eb [2, 3, 29] rfl ?_)
 first | refine s_condNB rfl ?_ ?_ | refine Eo rfl ?_ ?_
 intro h5
 try rw [nnp] at h5
 refine Ef (Eg (Ea (Ee rfl) (Ed (Ec (Eb [4] rfl (Ek (Ep (Eh rfl rfl ?_))))))))
 rotate_left
 intro h5
 try rw [nnp] at h5
 refine Ey (Ec (Eb [2, 3] rfl (Ef (Ef (Eg (Ea (Ej rfl) (Ea (Er rfl rfl rfl) (Ea (Ej rfl) (Ea (Er rfl rfl rfl) ?_)))))))))
 first | refine s_call rfl rfl (c_132 _ _ hs) ?_ | refine s_callL rfl rfl (by simp) (c_132 _ _ hs) rfl ?_
 refine Ea (o_not rfl) (Ed (Ec (Eb [35] rfl ?_)))
 first | refine Ev rfl ?_ ?_ | refine s_condN rfl ?_ ?_ | refine s_condNB rfl ?_ ?_ | refine Eo rfl ?_ ?_
 intro h6
 try rw [nnp] at h6
 refine Ef (Eg (Ea (Ee rfl) (Ed (Ec (Eb [4] rfl (Ek (Ep (Eh rfl rfl ?_))))))))
 rotate_left
 intro h6
 try rw [nnp] at h6
 refine Ey (Ec (Eb [] rfl (Ef (Eg (Ea (Ee rfl) (Ed (Ec (Eb [4] rfl (Ek (Eh rfl rfl ?_))))))))))
 rotate_left
 all_goals
  cases x; cases y; simp_all
theorem c_139 (xs ys : List Req) (hl : xs.length ≤ 1048576) (hx : ∀ y, y ∈ xs → Req.small y) : CV prg 139 [.sl 6 (xs.map Req.r), .sl 6 (ys.map Req.r)] (fun res => res = .w (.bool (decide (xs = ys)))) := by
 refine cv_in g139 (Eb [0, 1] rfl (Ef (Eg (Ea (Ee rfl) (Ed (Ec (Eb [0, 1] rfl (Ef (Ef (Eg (Ea (Ee rfl) ?_)))))))))))
 first | refine Ea (o_lenM rfl) ?_ | refine Ea (o_len rfl) ?_
 refine Ea (Ee rfl) ?_
 first | refine Ea (o_lenM rfl) ?_ | refine Ea (o_len rfl) ?_
 refine Ea (o_neq rfl rfl) (Ed (Ec (Eb [0, 1, 10] rfl ?_)))
 first | refine Ev rfl ?_ ?_ | refine Eo rfl ?_ ?_
 intro h1
 try rw [nnp] at h1
 refine Ef (Eg (Ea (Ee rfl) (Ed (Ec (Eb [4] rfl (Ek (Ep (Eh rfl rfl ?_))))))))
 rotate_left
 intro h1
 try rw [nnp] at h1
 refine Ey (Ec (Eb [0, 1] rfl (Ef (Ef (Eg (Ea (Ee rfl) (Ed (Ec (Eb [0, 1, 5] rfl (S_block (S_loop0 (ι := Nat) (fun i => i ≤ xs.length ∧ xs.take i = ys.take i ∧ xs.length = ys.length) (fun i => [(5, .w (.int .i64 (i : Int)))]) (fun i => xs.length - i) 0 ⟨by simp, by simp, by omega⟩ rfl ⟨rfl, trivial⟩ (fun _ _ => rfl) rfl ?_)))))))))))
 intro i hi
 refine Eb [0, 1, 5] rfl (Ef (Ef (Eg (Ea (Ee rfl) (Ea (Ee rfl) ?_)))))
 first | refine Ea (o_lenM rfl) ?_ | refine Ea (o_len rfl) ?_
 refine Ea (o_lss rfl rfl) (Ed (Ec (Eb [0, 1, 5, 14] rfl ?_)))
 first | refine Ev rfl ?_ ?_ | refine Eo rfl ?_ ?_
 intro h2
 try rw [nnp] at h2
 refine Ey (Ec (Eb [0, 1, 5] rfl (Ef (S_block (Ef (Eg (Ea (Ee rfl) (Ea (Ee rfl) (s_iaM rfl rfl (by omega) ?_)))))))))
 intro y3 e3
 try simp only [Int.toNat_natCast, Int.toNat_zero] at e3
 refine Ea (o_ldn rfl rfl) (Ea (Ee rfl) (Ea (Ee rfl) (s_iaM rfl rfl (by omega) ?_)))
 intro y4 e4
 try simp only [Int.toNat_natCast, Int.toNat_zero] at e4
 refine Ea (o_ldn rfl rfl) ?_
 first | refine s_call rfl rfl (c_138 _ _ (hx _ (List.mem_of_getElem? (by assumption)))) ?_ | refine s_callL rfl rfl (by simp) (c_138 _ _ (hx _ (List.mem_of_getElem? (by assumption)))) rfl ?_
 refine Ea (o_not rfl) (Ed (Ec (Eb [0, 1, 5, 26] rfl ?_)))
 first | refine Ev rfl ?_ ?_ | refine s_condN rfl ?_ ?_ | refine s_condNB rfl ?_ ?_ | refine Eo rfl ?_ ?_
 intro h5
 try rw [nnp] at h5
 refine Ef (Eg (Ea (Ee rfl) (Ed (Ec (Eb [4] rfl (Ek (q_blkR (Ep (q_loopR (q_blkR (Ep ?_)))))))))))
 refine Eh rfl rfl ?_
 rotate_left
 intro h5
 try rw [nnp] at h5
 refine Ey (q_blkN (Ec (Eb [0, 1, 5] rfl (Eg (Ea (Ee rfl) ?_)))))
 first | refine Ea (o_addn rfl rfl (by omega)) ?_ | refine Ea (o_add rfl rfl) ?_
 refine Ea (Ee rfl) (Ed (q_loopN ?_))
 · refine ⟨i + 1, ⟨by omega, eq_take (by assumption) (by assumption) hi.2.1 ?_, hi.2.2⟩, by omega, hasOf ⟨rfl, trivial⟩ rfl⟩
   assumption
 intro h2
 try rw [nnp] at h2
 refine s_exit (q_seqX (q_loopX (q_blkH (Ec (Eb [] rfl (Ef (Eg (Ea (Ee rfl) (Ed (Ec (Eb [4] rfl ?_)))))))))))
 refine Ek (Eh rfl rfl ?_)
 rotate_left
 all_goals
  first | exact (decide_eq_false (ne_at (by assumption) (by assumption) (by assumption))).symm | exact (decide_eq_true (eq_end hi.2.1 (by omega) hi.2.2)).symm | exact (decide_eq_false (fun e => by subst e; simp_all)).symm
theorem c_163 (xs : List Int) (hl : xs.length ≤ 1048576) : CV prg 163 [.sl 1 (xs.map iR)] (fun res => res = .sl 1 (xs.map iR)) := by
 refine cv_in g163 (Eb [0] rfl (Ef (Eg (Ea (Ee rfl) (Ed (Ec (Eb [0] rfl (Ef (Eg (Ea (Ee rfl) ?_))))))))))
 first | refine Ea (o_lenM rfl) ?_ | refine Ea (o_len rfl) ?_
 refine Ea (o_mk rfl rfl rfl rfl ⟨by omega, by unfold roomy; omega, by unfold roomy; omega⟩ rfl) (Ea (Ee rfl) (Ed (Ec (Eb [0, 3] rfl (Ef (Ef (Eg (Ea (Ee rfl) (Ed (Ec (Eb [0, 3, 4] rfl ?_)))))))))))
 refine S_block (S_loop (ι := Nat) (fun i => i ≤ xs.length) (fun i => [(4, .w (.int .i64 (i : Int)))]) (fun i => [.arr 1 (tabV iR [.w (.int .i64 0)] xs i)]) (fun i => xs.length - i) 1 0 (by simp) rfl (hasOf ⟨rfl, trivial⟩ (by rw [tabV_zero]; rfl)) rfl (fun _ _ => rfl) (fun _ _ => ⟨rfl, rfl⟩) ?_)
 intro i hi
 refine Eb [0, 3, 4] rfl (Ef (Ef (Eg (Ea (Ee rfl) (Ea (Ee rfl) ?_)))))
 first | refine Ea (o_lenM rfl) ?_ | refine Ea (o_len rfl) ?_
 refine Ea (o_lss rfl rfl) (Ed (Ec (Eb [0, 3, 4, 11] rfl ?_)))
 first | refine Ev rfl ?_ ?_ | refine Eo rfl ?_ ?_
 intro h1
 try rw [nnp] at h1
 refine Ey (Ec (Eb [0, 3, 4] rfl (Ef (S_block (Eg (Ea (Ee rfl) (Ea (Ee rfl) (Ea (Ee rfl) (Ea (Ee rfl) (s_iaM rfl rfl (by first | omega | (rw [List.length_replicate]; omega)) ?_))))))))))
 intro y2 e2
 try simp only [Int.toNat_natCast, Int.toNat_zero] at e2
 refine Ea (o_ld rfl rfl) (Ea (o_iaL rfl rfl (by rw [tabV_len _ _ _ _ (by omega), List.length_replicate]; rfl) rfl (by first | omega | (rw [List.length_replicate]; omega))) (s_opN (o_stA rfl rfl rfl rfl (by rw [tabV_len _ _ _ _ (by omega), List.length_replicate]; rfl) (by rw [Int.toNat_natCast]; exact tabV_at _ _ (by omega)) rfl rfl) (Ed (q_blkN (Ec (Eb [0, 3, 4] rfl (Eg (Ea (Ee rfl) ?_))))))))
 first | refine Ea (o_addn rfl rfl (by omega)) ?_ | refine Ea (o_add rfl rfl) ?_
 refine Ea (Ee rfl) (Ed (q_loopN ?_))
 · refine ⟨i + 1, by omega, by omega, hasOf ⟨rfl, trivial⟩ ?_⟩
   rw [← tabV_set iR [.w (.int .i64 0)] (by assumption)]; rfl
 intro h1
 try rw [nnp] at h1
 refine s_exit (q_seqX (q_loopX (q_blkH (Ec (Eb [3] rfl (Ef (Eg (Ea (Ee rfl) (Ea (Ee rfl) (Ed (Ec ?_)))))))))))
 refine Eb [2] rfl (Ek (ret_leafA (.inr rfl) rfl rfl (by rw [tabV_len _ _ _ _ (by omega), List.length_replicate]; rfl) ?_))
 rotate_left
 all_goals
  rw [tabV_end _ _ _ (by omega)]
theorem c_169 (x : Req) (hs : x.small) : CV prg 169 [.agg x.r] (fun res => res = .agg x.r) := by
 refine cv_in g169 (Eb [0] rfl (Ef (Eg (Ea (o_box rfl rfl rfl) (Ea (o_new rfl rfl) (Ed (Ec (Eb [1, 2] rfl (Ef (Eg (Ea (o_new rfl rfl) ?_)))))))))))
 refine Ed (Ec (Eb [1, 2, 3] rfl (Ef (Eg (Ea (Ej rfl) (Ea (Er rfl rfl rfl) (Ea (Ej rfl) (s_opN (o_stC rfl rfl rfl rfl rfl rfl) (Ed (Ec (Eb [1, 2, 3] rfl ?_)))))))))))
 refine Ef (Eg (Ea (Ej rfl) (Ea (Er rfl rfl rfl) (Ea (Ej rfl) (s_opN (o_stC rfl rfl rfl rfl rfl rfl) (Ed (Ec (Eb [1, 2, 3] rfl (Ef (Eg (Ea (Ej rfl) ?_)))))))))))
 refine Ea (Er rfl rfl rfl) (Ea (Ej rfl) (s_opN (o_stC rfl rfl rfl rfl rfl rfl) (Ed (Ec (Eb [1, 2, 3] rfl (Ef (Eg (Ea (Ej rfl) (Ea (Er rfl rfl rfl) (Ea (Ej rfl) (s_opN (o_stC rfl rfl rfl rfl rfl rfl) ?_)))))))))))
 refine Ed (Ec (Eb [1, 2, 3] rfl (Ef (Eg (Ea (Ej rfl) (Ea (Er rfl rfl rfl) (Ea (Ej rfl) (s_opN (o_stC rfl rfl rfl rfl rfl rfl) (Ed (Ec (Eb [1, 2, 3] rfl ?_)))))))))))
 refine Ef (Eg (Ea (Ej rfl) (Ea (Er rfl rfl rfl) ?_)))
 first | refine s_call rfl rfl (c_163 _ hs) ?_ | refine s_callL rfl rfl (by simp) (c_163 _ hs) rfl ?_
 refine Ea (Ej rfl) (s_opN (o_stC rfl rfl rfl rfl rfl rfl) (Ed (Ec (Eb [2, 3] rfl (Ef (Eg (Ea (o_ldnC rfl rfl rfl) (s_opN (o_stnC rfl rfl rfl rfl rfl rfl rfl) (Ed (Ec (Eb [2] rfl ?_)))))))))))
 refine Ek (ret_leafR rfl rfl ?_)
 rotate_left
 all_goals
  rfl
theorem c_170 (xs : List Req) (hl : xs.length ≤ 1048576) (hx : ∀ y, y ∈ xs → Req.small y) : CV prg 170 [.sl 6 (xs.map Req.r)] (fun res => res = .sl 6 (xs.map Req.r)) := by
 refine cv_in g170 (Eb [0] rfl (Ef (Eg (Ea (Ee rfl) (Ed (Ec (Eb [0] rfl (Ef (Eg (Ea (Ee rfl) ?_))))))))))
 first | refine Ea (o_lenM rfl) ?_ | refine Ea (o_len rfl) ?_
 refine Ea (o_mk rfl rfl rfl rfl ⟨by omega, by unfold roomy; omega, by unfold roomy; omega⟩ rfl) (Ea (Ee rfl) (Ed (Ec (Eb [0, 3] rfl (Ef (Ef (Eg (Ea (Ee rfl) (Ed (Ec (Eb [0, 3, 4] rfl ?_)))))))))))
 refine S_block (S_loop (ι := Nat) (fun i => i ≤ xs.length) (fun i => [(4, .w (.int .i64 (i : Int)))]) (fun i => [.arr 6 (tabV Req.r [.w (.bool false), .w (.int .i64 0), .w (.int .i64 0), .w (.int .i64 0), .w (.bool false), .w (.slice none 0 0)] xs i)]) (fun i => xs.length - i) 1 0 (by simp) rfl (hasOf ⟨rfl, trivial⟩ (by rw [tabV_zero]; rfl)) rfl (fun _ _ => rfl) (fun _ _ => ⟨rfl, rfl⟩) ?_)
 intro i hi
 refine Eb [0, 3, 4] rfl (Ef (Ef (Eg (Ea (Ee rfl) (Ea (Ee rfl) ?_)))))
 first | refine Ea (o_lenM rfl) ?_ | refine Ea (o_len rfl) ?_
 refine Ea (o_lss rfl rfl) (Ed (Ec (Eb [0, 3, 4, 11] rfl ?_)))
 first | refine Ev rfl ?_ ?_ | refine Eo rfl ?_ ?_
 intro h1
 try rw [nnp] at h1
 refine Ey (Ec (Eb [0, 3, 4] rfl (Ef (S_block (Eg (Ea (Ee rfl) (Ea (Ee rfl) (Ea (Ee rfl) (Ea (Ee rfl) (s_iaM rfl rfl (by first | omega | (rw [List.length_replicate]; omega)) ?_))))))))))
 intro y2 e2
 try simp only [Int.toNat_natCast, Int.toNat_zero] at e2
 refine Ea (o_ldn rfl rfl) ?_
 first | refine s_call rfl rfl (c_169 _ (hx _ (List.mem_of_getElem? (by assumption)))) ?_ | refine s_callL rfl rfl (by simp) (c_169 _ (hx _ (List.mem_of_getElem? (by assumption)))) rfl ?_
 refine Ea (o_iaL rfl rfl (by rw [tabV_len _ _ _ _ (by omega), List.length_replicate]; rfl) rfl (by first | omega | (rw [List.length_replicate]; omega))) (s_opN (o_stnA rfl rfl rfl rfl rfl (by rw [tabV_len _ _ _ _ (by omega), List.length_replicate]; rfl) (by rw [Int.toNat_natCast]; exact tabV_at _ _ (by omega)) rfl rfl) (Ed (q_blkN (Ec (Eb [0, 3, 4] rfl (Eg (Ea (Ee rfl) ?_)))))))
 first | refine Ea (o_addn rfl rfl (by omega)) ?_ | refine Ea (o_add rfl rfl) ?_
 refine Ea (Ee rfl) (Ed (q_loopN ?_))
 · refine ⟨i + 1, by omega, by omega, hasOf ⟨rfl, trivial⟩ ?_⟩
   rw [← tabV_set Req.r [.w (.bool false), .w (.int .i64 0), .w (.int .i64 0), .w (.int .i64 0), .w (.bool false), .w (.slice none 0 0)] (by assumption)]; rfl
 intro h1
 try rw [nnp] at h1
 refine s_exit (q_seqX (q_loopX (q_blkH (Ec (Eb [3] rfl (Ef (Eg (Ea (Ee rfl) (Ea (Ee rfl) (Ed (Ec ?_)))))))))))
 refine Eb [2] rfl (Ek (ret_leafA (.inr rfl) rfl rfl (by rw [tabV_len _ _ _ _ (by omega), List.length_replicate]; rfl) ?_))
 rotate_left
 all_goals
  rw [tabV_end _ _ _ (by omega)]
theorem c_148 (xs : List Int) (left : Int) (h : -1 ≤ left ∧ left ≤ 1048576) (hl : xs.length ≤ 140737488355328) : CV prg 148 [.sl 1 (xs.map iR), .w (.int .i64 left)] (fun res => res = .w (.int .i64 (room left xs.length))) := by
 refine cv_in g148 (Eb [0, 1] rfl (Ef (Eg (Ea (Ee rfl) (Ed (Ec (Eb [0, 1] rfl (Ef (Eg (Ea (Ee rfl) (Ea (Ee rfl) ?_)))))))))))
 first | refine Ea (o_lenM rfl) ?_ | refine Ea (o_len rfl) ?_
 first | refine Ea (o_subn rfl rfl (by omega)) ?_ | refine Ea (o_sub rfl rfl) ?_
 refine Ea (Ee rfl) (Ed (Ec (Eb [1] rfl (Ef (Ef (Eg (Ea (Ee rfl) (Ea (o_lss rfl rfl) (Ed (Ec (Eb [1, 10] rfl ?_)))))))))))
 first | refine Ev rfl ?_ ?_ | refine Eo rfl ?_ ?_
 intro h1
 try rw [nnp] at h1
 refine Ef (Eg (Ea (Ee rfl) (Ed (Ec (Eb [4] rfl (Ek (Ep (En rfl rfl ?_))))))))
 rotate_left
 intro h1
 try rw [nnp] at h1
 refine Ey (Ec (Eb [1] rfl (Ef (Eg (Ea (Ee rfl) (Ea (Ee rfl) (Ed (Ec (Eb [4] rfl (Ek (En rfl rfl ?_)))))))))))
 rotate_left
 all_goals
  (try unfold room); omega
theorem c_153 (x : Req) (left : Int) (h : -1 ≤ left ∧ left ≤ 1048576) (hw : x.wf) : CV prg 153 [.agg x.r, .w (.int .i64 left)] (fun res => res = .w (.int .i64 (room left x.sz))) := by
 refine cv_in g153 (Eb [0, 1] rfl (Ef (Eg (Ea (o_box rfl rfl rfl) (Ea (Ee rfl) (Ed (Ec (Eb [1, 2] rfl (Ef (Eg (Ea (Ej rfl) ?_)))))))))))
 refine Ea (Er rfl rfl rfl) (Ea (Ee rfl) ?_)
 first | refine s_call rfl rfl (c_148 _ _ (by (try unfold room at *); omega) hw.2.2.2.1) ?_ | refine s_callL rfl rfl (by simp) (c_148 _ _ (by (try unfold room at *); omega) hw.2.2.2.1) rfl ?_
 refine Ea (Ee rfl) (Ed (Ec (Eb [1] rfl (Ef (Ef (Eg (Ea (Ee rfl) (Ea (o_lss rfl rfl) (Ed (Ec (Eb [1, 10] rfl ?_)))))))))))
 first | refine Ev rfl ?_ ?_ | refine Eo rfl ?_ ?_
 intro h1
 try rw [nnp] at h1
 refine Ef (Eg (Ea (Ee rfl) (Ed (Ec (Eb [4] rfl (Ek (Ep (En rfl rfl ?_))))))))
 rotate_left
 intro h1
 try rw [nnp] at h1
 refine Ey (Ec (Eb [1] rfl (Ef (Eg (Ea (Ee rfl) (Ea (Ee rfl) (Ed (Ec (Eb [4] rfl (Ek (En rfl rfl ?_)))))))))))
 rotate_left
 all_goals
  unfold Req.sz; (try unfold room at *); omega
theorem c_154 (xs : List Req) (left : Int) (h : -1 ≤ left ∧ left ≤ 1048576) (hl : xs.length ≤ 140737488355328) (hw : ∀ y, y ∈ xs → Req.wf y) : CV prg 154 [.sl 6 (xs.map Req.r), .w (.int .i64 left)] (fun res => res = .w (.int .i64 (room left (xs.length + sumL Req.sz xs)))) := by
 refine cv_in g154 (Eb [0, 1] rfl (Ef (Eg (Ea (Ee rfl) (Ed (Ec (Eb [0, 1] rfl (Ef (Eg (Ea (Ee rfl) (Ea (Ee rfl) ?_)))))))))))
 first | refine Ea (o_lenM rfl) ?_ | refine Ea (o_len rfl) ?_
 first | refine Ea (o_subn rfl rfl (by omega)) ?_ | refine Ea (o_sub rfl rfl) ?_
 refine Ea (Ee rfl) (Ed (Ec (Eb [0, 1] rfl (Ef (Ef (Eg (Ea (Ee rfl) (Ea (o_lss rfl rfl) (Ed (Ec (Eb [0, 1, 11] rfl ?_)))))))))))
 first | refine Ev rfl ?_ ?_ | refine Eo rfl ?_ ?_
 intro h1
 try rw [nnp] at h1
 refine Ef (Eg (Ea (Ee rfl) (Ed (Ec (Eb [4] rfl (Ek (Ep (En rfl rfl ?_))))))))
 rotate_left
 intro h1
 try rw [nnp] at h1
 refine Ey (Ec (Eb [0, 1] rfl (Ef (Ef (Eg (Ea (Ee rfl) (Ed (Ec (Eb [0, 1, 5] rfl (S_block (S_loop0 (ι := Nat) (fun i => i ≤ xs.length ∧ 0 ≤ left - xs.length - sumL Req.sz (xs.take i)) (fun i => [(5, .w (.int .i64 (i : Int))), (1, .w (.int .i64 (left - xs.length - sumL Req.sz (xs.take i))))]) (fun i => xs.length - i) 0 ⟨by simp, by simp [sumL]; omega⟩ rfl ⟨rfl, by simp [sumL, look]; rfl, trivial⟩ (fun _ _ => rfl) rfl ?_)))))))))))
 intro i hi
 have hsl := sumL_le Req.sz xs i
 refine Eb [0, 1, 5] rfl (Ef (Ef (Eg (Ea (Ee rfl) (Ea (Ee rfl) ?_)))))
 first | refine Ea (o_lenM rfl) ?_ | refine Ea (o_len rfl) ?_
 refine Ea (o_lss rfl rfl) (Ed (Ec (Eb [0, 1, 5, 15] rfl ?_)))
 first | refine Ev rfl ?_ ?_ | refine Eo rfl ?_ ?_
 intro h2
 try rw [nnp] at h2
 refine Ey (Ec (Eb [0, 1, 5] rfl (Ef (S_block (Ef (Eg (Ea (Ee rfl) (Ea (Ee rfl) (s_iaM rfl rfl (by simp at *; omega) ?_)))))))))
 intro y3 e3
 try simp only [Int.toNat_natCast, Int.toNat_zero] at e3
 refine Ea (o_ldn rfl rfl) (Ea (Ee rfl) ?_)
 first | refine s_call rfl rfl (c_153 _ _ (by omega) (hw _ (List.mem_of_getElem? (by assumption)))) ?_ | refine s_callL rfl rfl (by simp) (c_153 _ _ (by omega) (hw _ (List.mem_of_getElem? (by assumption)))) rfl ?_
 refine Ea (Ee rfl) (Ed (Ec (Eb [0, 1, 5] rfl (Ef (Eg (Ea (Ee rfl) (Ea (o_lss rfl rfl) (Ed (Ec (Eb [0, 1, 5, 25] rfl ?_))))))))))
 first | refine Ev rfl ?_ ?_ | refine Eo rfl ?_ ?_
 intro h4
 try rw [nnp] at h4
 refine Ef (Eg (Ea (Ee rfl) (Ed (Ec (Eb [4] rfl (Ek (q_blkR (Ep (q_loopR (q_blkR (Ep ?_)))))))))))
 refine En rfl rfl ?_
 rotate_left
 intro h4
 try rw [nnp] at h4
 refine Ey (q_blkN (Ec (Eb [0, 1, 5] rfl (Eg (Ea (Ee rfl) ?_)))))
 first | refine Ea (o_addn rfl rfl (by omega)) ?_ | refine Ea (o_add rfl rfl) ?_
 refine Ea (Ee rfl) (Ed (q_loopN ?_))
 · have hst := sumL_take Req.sz (by assumption : xs[i]? = some _)
   refine ⟨i + 1, ⟨by omega, by (try unfold room at *); omega⟩, by omega, hasOf ⟨rfl, ?_, trivial⟩ rfl⟩
   refine congrArg (fun b => some (V.w (.int .i64 b))) ?_
   (try unfold room at *); omega
 intro h2
 try rw [nnp] at h2
 refine s_exit (q_seqX (q_loopX (q_blkH (Ec (Eb [1] rfl (Ef (Eg (Ea (Ee rfl) (Ea (Ee rfl) (Ed (Ec ?_)))))))))))
 refine Eb [4] rfl (Ek (En rfl rfl ?_))
 rotate_left
 all_goals
  first | ((try unfold room); omega) | (have hst := sumL_take Req.sz (by assumption : xs[i]? = some _); have hs2 := sumL_le Req.sz xs (i + 1); (try unfold room at *); omega) | (rw [sumL_end _ (by omega)] at *; (try unfold room); omega)
theorem c_136 (x y : Mst) (hs : x.small) : CV prg 136 [.agg x.r, .agg y.r] (fun res => res = .w (.bool (decide (x = y)))) := by
 refine cv_in g136 (Eb [0, 1] rfl (Ef (Eg (Ea (o_box rfl rfl rfl) (Ea (o_box rfl rfl rfl) (Ea (Ee rfl) (Ed (Ec (Eb [2, 3] rfl (Ef (Ef ?_)))))))))))
 refine Eg (Ea (Ej rfl) (Ea (Er rfl rfl rfl) (Ea (Ej rfl) (Ea (Er rfl rfl rfl) ?_))))
 first | refine s_call rfl rfl (c_139 _ _ hs.1 hs.2) ?_ | refine s_callL rfl rfl (by simp) (c_139 _ _ hs.1 hs.2) rfl ?_
 refine Ea (o_not rfl) (Ed (Ec (Eb [2, 3, 10] rfl ?_)))
 first | refine Ev rfl ?_ ?_ | refine s_condN rfl ?_ ?_ | refine s_condNB rfl ?_ ?_ | refine Eo rfl ?_ ?_
 intro h1
 try rw [nnp] at h1
 refine Ef (Eg (Ea (Ee rfl) (Ed (Ec (Eb [4] rfl (Ek (Ep (Eh rfl rfl ?_))))))))
 rotate_left
 intro h1
 try rw [nnp] at h1
 refine Ey (Ec (Eb [2, 3] rfl (Ef (Ef (Eg (Ea (Ej rfl) (Ea (Er rfl rfl rfl) (Ea (Ej rfl) (Ea (Er rfl rfl rfl) (Ea (o_neq rfl rfl) (Ed ?_)))))))))))
 refine Ec (Eb [2, 3, 15] rfl ?_)
 first | refine Ev rfl ?_ ?_ | refine Eo rfl ?_ ?_
 intro h2
 try rw [nnp] at h2
 refine Ef (Eg (Ea (Ee rfl) (Ed (Ec (Eb [4] rfl (Ek (Ep (Eh rfl rfl ?_))))))))
 rotate_left
 intro h2
 try rw [nnp] at h2
 refine Ey (Ec (Eb [2, 3] rfl (Ef (Ef (Eg (Ea (Ej rfl) (Ea (Er rfl rfl rfl) (Ea (Ej rfl) (Ea (Er rfl rfl rfl) (Ea (o_neq rfl rfl) (Ed ?_)))))))))))
 refine Ec (Eb [2, 3, 20] rfl ?_)
 first | refine Ev rfl ?_ ?_ | refine Eo rfl ?_ ?_
 intro h3
 try rw [nnp] at h3
 refine Ef (Eg (Ea (Ee rfl) (Ed (Ec (Eb [4] rfl (Ek (Ep (Eh rfl rfl ?_))))))))
 rotate_left
 intro h3
 try rw [nnp] at h3
 refine Ey (Ec (Eb [2, 3] rfl (Ef (Ef (Eg (Ea (Ej rfl) (Ea (Er rfl rfl rfl) (Ea (Ej rfl) (Ea (Er rfl rfl rfl) (Ea (o_neq rfl rfl) (Ed ?_)))))))))))
 refine Ec (Eb [2, 3, 25] rfl ?_)
 first | refine Ev rfl ?_ ?_ | refine Eo rfl ?_ ?_
 intro h4
 try rw [nnp] at h4
 refine Ef (Eg (Ea (Ee rfl) (Ed (Ec (Eb [4] rfl (Ek (Ep (Eh rfl rfl ?_))))))))
 rotate_left
 intro h4
 try rw [nnp] at h4
 refine Ey (Ec (Eb [2, 3] rfl (Ef (Ef (Eg (Ea (Ej rfl) (Ea (Er rfl rfl rfl) (Ea (Ej rfl) (Ea (Er rfl rfl rfl) (Ea (o_eqb rfl rfl) (Ed ?_)))))))))))
 refine Ec (Eb [2, 3, 30] rfl ?_)
 first | refine s_condNB rfl ?_ ?_ | refine Eo rfl ?_ ?_
 intro h5
 try rw [nnp] at h5
 refine Ef (Eg (Ea (Ee rfl) (Ed (Ec (Eb [4] rfl (Ek (Ep (Eh rfl rfl ?_))))))))
 rotate_left
 intro h5
 try rw [nnp] at h5
 refine Ey (Ec (Eb [2, 3] rfl (Ef (Ef (Eg (Ea (Ej rfl) (Ea (Er rfl rfl rfl) (Ea (Ej rfl) (Ea (Er rfl rfl rfl) (Ea (o_eqb rfl rfl) (Ed ?_)))))))))))
 refine Ec (Eb [35] rfl ?_)
 first | refine s_condNB rfl ?_ ?_ | refine Eo rfl ?_ ?_
 intro h6
 try rw [nnp] at h6
 refine Ef (Eg (Ea (Ee rfl) (Ed (Ec (Eb [4] rfl (Ek (Ep (Eh rfl rfl ?_))))))))
 rotate_left
 intro h6
 try rw [nnp] at h6
 refine Ey (Ec (Eb [] rfl (Ef (Eg (Ea (Ee rfl) (Ed (Ec (Eb [4] rfl (Ek (Eh rfl rfl ?_))))))))))
 rotate_left
 all_goals
  cases x; cases y; simp_all
theorem c_167 (x : Mst) (hs : x.small) : CV prg 167 [.agg x.r] (fun res => res = .agg x.r) := by
 refine cv_in g167 (Eb [0] rfl (Ef (Eg (Ea (o_box rfl rfl rfl) (Ea (o_new rfl rfl) (Ed (Ec (Eb [1, 2] rfl (Ef (Eg (Ea (o_new rfl rfl) ?_)))))))))))
 refine Ed (Ec (Eb [1, 2, 3] rfl (Ef (Eg (Ea (Ej rfl) (Ea (Er rfl rfl rfl) ?_))))))
 first | refine s_call rfl rfl (c_170 _ hs.1 hs.2) ?_ | refine s_callL rfl rfl (by simp) (c_170 _ hs.1 hs.2) rfl ?_
 refine Ea (Ej rfl) (s_opN (o_stC rfl rfl rfl rfl rfl rfl) (Ed (Ec (Eb [1, 2, 3] rfl (Ef (Eg (Ea (Ej rfl) (Ea (Er rfl rfl rfl) (Ea (Ej rfl) (s_opN (o_stC rfl rfl rfl rfl rfl rfl) (Ed ?_)))))))))))
 refine Ec (Eb [1, 2, 3] rfl (Ef (Eg (Ea (Ej rfl) (Ea (Er rfl rfl rfl) (Ea (Ej rfl) (s_opN (o_stC rfl rfl rfl rfl rfl rfl) (Ed (Ec (Eb [1, 2, 3] rfl (Ef ?_)))))))))))
 refine Eg (Ea (Ej rfl) (Ea (Er rfl rfl rfl) (Ea (Ej rfl) (s_opN (o_stC rfl rfl rfl rfl rfl rfl) (Ed (Ec (Eb [1, 2, 3] rfl (Ef (Eg (Ea (Ej rfl) (Ea (Er rfl rfl rfl) ?_)))))))))))
 refine Ea (Ej rfl) (s_opN (o_stC rfl rfl rfl rfl rfl rfl) (Ed (Ec (Eb [1, 2, 3] rfl (Ef (Eg (Ea (Ej rfl) (Ea (Er rfl rfl rfl) (Ea (Ej rfl) (s_opN (o_stC rfl rfl rfl rfl rfl rfl) (Ed ?_)))))))))))
 refine Ec (Eb [2, 3] rfl (Ef (Eg (Ea (o_ldnC rfl rfl rfl) (s_opN (o_stnC rfl rfl rfl rfl rfl rfl rfl) (Ed (Ec (Eb [2] rfl (Ek (ret_leafR rfl rfl ?_))))))))))
 rotate_left
 all_goals
  rfl
theorem c_151 (x : Mst) (left : Int) (h : -1 ≤ left ∧ left ≤ 1048576) (hw : x.wf) : CV prg 151 [.agg x.r, .w (.int .i64 left)] (fun res => res = .w (.int .i64 (room left x.sz))) := by
 refine cv_in g151 (Eb [0, 1] rfl (Ef (Eg (Ea (o_box rfl rfl rfl) (Ea (Ee rfl) (Ed (Ec (Eb [1, 2] rfl (Ef (Eg (Ea (Ej rfl) ?_)))))))))))
 refine Ea (Er rfl rfl rfl) (Ea (Ee rfl) ?_)
 first | refine s_call rfl rfl (c_154 _ _ (by (try unfold room at *); omega) hw.1.1 hw.1.2) ?_ | refine s_callL rfl rfl (by simp) (c_154 _ _ (by (try unfold room at *); omega) hw.1.1 hw.1.2) rfl ?_
 refine Ea (Ee rfl) (Ed (Ec (Eb [1] rfl (Ef (Ef (Eg (Ea (Ee rfl) (Ea (o_lss rfl rfl) (Ed (Ec (Eb [1, 10] rfl ?_)))))))))))
 first | refine Ev rfl ?_ ?_ | refine Eo rfl ?_ ?_
 intro h1
 try rw [nnp] at h1
 refine Ef (Eg (Ea (Ee rfl) (Ed (Ec (Eb [4] rfl (Ek (Ep (En rfl rfl ?_))))))))
 rotate_left
 intro h1
 try rw [nnp] at h1
 refine Ey (Ec (Eb [1] rfl (Ef (Eg (Ea (Ee rfl) (Ea (Ee rfl) (Ed (Ec (Eb [4] rfl (Ek (En rfl rfl ?_)))))))))))
 rotate_left
 all_goals
  unfold Mst.sz; (try unfold room at *); omega
def roundStep (c : Conf) (s : Int) (i : Nat) : Int := IntKind.wrap .i64 (s + IntKind.wrap .i64 (c.turn i * c.slot))
def Conf.round (c : Conf) : Int := if c.ok then (List.range c.masters.length).foldl (roundStep c) (IntKind.wrap .i64 (c.cost * c.masters.length)) else 0
def Conf.bound (c : Conf) (beats : Int) : Int := if c.ok && inB beats 1 8 then
 IntKind.wrap .i64 (IntKind.wrap .i64 (IntKind.wrap .i64 (2 * IntKind.wrap .i64 (IntKind.wrap .i64 (beats * IntKind.wrap .i64 (IntKind.wrap .i64 (IntKind.wrap .i64 (2 * c.round) + c.maxSplit) + c.cost)) + c.caps)) + IntKind.wrap .i64 (2 * c.slot)) + 10) else 0
theorem minL2 (a b : Int) : minL a [b] = min a b := by simp only [minL]; omega
def Wrr.back (w : Wrr) (c : Conf) (who : Int) : Wrr := if w.ok c && decide (who = w.pos) then { w with credit := min (IntKind.wrap .i64 (w.credit + 1)) (c.turn who) } else w
def Post.small (x : Post) : Prop := x.req.small
def Post.sz (x : Post) : Nat := x.req.sz
theorem Post.small_of {x : Post} (h : x.sz ≤ 1048576) : x.small := Req.small_of (by unfold Post.sz at h; omega)
def Script.small (x : Script) : Prop := x.posts.length ≤ 1048576 ∧ (∀ y, y ∈ x.posts → Post.small y) ∧ x.waits.length ≤ 1048576 ∧ x.says.length ≤ 1048576
def Script.sz (x : Script) : Nat := x.posts.length + sumL Post.sz x.posts + x.waits.length + x.says.length
theorem Script.small_of {x : Script} (h : x.sz ≤ 1048576) : x.small := ⟨by unfold Script.sz at h; omega, fun y hy => Post.small_of (by have := sumL_mem Post.sz hy; unfold Script.sz at h; omega), by unfold Script.sz at h; omega, by unfold Script.sz at h; omega⟩
def Dev.small (x : Dev) : Prop := x.regs.length ≤ 1048576 ∧ x.fifo.length ≤ 1048576
def Dev.sz (x : Dev) : Nat := x.regs.length + x.fifo.length
theorem Dev.small_of {x : Dev} (h : x.sz ≤ 1048576) : x.small := ⟨by unfold Dev.sz at h; omega, by unfold Dev.sz at h; omega⟩
def Model.small (x : Model) : Prop := x.ram.length ≤ 1048576 ∧ x.dev.small
def Model.sz (x : Model) : Nat := x.ram.length + x.dev.sz
theorem Model.small_of {x : Model} (h : x.sz ≤ 1048576) : x.small := ⟨by unfold Model.sz at h; omega, Dev.small_of (by unfold Model.sz at h; omega)⟩
def Bus.small (x : Bus) : Prop := x.conf.small ∧ x.ms.length ≤ 1048576 ∧ (∀ y, y ∈ x.ms → Mst.small y) ∧ x.buckets.length ≤ 1048576 ∧ x.splits.length ≤ 1048576 ∧ x.model.small ∧ x.log.length ≤ 1048576
def Bus.sz (x : Bus) : Nat := x.conf.sz + x.ms.length + sumL Mst.sz x.ms + x.buckets.length + x.splits.length + x.model.sz + x.log.length
theorem Bus.small_of {x : Bus} (h : x.sz ≤ 1048576) : x.small := ⟨Conf.small_of (by unfold Bus.sz at h; omega), by unfold Bus.sz at h; omega, fun y hy => Mst.small_of (by have := sumL_mem Mst.sz hy; unfold Bus.sz at h; omega), by unfold Bus.sz at h; omega, by unfold Bus.sz at h; omega, Model.small_of (by unfold Bus.sz at h; omega), by unfold Bus.sz at h; omega⟩
def MConf.beq (x y : MConf) : Bool := ((x.weight == y.weight) && ((x.prio == y.prio) && ((x.every == y.every) && ((x.cap == y.cap) && true))))
def Bucket.beq (x y : Bucket) : Bool := ((x.tokens == y.tokens) && ((x.count == y.count) && true))
def Beat.beq (x y : Beat) : Bool := ((x.live == y.live) && ((x.who == y.who) && ((x.num == y.num) && ((x.first == y.first) && ((x.via == y.via) && ((x.left == y.left) && ((x.resp == y.resp) && ((x.second == y.second) && true))))))))
def Wrr.beq (x y : Wrr) : Bool := ((x.pos == y.pos) && ((x.credit == y.credit) && true))
structure Bus.parts (x y : Bus) : Prop where
 conf : x.conf = y.conf
 now : x.now = y.now
 ms : x.ms = y.ms
 arb : x.arb = y.arb
 buckets : x.buckets = y.buckets
 splits : x.splits = y.splits
 holder : x.holder = y.holder
 kept : x.kept = y.kept
 last : x.last = y.last
 addr : x.addr = y.addr
 data : x.data = y.data
 model : x.model = y.model
 picks : x.picks = y.picks
 log : x.log = y.log
def bytes (size : Int) : Int := if inB size 0 2 then (if size = 0 then 1 else if size = 1 then 2 else 4) else 0
def limit (size : Int) : Int := if inB size 0 2 then (if size = 0 then 256 else if size = 1 then 65536 else 4294967296) else 0
def beatsN (b : Int) : Int := if b = 0 then 1 else if b = 3 then 8 else 4
def beats (b : Int) : Int := if inB b 0 3 then beatsN b else 0
theorem in3 {x : Int} (h : inB x 0 2 = true) : x = 0 ∨ x = 1 ∨ x = 2 := by have := inB_t h; omega
theorem in4 {x : Int} (h : inB x 0 3 = true) : x = 0 ∨ x = 1 ∨ x = 2 ∨ x = 3 := by have := inB_t h; omega
theorem bytes_leaf {x : Int} (h : inB x 0 2 = true) : IntKind.wrap .i64 (1 * 2 ^ (min x.toNat IntKind.i64.bits)) = bytes x := by
 unfold bytes; rw [if_pos h]; rcases in3 h with rfl | rfl | rfl <;> decide
theorem bytes_pos {x : Int} (h : inB x 0 2 = true) : bytes x = 1 ∨ bytes x = 2 ∨ bytes x = 4 := by
 unfold bytes; rw [if_pos h]; rcases in3 h with rfl | rfl | rfl <;> simp
theorem bytes_no {x : Int} (h : inB x 0 2 = false) : bytes x = 0 := by unfold bytes; rw [if_neg (by simp [h])]
theorem bytes_z {x : Int} : bytes x = 0 ∧ inB x 0 2 = false ∨ inB x 0 2 = true ∧ (bytes x = 1 ∨ bytes x = 2 ∨ bytes x = 4) := by
 cases h : inB x 0 2 with
 | false => exact .inl ⟨bytes_no h, rfl⟩
 | true => exact .inr ⟨rfl, bytes_pos h⟩
theorem limit_leaf {x : Int} (h : ¬ bytes x = 0) : IntKind.wrap .i64 (1 * 2 ^ (min (IntKind.wrap .i64 (8 * bytes x)).toNat IntKind.i64.bits)) = limit x := by
 rcases bytes_z (x := x) with ⟨h1, _⟩ | ⟨h1, _⟩
 · exact absurd h1 h
 · unfold limit bytes; rw [if_pos h1, if_pos h1]; rcases in3 h1 with rfl | rfl | rfl <;> decide
theorem limit_no {x : Int} (h : bytes x = 0) : limit x = 0 := by
 rcases bytes_z (x := x) with ⟨_, h1⟩ | ⟨_, h1⟩
 · unfold limit; rw [if_neg (by simp [h1])]
 · omega
theorem limit_bd (x : Int) : 0 ≤ limit x ∧ limit x ≤ 4294967296 := by
 unfold limit
 split
 · rename_i h; rcases in3 h with rfl | rfl | rfl <;> simp
 · simp
theorem beats_row {b : Int} {t : IntKind} (h : inB b 0 3 = true) : [[V.w (.int .i64 1)], [V.w (.int .i64 4)], [V.w (.int .i64 4)], [V.w (.int .i64 8)]][b.toNat]? = some [V.w (.int .i64 (beatsN b))] := by
 rcases in4 h with rfl | rfl | rfl | rfl <;> rfl
theorem beats_bd (b : Int) : 0 ≤ beats b ∧ beats b ≤ 8 := by
 unfold beats
 split
 · rename_i h; rcases in4 h with rfl | rfl | rfl | rfl <;> simp [beatsN]
 · simp
def aligned (a size : Int) : Bool := inB size 0 2 && decide (0 ≤ a) && decide (a.tmod (bytes size) = 0)
def nextA (a size burst : Int) : Int :=
 if aligned a size && decide (a < 512) && decide (beats burst ≠ 0) then
  (if burst = 2 ∧ (a + bytes size).tmod (4 * bytes size) = 0 then a + bytes size - 4 * bytes size else a + bytes size)
 else -1
theorem c_33 (size : Int) : CV prg 33 [.w (.int .i64 size)] (fun res => res = .w (.int .i64 (bytes size))) := by
 refine cv_in g33 (Eb [0] rfl (Ef (Eg (Ea (Ee rfl) (Ed (Ec (Eb [0] rfl (Ef (Ef (Eg (Ea (Ee rfl) ?_)))))))))))
 refine s_call rfl rfl (c_103 ..) (Ea (o_not rfl) (Ed (Ec (Eb [0, 5] rfl ?_))))
 first | refine Ev rfl ?_ ?_ | refine s_condN rfl ?_ ?_ | refine s_condNB rfl ?_ ?_ | refine Eo rfl ?_ ?_
 intro h1
 try rw [nnp] at h1
 try have h1' := inB_t h1
 refine Ef (Eg (Ea (Ee rfl) (Ed (Ec (Eb [2] rfl (Ek (Ep (En rfl rfl ?_))))))))
 rotate_left
 intro h1
 try rw [nnp] at h1
 try have h1' := inB_t h1
 refine Ey (Ec (Eb [0] rfl (Ef (Eg (Ea (Ee rfl) (Ea (o_shl rfl rfl (by omega)) (Ea (Ee rfl) (Ed (Ec (Eb [2] rfl (Ek ?_)))))))))))
 refine En rfl rfl ?_
 rotate_left
 all_goals
  first | exact bytes_leaf (by assumption) | exact (bytes_no (by assumption)).symm
theorem c_183 (size : Int) : CV prg 183 [.w (.int .i64 size)] (fun res => res = .w (.int .i64 (bytes size))) := by
 refine cv_in g183 (Eb [0] rfl (Ef (Eg (Ea (Ee rfl) (Ed (Ec (Eb [0] rfl (Ef (Ef (Eg (Ea (Ee rfl) ?_)))))))))))
 refine s_call rfl rfl (c_230 ..) (Ea (o_not rfl) (Ed (Ec (Eb [0, 5] rfl ?_))))
 first | refine Ev rfl ?_ ?_ | refine s_condN rfl ?_ ?_ | refine s_condNB rfl ?_ ?_ | refine Eo rfl ?_ ?_
 intro h1
 try rw [nnp] at h1
 try have h1' := inB_t h1
 refine Ef (Eg (Ea (Ee rfl) (Ed (Ec (Eb [2] rfl (Ek (Ep (En rfl rfl ?_))))))))
 rotate_left
 intro h1
 try rw [nnp] at h1
 try have h1' := inB_t h1
 refine Ey (Ec (Eb [0] rfl (Ef (Eg (Ea (Ee rfl) (Ea (o_shl rfl rfl (by omega)) (Ea (Ee rfl) (Ed (Ec (Eb [2] rfl (Ek ?_)))))))))))
 refine En rfl rfl ?_
 rotate_left
 all_goals
  first | exact bytes_leaf (by assumption) | exact (bytes_no (by assumption)).symm
theorem c_22 (b : Int) : CV prg 22 [.w (.int .i64 b)] (fun res => res = .w (.int .i64 (beats b))) := by
 refine cv_in g22 (Eb [0] rfl (Ef (Eg (Ea (Ee rfl) (Ed (Ec (Eb [0] rfl (Ef (Ef (Eg (Ea (Ee rfl) ?_)))))))))))
 refine s_call rfl rfl (c_103 ..) (Ea (o_not rfl) (Ed (Ec (Eb [0, 5] rfl ?_))))
 first | refine Ev rfl ?_ ?_ | refine s_condN rfl ?_ ?_ | refine s_condNB rfl ?_ ?_ | refine Eo rfl ?_ ?_
 intro h1
 try rw [nnp] at h1
 try have h1' := inB_t h1
 refine Ef (Eg (Ea (Ee rfl) (Ed (Ec (Eb [2] rfl (Ek (Ep (En rfl rfl ?_))))))))
 rotate_left
 intro h1
 try rw [nnp] at h1
 try have h1' := inB_t h1
 refine Ey (Ec (Eb [0] rfl (Ef (Eg (Ea (o_bs rfl rfl rfl rfl) (Ea (Ee rfl) (Ea (o_iaL rfl rfl rfl rfl (by simp; omega)) (Ea (o_ldA rfl rfl rfl (beats_row (t := .i64) (by assumption)) rfl) (Ea (Ee rfl) (Ed (Ec ?_)))))))))))
 refine Eb [2] rfl (Ek (En rfl rfl ?_))
 rotate_left
 all_goals
  simp_all [beats]
theorem c_173 (b : Int) : CV prg 173 [.w (.int .i64 b)] (fun res => res = .w (.int .i64 (beats b))) := by
 refine cv_in g173 (Eb [0] rfl (Ef (Eg (Ea (Ee rfl) (Ed (Ec (Eb [0] rfl (Ef (Ef (Eg (Ea (Ee rfl) ?_)))))))))))
 refine s_call rfl rfl (c_230 ..) (Ea (o_not rfl) (Ed (Ec (Eb [0, 5] rfl ?_))))
 first | refine Ev rfl ?_ ?_ | refine s_condN rfl ?_ ?_ | refine s_condNB rfl ?_ ?_ | refine Eo rfl ?_ ?_
 intro h1
 try rw [nnp] at h1
 try have h1' := inB_t h1
 refine Ef (Eg (Ea (Ee rfl) (Ed (Ec (Eb [2] rfl (Ek (Ep (En rfl rfl ?_))))))))
 rotate_left
 intro h1
 try rw [nnp] at h1
 try have h1' := inB_t h1
 refine Ey (Ec (Eb [0] rfl (Ef (Eg (Ea (o_bs rfl rfl rfl rfl) (Ea (Ee rfl) (Ea (o_iaL rfl rfl rfl rfl (by simp; omega)) (Ea (o_ldA rfl rfl rfl (beats_row (t := .i64) (by assumption)) rfl) (Ea (Ee rfl) (Ed (Ec ?_)))))))))))
 refine Eb [2] rfl (Ek (En rfl rfl ?_))
 rotate_left
 all_goals
  simp_all [beats]
theorem c_51 (size : Int) : CV prg 51 [.w (.int .i64 size)] (fun res => res = .w (.int .i64 (limit size))) := by
 have hz := bytes_z (x := size)
 refine cv_in g51 (Eb [0] rfl (Ef (Eg (Ea (Ee rfl) (Ed (Ec (Eb [0] rfl (Ef (Ef (Eg (Ea (Ee rfl) ?_)))))))))))
 refine s_call rfl rfl (c_33 ..) (Ea (o_eql rfl rfl) (Ed (Ec (Eb [0, 5] rfl ?_))))
 first | refine Ev rfl ?_ ?_ | refine Eo rfl ?_ ?_
 intro h1
 try rw [nnp] at h1
 refine Ef (Eg (Ea (Ee rfl) (Ed (Ec (Eb [2] rfl (Ek (Ep (En rfl rfl ?_))))))))
 rotate_left
 intro h1
 try rw [nnp] at h1
 refine Ey (Ec (Eb [0] rfl (Ef (Eg (Ea (Ee rfl) (s_call rfl rfl (c_33 ..) (Ea (o_mul rfl rfl) (Ea (o_shl rfl rfl (by rw [wrap_in _ (by omega)]; omega)) (Ea (Ee rfl) (Ed (Ec ?_)))))))))))
 refine Eb [2] rfl (Ek (En rfl rfl ?_))
 rotate_left
 all_goals
  first | exact limit_leaf (by assumption) | exact (limit_no (by assumption)).symm
theorem c_201 (size : Int) : CV prg 201 [.w (.int .i64 size)] (fun res => res = .w (.int .i64 (limit size))) := by
 have hz := bytes_z (x := size)
 refine cv_in g201 (Eb [0] rfl (Ef (Eg (Ea (Ee rfl) (Ed (Ec (Eb [0] rfl (Ef (Ef (Eg (Ea (Ee rfl) ?_)))))))))))
 refine s_call rfl rfl (c_183 ..) (Ea (o_eql rfl rfl) (Ed (Ec (Eb [0, 5] rfl ?_))))
 first | refine Ev rfl ?_ ?_ | refine Eo rfl ?_ ?_
 intro h1
 try rw [nnp] at h1
 refine Ef (Eg (Ea (Ee rfl) (Ed (Ec (Eb [2] rfl (Ek (Ep (En rfl rfl ?_))))))))
 rotate_left
 intro h1
 try rw [nnp] at h1
 refine Ey (Ec (Eb [0] rfl (Ef (Eg (Ea (Ee rfl) (s_call rfl rfl (c_183 ..) (Ea (o_mul rfl rfl) (Ea (o_shl rfl rfl (by rw [wrap_in _ (by omega)]; omega)) (Ea (Ee rfl) (Ed (Ec ?_)))))))))))
 refine Eb [2] rfl (Ek (En rfl rfl ?_))
 rotate_left
 all_goals
  first | exact limit_leaf (by assumption) | exact (limit_no (by assumption)).symm
theorem c_92 (v size : Int) : CV prg 92 [.w (.int .i64 v), .w (.int .i64 size)] (fun res => res = .w (.bool (inB v 0 (limit size - 1)))) := by
 have hz := limit_bd size
 refine cv_in g92 (Eb [0, 1] rfl (Ef (Eg (Ea (Ee rfl) (Ed (Ec (Eb [0, 1] rfl (Ef (Eg (Ea (Ee rfl) (Ea (Ee rfl) ?_)))))))))))
 refine s_call rfl rfl (c_51 ..) ?_
 first | refine Ea (o_subn rfl rfl (by omega)) ?_ | refine Ea (o_sub rfl rfl) ?_
 refine s_call rfl rfl (c_103 ..) (Ea (Ee rfl) (Ed (Ec (Eb [4] rfl (Ek (Eh rfl rfl ?_))))))
 rotate_left
 all_goals
  rfl
theorem c_21 (a size : Int) : CV prg 21 [.w (.int .i64 a), .w (.int .i64 size)] (fun res => res = .w (.bool (aligned a size))) := by
 have hz := bytes_z (x := size)
 refine cv_in g21 (Eb [0, 1] rfl (Ef (Eg (Ea (Ee rfl) (Ed (Ec (Eb [0, 1] rfl (Ef (Eg (Ea (Ee rfl) (s_call rfl rfl (c_103 ..) ?_)))))))))))
 refine Ea (Ee rfl) ?_
 first | refine s_gDT rfl ?_ ?_ | refine s_gNDT rfl ?_ ?_ | refine s_gNT rfl ?_ ?_ | refine s_gB rfl ?_ ?_
 intro h1
 try rw [nnp] at h1
 try (have h1' := hz; rw [h1] at h1'; simp at h1')
 refine Ea (Ee rfl) (s_gT rfl (Ea (o_geq rfl rfl) (Ea (o_pickT rfl rfl) (Ea (Ee rfl) ?_))))
 first | refine s_gDT rfl ?_ ?_ | refine s_gB rfl ?_ ?_
 intro h2
 try rw [nnp] at h2
 try (have h2' := hz; rw [h2] at h2'; simp at h2')
 refine Ea (Ee rfl) (s_gT rfl (Ea (Ee rfl) (s_gT rfl (s_call rfl rfl (c_33 ..) (s_gT rfl ?_)))))
 first | refine Ea (o_rem rfl rfl (by decide)) ?_ | refine Ea (o_rem rfl rfl (by omega)) ?_
 refine s_gT rfl (Ea (o_eql rfl rfl) (Ea (o_pickT rfl rfl) (Ea (Ee rfl) (Ed (Ec (Eb [4] rfl (Ek (Eh rfl rfl ?_))))))))
 rotate_left
 intro h2
 try rw [nnp] at h2
 try (have h2' := hz; rw [h2] at h2'; simp at h2')
 refine Eu rfl (Eu rfl (Eu rfl (Eu rfl (Eu rfl (Ea (Fa rfl rfl) (Ea (Ee rfl) (Ed (Ec (Eb [4] rfl (Ek (Eh rfl rfl ?_)))))))))))
 rotate_left
 intro h1
 try rw [nnp] at h1
 try (have h1' := hz; rw [h1] at h1'; simp at h1')
 refine Eu rfl (Eu rfl (Ea (Fa rfl rfl) (Ea (Ee rfl) (Eu rfl (Eu rfl (Eu rfl (Eu rfl (Eu rfl (Ea (Fa rfl rfl) (Ea (Ee rfl) (Ed ?_)))))))))))
 refine Ec (Eb [4] rfl (Ek (Eh rfl rfl ?_)))
 rotate_left
 all_goals
  first | (simp_all [aligned]; done) | (simp_all [aligned] <;> omega)
theorem c_172 (a size : Int) : CV prg 172 [.w (.int .i64 a), .w (.int .i64 size)] (fun res => res = .w (.bool (aligned a size))) := by
 have hz := bytes_z (x := size)
 refine cv_in g172 (Eb [0, 1] rfl (Ef (Eg (Ea (Ee rfl) (Ed (Ec (Eb [0, 1] rfl (Ef (Eg (Ea (Ee rfl) (s_call rfl rfl (c_183 ..) ?_)))))))))))
 refine Ea (o_gtr rfl rfl) (Ea (Ee rfl) ?_)
 first | refine s_gDT rfl ?_ ?_ | refine s_gB rfl ?_ ?_
 intro h1
 try rw [nnp] at h1
 refine Ea (Ee rfl) (s_gT rfl (Ea (o_geq rfl rfl) (Ea (o_pickT rfl rfl) (Ea (Ee rfl) ?_))))
 first | refine s_gDT rfl ?_ ?_ | refine s_gB rfl ?_ ?_
 intro h2
 try rw [nnp] at h2
 refine Ea (Ee rfl) (s_gT rfl (Ea (Ee rfl) (s_gT rfl (s_call rfl rfl (c_183 ..) (s_gT rfl ?_)))))
 first | refine Ea (o_rem rfl rfl (by decide)) ?_ | refine Ea (o_rem rfl rfl (by omega)) ?_
 refine s_gT rfl (Ea (o_eql rfl rfl) (Ea (o_pickT rfl rfl) (Ea (Ee rfl) (Ed (Ec (Eb [4] rfl (Ek (Eh rfl rfl ?_))))))))
 rotate_left
 intro h2
 try rw [nnp] at h2
 refine Eu rfl (Eu rfl (Eu rfl (Eu rfl (Eu rfl (Ea (Fa rfl rfl) (Ea (Ee rfl) (Ed (Ec (Eb [4] rfl (Ek (Eh rfl rfl ?_)))))))))))
 rotate_left
 intro h1
 try rw [nnp] at h1
 refine Eu rfl (Eu rfl (Ea (Fa rfl rfl) (Ea (Ee rfl) (Eu rfl (Eu rfl (Eu rfl (Eu rfl (Eu rfl (Ea (Fa rfl rfl) (Ea (Ee rfl) (Ed ?_)))))))))))
 refine Ec (Eb [4] rfl (Ek (Eh rfl rfl ?_)))
 rotate_left
 all_goals
  first | (rcases hz with ⟨h8, h9⟩ | ⟨h8, h9⟩ <;> simp_all [aligned]; done) | (rcases hz with ⟨h8, h9⟩ | ⟨h8, h9⟩ <;> simp_all [aligned] <;> omega)
theorem aligned_t {a s : Int} (h : aligned a s = true) : inB s 0 2 = true ∧ 0 ≤ a ∧ (bytes s = 1 ∨ bytes s = 2 ∨ bytes s = 4) := by
 simp only [aligned, Bool.and_eq_true, decide_eq_true_eq] at h
 exact ⟨h.1.1, h.1.2, bytes_pos h.1.1⟩
theorem c_60 (a size burst : Int) : CV prg 60 [.w (.int .i64 a), .w (.int .i64 size), .w (.int .i64 burst)] (fun res => res = .w (.int .i64 (nextA a size burst))) := by
 refine cv_in g60 (Eb [0, 1, 2] rfl (Ef (Eg (Ea (Ee rfl) (Ed (Ec (Eb [0, 1, 2] rfl (Ef (Ef (Eg (Ea (Ee rfl) ?_)))))))))))
 refine Ea (Ee rfl) (s_call rfl rfl (c_21 ..) (Ea (o_not rfl) (Ea (Ee rfl) ?_)))
 first | refine s_gDF rfl ?_ ?_ | refine s_gNDF rfl ?_ ?_ | refine s_gNF rfl ?_ ?_ | refine s_gB rfl ?_ ?_
 intro h1
 try rw [nnp] at h1
 try have h1' := aligned_t h1
 try have h1' := inB_t h1
 try have h1' := inB_f h1
 refine Ea (Ee rfl) (s_gT rfl (Ea (o_geq rfl rfl) (Ea (Fa rfl rfl) (Ea (Ee rfl) ?_))))
 first | refine s_gDF rfl ?_ ?_ | refine s_gB rfl ?_ ?_
 intro h2
 try rw [nnp] at h2
 try have h2' := aligned_t h2
 try have h2' := inB_t h2
 try have h2' := inB_f h2
 refine Ea (Ee rfl) (s_gT rfl (s_call rfl rfl (c_22 ..) (s_gT rfl (Ea (o_eql rfl rfl) (Ea (Fa rfl rfl) (Ed (Ec (Eb [0, 1, 2, 21] rfl ?_))))))))
 first | refine Ev rfl ?_ ?_ | refine Eo rfl ?_ ?_
 intro h3
 try rw [nnp] at h3
 try have h3' := aligned_t h3
 try have h3' := inB_t h3
 try have h3' := inB_f h3
 refine Ef (Eg (Ea (Ee rfl) (Ed (Ec (Eb [6] rfl (Ek (Ep (En rfl rfl ?_))))))))
 rotate_left
 intro h3
 try rw [nnp] at h3
 try have h3' := aligned_t h3
 try have h3' := inB_t h3
 try have h3' := inB_f h3
 refine Ey (Ec (Eb [0, 1, 2] rfl (Ef (Eg (Ea (Ee rfl) (Ea (Ee rfl) (s_call rfl rfl (c_33 ..) ?_)))))))
 first | refine Ea (o_addn rfl rfl (by omega)) ?_ | refine Ea (o_add rfl rfl) ?_
 refine Ea (Ee rfl) (s_call rfl rfl (c_33 ..) ?_)
 first | refine Ea (o_muln rfl rfl (by omega)) ?_ | refine Ea (o_mul rfl rfl) ?_
 refine Ea (Ee rfl) (Ea (Ee rfl) (Ed (Ec (Eb [2, 7, 8] rfl (Ef (Ef (Eg (Ea (Ee rfl) (Ea (o_eql rfl rfl) (Ea (Ee rfl) ?_))))))))))
 first | refine s_gDT rfl ?_ ?_ | refine s_gB rfl ?_ ?_
 intro h4
 try rw [nnp] at h4
 try have h4' := aligned_t h4
 try have h4' := inB_t h4
 try have h4' := inB_f h4
 refine Ea (Ee rfl) (s_gT rfl (Ea (Ee rfl) (s_gT rfl ?_)))
 first | refine Ea (o_rem rfl rfl (by decide)) ?_ | refine Ea (o_rem rfl rfl (by omega)) ?_
 refine s_gT rfl (Ea (o_eql rfl rfl) (Ea (o_pickT rfl rfl) (Ed (Ec (Eb [7, 8, 36] rfl ?_)))))
 first | refine Ev rfl ?_ ?_ | refine Eo rfl ?_ ?_
 intro h5
 try rw [nnp] at h5
 try have h5' := aligned_t h5
 try have h5' := inB_t h5
 try have h5' := inB_f h5
 refine Eg (Ea (Ee rfl) (Ea (Ee rfl) ?_))
 first | refine Ea (o_subn rfl rfl (by omega)) ?_ | refine Ea (o_sub rfl rfl) ?_
 refine Ea (Ee rfl) (Ed (Ec (Eb [7] rfl (Ef (Eg (Ea (Ee rfl) (Ea (Ee rfl) (Ed (Ec (Eb [6] rfl (Ek ?_)))))))))))
 refine En rfl rfl ?_
 rotate_left
 intro h5
 try rw [nnp] at h5
 try have h5' := aligned_t h5
 try have h5' := inB_t h5
 try have h5' := inB_f h5
 refine Ey (Ec (Eb [7] rfl (Ef (Eg (Ea (Ee rfl) (Ea (Ee rfl) (Ed (Ec (Eb [6] rfl (Ek (En rfl rfl ?_)))))))))))
 rotate_left
 intro h4
 try rw [nnp] at h4
 try have h4' := aligned_t h4
 try have h4' := inB_t h4
 try have h4' := inB_f h4
 refine Eu rfl (Eu rfl (Eu rfl (Eu rfl (Ea (Fa rfl rfl) (Ed (Ec (Eb [7, 8, 36] rfl (s_condF rfl (Ey (Ec (Eb [7] rfl ?_)))))))))))
 refine Ef (Eg (Ea (Ee rfl) (Ea (Ee rfl) (Ed (Ec (Eb [6] rfl (Ek (En rfl rfl ?_))))))))
 rotate_left
 intro h2
 try rw [nnp] at h2
 try have h2' := aligned_t h2
 try have h2' := inB_t h2
 try have h2' := inB_f h2
 refine Eu rfl (Eu rfl (Eu rfl (Ea (o_pickT rfl rfl) (Ed (Ec (Eb [0, 1, 2, 21] rfl (s_condT rfl (Ef (Eg (Ea (Ee rfl) (Ed ?_)))))))))))
 refine Ec (Eb [6] rfl (Ek (Ep (En rfl rfl ?_))))
 rotate_left
 intro h1
 try rw [nnp] at h1
 try have h1' := aligned_t h1
 try have h1' := inB_t h1
 try have h1' := inB_f h1
 refine Eu rfl (Eu rfl (Ea (o_pickT rfl rfl) (Ea (Ee rfl) (Eu rfl (Eu rfl (Eu rfl (Ea (o_pickT rfl rfl) (Ed (Ec (Eb [0, 1, 2, 21] rfl (s_condT rfl ?_)))))))))))
 refine Ef (Eg (Ea (Ee rfl) (Ed (Ec (Eb [6] rfl (Ek (Ep (En rfl rfl ?_))))))))
 rotate_left
 all_goals
  first | (simp_all [nextA]; done) | (simp_all [nextA] <;> omega)
theorem c_205 (a size burst : Int) : CV prg 205 [.w (.int .i64 a), .w (.int .i64 size), .w (.int .i64 burst)] (fun res => res = .w (.int .i64 (nextA a size burst))) := by
 refine cv_in g205 (Eb [0, 1, 2] rfl (Ef (Eg (Ea (Ee rfl) (Ed (Ec (Eb [0, 1, 2] rfl (Ef (Eg (Ea (Ee rfl) (s_call rfl rfl (c_183 ..) ?_)))))))))))
 refine Ea (Ee rfl) (Ed (Ec (Eb [0, 1, 2, 7] rfl (Ef (Ef (Eg (Ea (Ee rfl) (Ea (Ee rfl) (s_call rfl rfl (c_172 ..) (Ea (o_not rfl) (Ea (Ee rfl) ?_)))))))))))
 first | refine s_gDF rfl ?_ ?_ | refine s_gNDF rfl ?_ ?_ | refine s_gNF rfl ?_ ?_ | refine s_gB rfl ?_ ?_
 intro h1
 try rw [nnp] at h1
 try have h1' := aligned_t h1
 try have h1' := inB_t h1
 try have h1' := inB_f h1
 refine Ea (Ee rfl) (s_gT rfl (s_call rfl rfl (c_230 ..) (s_gT rfl (Ea (o_not rfl) (Ea (Fa rfl rfl) (Ea (Ee rfl) ?_))))))
 first | refine s_gDF rfl ?_ ?_ | refine s_gNDF rfl ?_ ?_ | refine s_gNF rfl ?_ ?_ | refine s_gB rfl ?_ ?_
 intro h2
 try rw [nnp] at h2
 try have h2' := aligned_t h2
 try have h2' := inB_t h2
 try have h2' := inB_f h2
 refine Ea (Ee rfl) (s_gT rfl (s_call rfl rfl (c_173 ..) (s_gT rfl (Ea (o_eql rfl rfl) (Ea (Fa rfl rfl) (Ed (Ec (Eb [0, 2, 7, 23] rfl ?_))))))))
 first | refine Ev rfl ?_ ?_ | refine Eo rfl ?_ ?_
 intro h3
 try rw [nnp] at h3
 try have h3' := aligned_t h3
 try have h3' := inB_t h3
 try have h3' := inB_f h3
 refine Ef (Eg (Ea (Ee rfl) (Ed (Ec (Eb [6] rfl (Ek (Ep (En rfl rfl ?_))))))))
 rotate_left
 intro h3
 try rw [nnp] at h3
 try have h3' := aligned_t h3
 try have h3' := inB_t h3
 try have h3' := inB_f h3
 refine Ey (Ec (Eb [0, 2, 7] rfl (Ef (Ef (Eg (Ea (Ee rfl) (Ea (o_eql rfl rfl) (Ea (Ee rfl) ?_))))))))
 first | refine s_gDT rfl ?_ ?_ | refine s_gB rfl ?_ ?_
 intro h4
 try rw [nnp] at h4
 try have h4' := aligned_t h4
 try have h4' := inB_t h4
 try have h4' := inB_f h4
 refine Ea (Ee rfl) (s_gT rfl (Ea (Ee rfl) (s_gT rfl ?_)))
 first | refine Ea (o_addn rfl rfl (by omega)) ?_ | refine Ea (o_add rfl rfl) ?_
 refine s_gT rfl (Ea (Ee rfl) (s_gT rfl ?_))
 first | refine Ea (o_muln rfl rfl (by omega)) ?_ | refine Ea (o_mul rfl rfl) ?_
 refine s_gT rfl ?_
 first | refine Ea (o_rem rfl rfl (by decide)) ?_ | refine Ea (o_rem rfl rfl (by omega)) ?_
 refine s_gT rfl (Ea (o_eql rfl rfl) (Ea (o_pickT rfl rfl) (Ed (Ec (Eb [0, 7, 34] rfl ?_)))))
 first | refine Ev rfl ?_ ?_ | refine Eo rfl ?_ ?_
 intro h5
 try rw [nnp] at h5
 try have h5' := aligned_t h5
 try have h5' := inB_t h5
 try have h5' := inB_f h5
 refine Ef (Eg (Ea (Ee rfl) (Ea (Ee rfl) ?_)))
 first | refine Ea (o_addn rfl rfl (by omega)) ?_ | refine Ea (o_add rfl rfl) ?_
 refine Ea (Ee rfl) ?_
 first | refine Ea (o_muln rfl rfl (by omega)) ?_ | refine Ea (o_mul rfl rfl) ?_
 first | refine Ea (o_subn rfl rfl (by omega)) ?_ | refine Ea (o_sub rfl rfl) ?_
 refine Ea (Ee rfl) (Ed (Ec (Eb [6] rfl (Ek (Ep (En rfl rfl ?_))))))
 rotate_left
 intro h5
 try rw [nnp] at h5
 try have h5' := aligned_t h5
 try have h5' := inB_t h5
 try have h5' := inB_f h5
 refine Ey (Ec (Eb [0, 7] rfl (Ef (Eg (Ea (Ee rfl) (Ea (Ee rfl) ?_))))))
 first | refine Ea (o_addn rfl rfl (by omega)) ?_ | refine Ea (o_add rfl rfl) ?_
 refine Ea (Ee rfl) (Ed (Ec (Eb [6] rfl (Ek (En rfl rfl ?_)))))
 rotate_left
 intro h4
 try rw [nnp] at h4
 try have h4' := aligned_t h4
 try have h4' := inB_t h4
 try have h4' := inB_f h4
 iterate 7 refine Eu rfl ?_
 refine Ea (Fa rfl rfl) (Ed (Ec (Eb [0, 7, 34] rfl (s_condF rfl (Ey (Ec (Eb [0, 7] rfl (Ef (Eg (Ea (Ee rfl) (Ea (Ee rfl) ?_)))))))))))
 first | refine Ea (o_addn rfl rfl (by omega)) ?_ | refine Ea (o_add rfl rfl) ?_
 refine Ea (Ee rfl) (Ed (Ec (Eb [6] rfl (Ek (En rfl rfl ?_)))))
 rotate_left
 intro h2
 try rw [nnp] at h2
 try have h2' := aligned_t h2
 try have h2' := inB_t h2
 try have h2' := inB_f h2
 refine Eu rfl (Eu rfl (Eu rfl (Ea (o_pickT rfl rfl) (Ed (Ec (Eb [0, 2, 7, 23] rfl (s_condT rfl (Ef (Eg (Ea (Ee rfl) (Ed ?_)))))))))))
 refine Ec (Eb [6] rfl (Ek (Ep (En rfl rfl ?_))))
 rotate_left
 intro h1
 try rw [nnp] at h1
 try have h1' := aligned_t h1
 try have h1' := inB_t h1
 try have h1' := inB_f h1
 refine Eu rfl (Eu rfl (Eu rfl (Ea (o_pickT rfl rfl) (Ea (Ee rfl) (Eu rfl (Eu rfl (Eu rfl (Ea (o_pickT rfl rfl) (Ed (Ec (Eb [0, 2, 7, 23] rfl ?_)))))))))))
 refine s_condT rfl (Ef (Eg (Ea (Ee rfl) (Ed (Ec (Eb [6] rfl (Ek (Ep (En rfl rfl ?_)))))))))
 rotate_left
 all_goals
  first | (simp_all [nextA]; done) | (simp_all [nextA] <;> omega)
def bl (s b : Int) : Nat → Int → Option (List Int)
 | 0, _ => some []
 | n + 1, a => if nextA a s b < 0 then none else (bl s b n (nextA a s b)).map (a :: ·)
def burstL (a s b : Int) : List Int := (bl s b (beats b).toNat a).getD []
theorem bl_step {s b a c : Int} {n i : Nat} {pre : List Int} (h : bl s b n a = (bl s b (n - i) c).map (pre ++ ·)) (hi : i < n) (hn : ¬ nextA c s b < 0) : bl s b n a = (bl s b (n - (i + 1)) (nextA c s b)).map ((pre ++ [c]) ++ ·) := by
 rw [h]
 have e : n - i = (n - (i + 1)) + 1 := by omega
 rw [e, bl, if_neg hn]
 cases bl s b (n - (i + 1)) (nextA c s b) <;> simp
theorem bl_none {s b a c : Int} {i : Nat} {pre : List Int} (h : bl s b (beats b).toNat a = (bl s b ((beats b).toNat - i) c).map (pre ++ ·)) (hi : i < (beats b).toNat) (hn : nextA c s b < 0) : burstL a s b = [] := by
 unfold burstL
 rw [h]
 have e : (beats b).toNat - i = ((beats b).toNat - (i + 1)) + 1 := by omega
 rw [e, bl, if_pos hn]; rfl
theorem bl_end {s b a c : Int} {i : Nat} {pre : List Int} (h : bl s b (beats b).toNat a = (bl s b ((beats b).toNat - i) c).map (pre ++ ·)) (hi : (beats b).toNat ≤ i) : burstL a s b = pre := by
 unfold burstL
 rw [h, show (beats b).toNat - i = 0 by omega, bl]; simp
theorem bl_len (s b : Int) : ∀ (n : Nat) (a : Int) l, bl s b n a = some l → l.length = n
 | 0, a, l, h => by simp [bl] at h; subst h; rfl
 | n + 1, a, l, h => by
   simp only [bl] at h
   split at h
   · cases h
   · cases e : bl s b n (nextA a s b) with
     | none => rw [e] at h; cases h
     | some r => rw [e] at h; cases h; simp [bl_len s b n _ r e]
theorem burstL_len (a s b : Int) : (burstL a s b).length = 0 ∨ (burstL a s b).length = (beats b).toNat := by
 unfold burstL
 cases e : bl s b (beats b).toNat a with
 | none => exact .inl rfl
 | some l => exact .inr (bl_len s b _ _ _ e)
theorem burstL_le (a s b : Int) : (burstL a s b).length ≤ 8 := by
 have h1 := burstL_len a s b
 have h2 := beats_bd b
 omega
theorem iR_app (pre : List Int) (c : Int) : (pre ++ [c]).map iR = pre.map iR ++ [[V.w (.int .i64 c)]] := by rw [List.map_append]; rfl
theorem c_29 (a s b : Int) : CV prg 29 [.w (.int .i64 a), .w (.int .i64 s), .w (.int .i64 b)] (fun res => res = .sl 1 ((burstL a s b).map iR)) := by
 have hb := beats_bd b
 refine cv_in g29 (Eb [0, 1, 2] rfl (Ef (Eg (Ea (Ee rfl) (Ed (Ec (Eb [0, 1, 2] rfl (Ef (Eg (Ea (o_bs rfl rfl rfl rfl) (Ea (Ee rfl) ?_)))))))))))
 refine Ed (Ec (Eb [0, 1, 2, 7] rfl (Ef (Ef (Eg (Ea (Ee rfl) (s_call rfl rfl (c_22 ..) (Ea (Ee rfl) (Ed (Ec (Eb [0, 1, 2, 7, 11, 12] rfl ?_)))))))))))
 refine S_block (S_loop (ι := (Nat × List Int × Int)) (fun p => p.1 ≤ (beats b).toNat ∧ p.2.1.length = p.1 ∧ bl s b (beats b).toNat a = (bl s b ((beats b).toNat - p.1) p.2.2).map (p.2.1 ++ ·)) (fun p => [(12, .w (.int .i64 (p.1 : Int))), (7, .ls 0 (p.2.1.map iR).length), (0, .w (.int .i64 p.2.2))]) (fun p => [.arr 1 (p.2.1.map iR)]) (fun p => (beats b).toNat - p.1) 1 (0, [], a) ⟨by simp, rfl, by simp⟩ rfl (hasOf ⟨rfl, rfl, rfl, trivial⟩ rfl) rfl (fun _ _ => rfl) (fun _ _ => ⟨rfl, rfl⟩) ?_)
 rintro ⟨i, pre, c⟩ hi
 obtain ⟨hi1, hi2, hi3⟩ := hi
 simp only at hi1 hi2 hi3
 refine Eb [0, 1, 2, 7, 11, 12] rfl ?_
 dsimp only
 refine Ef (Eg (Ea (o_lss rfl rfl) (Ed (Ec (Eb [0, 1, 2, 7, 11, 12, 13] rfl (Ef ?_))))))
 first | refine Ev rfl ?_ ?_ | refine Eo rfl ?_ ?_
 intro h1
 try rw [nnp] at h1
 refine Ey (Ec (Eb [0, 1, 2, 7, 11, 12] rfl (Ef (S_block (Ef (Eg (Ea (Ee rfl) (Ea (Ee rfl) (Ea (Ee rfl) (s_call rfl rfl (c_60 ..) (Ea (Ee rfl) ?_)))))))))))
 refine Ed (Ec (Eb [0, 1, 2, 7, 8, 11, 12] rfl (Ef (Ef (Eg (Ea (Ee rfl) (Ea (o_lss rfl rfl) (Ed (Ec (Eb [0, 1, 2, 7, 8, 11, 12, 19] rfl ?_))))))))))
 first | refine Ev rfl ?_ ?_ | refine Eo rfl ?_ ?_
 intro h2
 try rw [nnp] at h2
 refine Ef (Eg (Ea (Ee rfl) (Ed (Ec (Eb [6] rfl (Ek (Ep (q_blkR (Ep (q_loopR (q_blkR ?_)))))))))))
 refine Ep ?_
 · first | (refine ret_leafW (.inr rfl) rfl rfl (.nil 1 _) ?_; rw [bl_none hi3 (by omega) (by assumption)]; rfl; done) | (refine ret_leafA (.inr rfl) rfl rfl rfl ?_; rw [bl_end hi3 (by omega)]; done) | (refine ret_leafA (.inr rfl) rfl rfl rfl ?_; rw [bl_none hi3 (by omega) (by omega)]; rfl; done)
 intro h2
 try rw [nnp] at h2
 refine Ey (Ec (Eb [0, 1, 2, 7, 8, 11, 12] rfl (Ef (Eg (Ea (Ee rfl) (Ea (Ee rfl) (Ea (o_bs rfl rfl rfl rfl) ?_)))))))
 first | refine Ea (o_appL rfl rfl rfl rfl rfl rfl rfl (by simp [roomy]; omega)) ?_ | refine Ea (o_app rfl rfl rfl rfl rfl (by simp [roomy]; omega)) ?_
 refine Ea (Ee rfl) (Ed (Ec (Eb [1, 2, 7, 8, 11, 12] rfl (Eg (Ea (Ee rfl) (Ea (Ee rfl) (Ed (q_blkN (Ec (Eb [0, 1, 2, 7, 11, 12] rfl (Eg ?_)))))))))))
 first | refine Ea (o_addn rfl rfl (by omega)) ?_ | refine Ea (o_add rfl rfl) ?_
 refine Ea (Ee rfl) (Ed (q_loopN ?_))
 · refine ⟨(i + 1, pre ++ [c], nextA c s b), ⟨by simp only; omega, by simp only [List.length_append, List.length_cons, List.length_nil]; omega, bl_step hi3 (by omega) (by assumption)⟩, by simp only; omega, hasOf ⟨rfl, ?_, rfl, trivial⟩ ?_⟩
   · rw [iR_app]; rfl
   · simp only; rw [iR_app]; rfl
 intro h1
 try rw [nnp] at h1
 refine s_exit (q_seqX (q_loopX (q_blkH (Ec (Eb [7] rfl (Ef (Eg (Ea (Ee rfl) (Ea (Ee rfl) (Ed (Ec ?_)))))))))))
 refine Eb [6] rfl (Ek ?_)
 · first | (refine ret_leafW (.inr rfl) rfl rfl (.nil 1 _) ?_; rw [bl_none hi3 (by omega) (by assumption)]; rfl; done) | (refine ret_leafA (.inr rfl) rfl rfl rfl ?_; rw [bl_end hi3 (by omega)]; done) | (refine ret_leafA (.inr rfl) rfl rfl rfl ?_; rw [bl_none hi3 (by omega) (by omega)]; rfl; done)
theorem c_179 (a s b : Int) : CV prg 179 [.w (.int .i64 a), .w (.int .i64 s), .w (.int .i64 b)] (fun res => res = .sl 1 ((burstL a s b).map iR)) := by
 have hb := beats_bd b
 refine cv_in g179 (Eb [0, 1, 2] rfl (Ef (Eg (Ea (Ee rfl) (Ed (Ec (Eb [0, 1, 2] rfl (Ef (Eg (Ea (o_bs rfl rfl rfl rfl) (Ea (Ee rfl) ?_)))))))))))
 refine Ed (Ec (Eb [0, 1, 2, 7] rfl (Ef (S_block (S_loop (ι := (List Int × Int)) (fun p => p.1.length ≤ (beats b).toNat ∧ bl s b (beats b).toNat a = (bl s b ((beats b).toNat - p.1.length) p.2).map (p.1 ++ ·)) (fun p => [(7, .ls 0 (p.1.map iR).length), (0, .w (.int .i64 p.2))]) (fun p => [.arr 1 (p.1.map iR)]) (fun p => (beats b).toNat - p.1.length) 1 ([], a) ⟨by simp, by simp⟩ rfl (hasOf ⟨rfl, rfl, trivial⟩ rfl) rfl (fun _ _ => rfl) (fun _ _ => ⟨rfl, rfl⟩) ?_)))))
 rintro ⟨pre, c⟩ hi
 obtain ⟨hi1, hi3⟩ := hi
 simp only at hi1 hi3
 have hml : (pre.map iR).length = pre.length := List.length_map ..
 refine Eb [0, 1, 2, 7] rfl ?_
 dsimp only
 refine Ef (Ef (Eg (Ea (Ee rfl) (Ea (o_lenL rfl rfl rfl) (Ea (Ee rfl) (s_call rfl rfl (c_173 ..) (Ea (o_lss rfl rfl) (Ea (Ee rfl) ?_))))))))
 first | refine s_gDT rfl ?_ ?_ | refine s_gB rfl ?_ ?_
 intro h1
 try rw [nnp] at h1
 refine Ea (Ee rfl) (s_gT rfl (Ea (Ee rfl) (s_gT rfl (Ea (Ee rfl) (s_gT rfl (s_call rfl rfl (c_205 ..) (s_gT rfl (Ea (o_geq rfl rfl) (Ea (o_pickT rfl rfl) (Ed (Ec ?_)))))))))))
 refine Eb [0, 1, 2, 7, 15, 16, 17, 18, 19, 20] rfl ?_
 first | refine Ev rfl ?_ ?_ | refine Eo rfl ?_ ?_
 intro h2
 try rw [nnp] at h2
 refine Ey (Ec (Eb [0, 1, 2, 7, 15, 16, 17, 18, 19] rfl (S_block (Ef (Eg (Ea (Ee rfl) (Ea (Ee rfl) (Ea (o_bs rfl rfl rfl rfl) ?_))))))))
 first | refine Ea (o_appL rfl rfl rfl rfl rfl rfl rfl (by simp [roomy]; omega)) ?_ | refine Ea (o_app rfl rfl rfl rfl rfl (by simp [roomy]; omega)) ?_
 refine Ea (Ee rfl) (Ed (Ec (Eb [0, 1, 2, 7, 15, 16, 17, 18, 19] rfl (Eg (Ea (Ee rfl) (Ea (Ee rfl) (Ea (Ee rfl) (s_call rfl rfl (c_205 ..) (Ea (Ee rfl) (Ed (q_blkN ?_)))))))))))
 refine q_loopN ?_
 · refine ⟨(pre ++ [c], nextA c s b), ⟨by simp only [List.length_append, List.length_cons, List.length_nil]; omega, by simp only [List.length_append, List.length_cons, List.length_nil]; exact bl_step hi3 (by omega) (by omega)⟩, by simp only [List.length_append, List.length_cons, List.length_nil]; omega, hasOf ⟨?_, rfl, trivial⟩ ?_⟩
   · rw [iR_app]; rfl
   · simp only; rw [iR_app]; rfl
 intro h2
 try rw [nnp] at h2
 refine s_exit (q_seqX (q_loopX (q_blkH (Ec (Eb [2, 7] rfl (Ef (Ef (Eg (Ea (Ee rfl) (Ea (o_lenL rfl rfl rfl) (Ea (Ee rfl) ?_)))))))))))
 refine s_call rfl rfl (c_173 ..) (Ea (o_lss rfl rfl) (Ed (Ec (Eb [7, 33] rfl ?_))))
 first | refine Ev rfl ?_ ?_ | refine Eo rfl ?_ ?_
 intro h3
 try rw [nnp] at h3
 refine Ef (Eg (Ea (o_bs rfl rfl rfl rfl) (Ea (Ee rfl) (Ed (Ec (Eb [6] rfl (Ek (Ep ?_))))))))
 · first | (refine ret_leafW (.inr rfl) rfl rfl (.nil 1 _) ?_; rw [bl_none hi3 (by omega) (by assumption)]; rfl; done) | (refine ret_leafA (.inr rfl) rfl rfl rfl ?_; rw [bl_end hi3 (by omega)]; done) | (refine ret_leafA (.inr rfl) rfl rfl rfl ?_; rw [bl_none hi3 (by omega) (by omega)]; rfl; done)
 intro h3
 try rw [nnp] at h3
 refine Ey (Ec (Eb [7] rfl (Ef (Eg (Ea (Ee rfl) (Ea (Ee rfl) (Ed (Ec (Eb [6] rfl (Ek ?_))))))))))
 · first | (refine ret_leafW (.inr rfl) rfl rfl (.nil 1 _) ?_; rw [bl_none hi3 (by omega) (by assumption)]; rfl; done) | (refine ret_leafA (.inr rfl) rfl rfl rfl ?_; rw [bl_end hi3 (by omega)]; done) | (refine ret_leafA (.inr rfl) rfl rfl rfl ?_; rw [bl_none hi3 (by omega) (by omega)]; rfl; done)
 intro h1
 try rw [nnp] at h1
 refine Eu rfl (Eu rfl (Eu rfl (Eu rfl (Eu rfl (Ea (Fa rfl rfl) (Ed (Ec (Eb [0, 1, 2, 7, 15, 16, 17, 18, 19, 20] rfl (s_condF rfl (s_exit (q_seqX ?_)))))))))))
 refine q_loopX (q_blkH (Ec (Eb [2, 7] rfl (Ef (Ef (Eg (Ea (Ee rfl) (Ea (o_lenL rfl rfl rfl) (Ea (Ee rfl) (s_call rfl rfl (c_173 ..) (Ea (o_lss rfl rfl) ?_)))))))))))
 refine Ed (Ec (Eb [7, 33] rfl ?_))
 first | refine Ev rfl ?_ ?_ | refine Eo rfl ?_ ?_
 intro h4
 try rw [nnp] at h4
 refine Ef (Eg (Ea (o_bs rfl rfl rfl rfl) (Ea (Ee rfl) (Ed (Ec (Eb [6] rfl (Ek (Ep ?_))))))))
 · first | (refine ret_leafW (.inr rfl) rfl rfl (.nil 1 _) ?_; rw [bl_none hi3 (by omega) (by assumption)]; rfl; done) | (refine ret_leafA (.inr rfl) rfl rfl rfl ?_; rw [bl_end hi3 (by omega)]; done) | (refine ret_leafA (.inr rfl) rfl rfl rfl ?_; rw [bl_none hi3 (by omega) (by omega)]; rfl; done)
 intro h4
 try rw [nnp] at h4
 refine Ey (Ec (Eb [7] rfl (Ef (Eg (Ea (Ee rfl) (Ea (Ee rfl) (Ed (Ec (Eb [6] rfl (Ek ?_))))))))))
 · first | (refine ret_leafW (.inr rfl) rfl rfl (.nil 1 _) ?_; rw [bl_none hi3 (by omega) (by assumption)]; rfl; done) | (refine ret_leafA (.inr rfl) rfl rfl rfl ?_; rw [bl_end hi3 (by omega)]; done) | (refine ret_leafA (.inr rfl) rfl rfl rfl ?_; rw [bl_none hi3 (by omega) (by omega)]; rfl; done)
def onPage (l : List Int) (x : Int) : Bool := decide (IntKind.wrap .i64 (x.tdiv 64) = IntKind.wrap .i64 (((l[0]?).getD 0).tdiv 64))
theorem page_no {l : List Int} {x y : Int} (h0 : l[0]? = some y) (h : ¬ IntKind.wrap .i64 (x.tdiv 64) = IntKind.wrap .i64 (y.tdiv 64)) : onPage l x = false := by unfold onPage; rw [h0]; exact decide_eq_false h
theorem page_is {l : List Int} {x y : Int} (h0 : l[0]? = some y) (h : IntKind.wrap .i64 (x.tdiv 64) = IntKind.wrap .i64 (y.tdiv 64)) : onPage l x = true := by unfold onPage; rw [h0]; exact decide_eq_true h
def burstOk (a s b : Int) : Bool := (burstL a s b).all (onPage (burstL a s b)) && decide (0 < (burstL a s b).length)
theorem c_30 (a s b : Int) : CV prg 30 [.w (.int .i64 a), .w (.int .i64 s), .w (.int .i64 b)] (fun res => res = .w (.bool (burstOk a s b))) := by
 have hlen := burstL_le a s b
 refine cv_in g30 (Eb [0, 1, 2] rfl (Ef (Eg (Ea (Ee rfl) (Ed (Ec (Eb [0, 1, 2] rfl (Ef (Eg (Ea (Ee rfl) (Ea (Ee rfl) ?_)))))))))))
 refine Ea (Ee rfl) (s_call rfl rfl (c_29 ..) (Ea (Ee rfl) (Ed (Ec (Eb [7] rfl (Ef (Ef (Eg (Ea (Ee rfl) ?_)))))))))
 first | refine Ea (o_lenM rfl) ?_ | refine Ea (o_len rfl) ?_ | refine Ea (o_lenL rfl rfl rfl) ?_ | refine Ea (o_lenN rfl) ?_
 refine Ea (Ee rfl) (Ed (Ec (Eb [7, 14, 15, 16] rfl (S_block (S_loop0 (ι := Nat) (fun i => i ≤ (burstL a s b).length ∧ ((burstL a s b).take i).all (onPage (burstL a s b)) = true) (fun i => [(16, .w (.int .i64 (i : Int)))]) (fun i => (burstL a s b).length - i) 0 (by simp) rfl ⟨rfl, trivial⟩ (fun _ _ => rfl) rfl ?_)))))
 intro i hi
 refine Eb [7, 14, 15, 16] rfl (Ef (Eg (Ea (o_lss rfl rfl) (Ed (Ec (Eb [7, 14, 15, 16, 17] rfl (Ef ?_)))))))
 first | refine Ev rfl ?_ ?_ | refine Eo rfl ?_ ?_
 intro h1
 try rw [nnp] at h1
 refine Ey (Ec (Eb [7, 14, 15, 16] rfl (Ef (S_block (Ef (Eg (s_iaM rfl rfl (by omega) ?_)))))))
 intro y2 e2
 try simp only [Int.toNat_natCast, Int.toNat_zero] at e2
 refine Ea (o_ld rfl rfl) (Ea (Ee rfl) (Ed (Ec (Eb [7, 9, 14, 15, 16] rfl (Ef (Eg (Ea (Ee rfl) ?_)))))))
 first | refine Ea (o_quo rfl rfl (by decide)) ?_ | refine Ea (o_quo rfl rfl (by omega)) ?_
 refine Ea (Ee rfl) (s_iaM rfl rfl (by omega) ?_)
 intro y3 e3
 try simp only [Int.toNat_natCast, Int.toNat_zero] at e3
 refine Ea (o_ld rfl rfl) ?_
 first | refine Ea (o_quo rfl rfl (by decide)) ?_ | refine Ea (o_quo rfl rfl (by omega)) ?_
 refine Ea (o_neq rfl rfl) (Ed (Ec (Eb [7, 14, 15, 16, 26] rfl ?_)))
 first | refine Ev rfl ?_ ?_ | refine Eo rfl ?_ ?_
 intro h4
 try rw [nnp] at h4
 refine Ef (Eg (Ea (Ee rfl) (Ed (Ec (Eb [6] rfl (Ek (q_blkR (Ep (q_loopR (q_blkR (Ep ?_)))))))))))
 refine Eh rfl rfl ?_
 rotate_left
 intro h4
 try rw [nnp] at h4
 refine Ey (q_blkN (Ec (Eb [7, 14, 15, 16] rfl (Eg ?_))))
 first | refine Ea (o_addn rfl rfl (by omega)) ?_ | refine Ea (o_add rfl rfl) ?_
 refine Ea (Ee rfl) (Ed (q_loopN ?_))
 · exact ⟨i + 1, ⟨by omega, all_take (by assumption : (burstL a s b)[i]? = some _) hi.2 (page_is (by assumption : (burstL a s b)[0]? = some _) (by assumption))⟩, by omega, hasOf ⟨rfl, trivial⟩ rfl⟩
 intro h1
 try rw [nnp] at h1
 refine s_exit (q_seqX (q_loopX (q_blkH (Ec (Eb [7] rfl (Ef (Eg (Ea (Ee rfl) ?_))))))))
 first | refine Ea (o_lenM rfl) ?_ | refine Ea (o_len rfl) ?_ | refine Ea (o_lenL rfl rfl rfl) ?_ | refine Ea (o_lenN rfl) ?_
 refine Ea (o_gtr rfl rfl) (Ea (Ee rfl) (Ed (Ec (Eb [6] rfl (Ek (Eh rfl rfl ?_))))))
 rotate_left
 all_goals
  first | (unfold burstOk; rw [all_no (by assumption : (burstL a s b)[i]? = some _) (page_no (by assumption : (burstL a s b)[0]? = some _) (by assumption))]; rfl; done) | (unfold burstOk; rw [all_end hi.2 (by omega)]; simp; done)
theorem c_180 (a s b : Int) : CV prg 180 [.w (.int .i64 a), .w (.int .i64 s), .w (.int .i64 b)] (fun res => res = .w (.bool (burstOk a s b))) := by
 have hlen := burstL_le a s b
 refine cv_in g180 (Eb [0, 1, 2] rfl (Ef (Eg (Ea (Ee rfl) (Ed (Ec (Eb [0, 1, 2] rfl (Ef (Eg (Ea (Ee rfl) (Ea (Ee rfl) ?_)))))))))))
 refine Ea (Ee rfl) (s_call rfl rfl (c_179 ..) (Ea (Ee rfl) (Ed (Ec (Eb [7] rfl (Ef (Ef (Eg (Ea (Ee rfl) (Ed (Ec ?_)))))))))))
 refine Eb [7, 8] rfl (S_block (S_loop0 (ι := Nat) (fun i => i ≤ (burstL a s b).length ∧ ((burstL a s b).take i).all (onPage (burstL a s b)) = true) (fun i => [(8, .w (.int .i64 (i : Int)))]) (fun i => (burstL a s b).length - i) 0 (by simp) rfl ⟨rfl, trivial⟩ (fun _ _ => rfl) rfl ?_))
 intro i hi
 refine Eb [7, 8] rfl (Ef (Ef (Eg (Ea (Ee rfl) (Ea (Ee rfl) ?_)))))
 first | refine Ea (o_lenM rfl) ?_ | refine Ea (o_len rfl) ?_ | refine Ea (o_lenL rfl rfl rfl) ?_ | refine Ea (o_lenN rfl) ?_
 refine Ea (o_lss rfl rfl) (Ed (Ec (Eb [7, 8, 16] rfl ?_)))
 first | refine Ev rfl ?_ ?_ | refine Eo rfl ?_ ?_
 intro h1
 try rw [nnp] at h1
 refine Ey (Ec (Eb [7, 8] rfl (Ef (S_block (Ef (Eg (Ea (Ee rfl) (Ea (Ee rfl) (s_iaM rfl rfl (by omega) ?_)))))))))
 intro y2 e2
 try simp only [Int.toNat_natCast, Int.toNat_zero] at e2
 refine Ea (o_ld rfl rfl) ?_
 first | refine Ea (o_quo rfl rfl (by decide)) ?_ | refine Ea (o_quo rfl rfl (by omega)) ?_
 refine Ea (Ee rfl) (s_iaM rfl rfl (by omega) ?_)
 intro y3 e3
 try simp only [Int.toNat_natCast, Int.toNat_zero] at e3
 refine Ea (o_ld rfl rfl) ?_
 first | refine Ea (o_quo rfl rfl (by decide)) ?_ | refine Ea (o_quo rfl rfl (by omega)) ?_
 refine Ea (o_neq rfl rfl) (Ed (Ec (Eb [7, 8, 28] rfl ?_)))
 first | refine Ev rfl ?_ ?_ | refine Eo rfl ?_ ?_
 intro h4
 try rw [nnp] at h4
 refine Ef (Eg (Ea (Ee rfl) (Ed (Ec (Eb [6] rfl (Ek (q_blkR (Ep (q_loopR (q_blkR (Ep ?_)))))))))))
 refine Eh rfl rfl ?_
 rotate_left
 intro h4
 try rw [nnp] at h4
 refine Ey (q_blkN (Ec (Eb [7, 8] rfl (Eg (Ea (Ee rfl) ?_)))))
 first | refine Ea (o_addn rfl rfl (by omega)) ?_ | refine Ea (o_add rfl rfl) ?_
 refine Ea (Ee rfl) (Ed (q_loopN ?_))
 · exact ⟨i + 1, ⟨by omega, all_take (by assumption : (burstL a s b)[i]? = some _) hi.2 (page_is (by assumption : (burstL a s b)[0]? = some _) (by assumption))⟩, by omega, hasOf ⟨rfl, trivial⟩ rfl⟩
 intro h1
 try rw [nnp] at h1
 refine s_exit (q_seqX (q_loopX (q_blkH (Ec (Eb [7] rfl (Ef (Eg (Ea (Ee rfl) ?_))))))))
 first | refine Ea (o_lenM rfl) ?_ | refine Ea (o_len rfl) ?_ | refine Ea (o_lenL rfl rfl rfl) ?_ | refine Ea (o_lenN rfl) ?_
 refine Ea (o_gtr rfl rfl) (Ea (Ee rfl) (Ed (Ec (Eb [6] rfl (Ek (Eh rfl rfl ?_))))))
 rotate_left
 all_goals
  first | (unfold burstOk; rw [all_no (by assumption : (burstL a s b)[i]? = some _) (page_no (by assumption : (burstL a s b)[0]? = some _) (by assumption))]; rfl; done) | (unfold burstOk; rw [all_end hi.2 (by omega)]; simp; done)
theorem c_266 (xs : List Int) (hl : xs.length ≤ 140737488355328) (f : Nat) (caps : List V) (hc : caps.all (V.fzV 5) = true) (p : Int → Bool) (h : ∀ y, y ∈ xs → CV prg f (.w (.int .i64 y) :: caps) (fun v => v = .w (.bool (p y)))) : CV prg 266 [.sl 1 (xs.map iR), .fn f caps] (fun res => res = .w (.int .i64 (idxOf p xs))) := by
 refine cv_in g266 (Eb [0, 1] rfl (Ef (Eg (Ea (Ee rfl) (Ed (Ec (Eb [0, 1] rfl (Ef (Ef (Eg (Ea (Ee rfl) ?_)))))))))))
 first | refine Ea (o_lenM rfl) ?_ | refine Ea (o_len rfl) ?_
 refine Ea (Ee rfl) (Ed (Ec (Eb [0, 1, 7, 8] rfl (S_block (S_loop0 (ι := Nat) (fun i => i ≤ xs.length ∧ (xs.take i).any p = false) (fun i => [(8, .w (.int .i64 (i : Int)))]) (fun i => xs.length - i) 0 (by simp) rfl ⟨rfl, trivial⟩ (fun _ _ => rfl) rfl ?_)))))
 intro i hi
 refine Eb [0, 1, 7, 8] rfl (Ef (Eg (Ea (o_lss rfl rfl) (Ed (Ec (Eb [0, 1, 7, 8, 9] rfl (Ef ?_)))))))
 first | refine Ev rfl ?_ ?_ | refine Eo rfl ?_ ?_
 intro h1
 try rw [nnp] at h1
 refine Ey (Ec (Eb [0, 1, 7, 8] rfl (Ef (S_block (Ef (Eg (Ea (Ee rfl) (Ea (Ee rfl) (Ed (Ec (Eb [0, 1, 5, 7, 8] rfl ?_)))))))))))
 refine Ef (Eg (Ea (Ee rfl) (Ea (Ee rfl) (Ea (Ee rfl) (s_iaM rfl rfl (by simp at *; omega) ?_)))))
 intro y2 e2
 try simp only [Int.toNat_natCast, Int.toNat_zero] at e2
 refine Ea (o_ld rfl rfl) (s_calli rfl rfl (fz1 rfl hc) (h _ (List.mem_of_getElem? (by assumption))) (Ed (Ec (Eb [0, 1, 5, 7, 8, 16] rfl ?_))))
 first | refine Ev rfl ?_ ?_ | refine s_condN rfl ?_ ?_ | refine s_condNB rfl ?_ ?_ | refine Eo rfl ?_ ?_
 intro h3
 try rw [nnp] at h3
 refine Ef (Eg (Ea (Ee rfl) (Ea (Ee rfl) (Ed (Ec (Eb [4] rfl (Ek (q_blkR (Ep (q_loopR (q_blkR ?_)))))))))))
 refine Ep (En rfl rfl ?_)
 rotate_left
 intro h3
 try rw [nnp] at h3
 refine Ey (q_blkN (Ec (Eb [0, 1, 7, 8] rfl (Eg ?_))))
 first | refine Ea (o_addn rfl rfl (by omega)) ?_ | refine Ea (o_add rfl rfl) ?_
 refine Ea (Ee rfl) (Ed (q_loopN ?_))
 · exact ⟨i + 1, ⟨by omega, any_take (by assumption) hi.2 (by assumption)⟩, by omega, hasOf ⟨rfl, trivial⟩ rfl⟩
 intro h1
 try rw [nnp] at h1
 refine s_exit (q_seqX (q_loopX (q_blkH (Ec (Eb [] rfl (Ef (Eg (Ea (Ee rfl) (Ed (Ec (Eb [4] rfl ?_)))))))))))
 refine Ek (En rfl rfl ?_)
 rotate_left
 all_goals
  first | exact (idxOf_at (by assumption) hi.2 (by assumption)).symm | exact (idxOf_no (any_end hi.2 (by omega))).symm
theorem c_257 (xs : List Int) (hl : xs.length ≤ 140737488355328) (f : Nat) (caps : List V) (hc : caps.all (V.fzV 5) = true) (p : Int → Bool) (h : ∀ y, y ∈ xs → CV prg f (.w (.int .i64 y) :: caps) (fun v => v = .w (.bool (p y)))) : CV prg 257 [.sl 1 (xs.map iR), .fn f caps] (fun res => res = .w (.bool (xs.any p))) := by
 refine cv_in g257 (Eb [0, 1] rfl (Ef (Eg (Ea (Ee rfl) (Ed (Ec (Eb [0, 1] rfl (Ef (Eg (Ea (Ee rfl) (Ea (Ee rfl) ?_)))))))))))
 refine s_call rfl (fz2 rfl hc) (c_266 _ (by assumption) _ _ hc _ h) (Ea (o_geq rfl rfl) (Ea (Ee rfl) (Ed (Ec (Eb [4] rfl (Ek (Eh rfl rfl ?_)))))))
 rotate_left
 all_goals
  exact idxOf_any p xs
theorem c_271 (xs : List Req) (hl : xs.length ≤ 140737488355328) (f : Nat) (caps : List V) (hc : caps.all (V.fzV 5) = true) (p : Req → Bool) (h : ∀ y, y ∈ xs → CV prg f (.agg (Req.r y) :: caps) (fun v => v = .w (.bool (p y)))) : CV prg 271 [.sl 6 (xs.map Req.r), .fn f caps] (fun res => res = .w (.int .i64 (idxOf p xs))) := by
 refine cv_in g271 (Eb [0, 1] rfl (Ef (Eg (Ea (Ee rfl) (Ed (Ec (Eb [0, 1] rfl (Ef (Ef (Eg (Ea (Ee rfl) ?_)))))))))))
 first | refine Ea (o_lenM rfl) ?_ | refine Ea (o_len rfl) ?_
 refine Ea (Ee rfl) (Ed (Ec (Eb [0, 1, 7, 8] rfl (S_block (S_loop0 (ι := Nat) (fun i => i ≤ xs.length ∧ (xs.take i).any p = false) (fun i => [(8, .w (.int .i64 (i : Int)))]) (fun i => xs.length - i) 0 (by simp) rfl ⟨rfl, trivial⟩ (fun _ _ => rfl) rfl ?_)))))
 intro i hi
 refine Eb [0, 1, 7, 8] rfl (Ef (Eg (Ea (o_lss rfl rfl) (Ed (Ec (Eb [0, 1, 7, 8, 9] rfl (Ef ?_)))))))
 first | refine Ev rfl ?_ ?_ | refine Eo rfl ?_ ?_
 intro h1
 try rw [nnp] at h1
 refine Ey (Ec (Eb [0, 1, 7, 8] rfl (Ef (S_block (Ef (Eg (Ea (Ee rfl) (Ea (Ee rfl) (Ed (Ec (Eb [0, 1, 5, 7, 8] rfl ?_)))))))))))
 refine Ef (Eg (Ea (Ee rfl) (Ea (Ee rfl) (Ea (Ee rfl) (s_iaM rfl rfl (by simp at *; omega) ?_)))))
 intro y2 e2
 try simp only [Int.toNat_natCast, Int.toNat_zero] at e2
 refine Ea (o_ldn rfl rfl) (s_calli rfl rfl (fz1 rfl hc) (h _ (List.mem_of_getElem? (by assumption))) (Ed (Ec (Eb [0, 1, 5, 7, 8, 16] rfl ?_))))
 first | refine Ev rfl ?_ ?_ | refine s_condN rfl ?_ ?_ | refine s_condNB rfl ?_ ?_ | refine Eo rfl ?_ ?_
 intro h3
 try rw [nnp] at h3
 refine Ef (Eg (Ea (Ee rfl) (Ea (Ee rfl) (Ed (Ec (Eb [4] rfl (Ek (q_blkR (Ep (q_loopR (q_blkR ?_)))))))))))
 refine Ep (En rfl rfl ?_)
 rotate_left
 intro h3
 try rw [nnp] at h3
 refine Ey (q_blkN (Ec (Eb [0, 1, 7, 8] rfl (Eg ?_))))
 first | refine Ea (o_addn rfl rfl (by omega)) ?_ | refine Ea (o_add rfl rfl) ?_
 refine Ea (Ee rfl) (Ed (q_loopN ?_))
 · exact ⟨i + 1, ⟨by omega, any_take (by assumption) hi.2 (by assumption)⟩, by omega, hasOf ⟨rfl, trivial⟩ rfl⟩
 intro h1
 try rw [nnp] at h1
 refine s_exit (q_seqX (q_loopX (q_blkH (Ec (Eb [] rfl (Ef (Eg (Ea (Ee rfl) (Ed (Ec (Eb [4] rfl ?_)))))))))))
 refine Ek (En rfl rfl ?_)
 rotate_left
 all_goals
  first | exact (idxOf_at (by assumption) hi.2 (by assumption)).symm | exact (idxOf_no (any_end hi.2 (by omega))).symm
theorem c_260 (xs : List Req) (hl : xs.length ≤ 140737488355328) (f : Nat) (caps : List V) (hc : caps.all (V.fzV 5) = true) (p : Req → Bool) (h : ∀ y, y ∈ xs → CV prg f (.agg (Req.r y) :: caps) (fun v => v = .w (.bool (p y)))) : CV prg 260 [.sl 6 (xs.map Req.r), .fn f caps] (fun res => res = .w (.bool (xs.any p))) := by
 refine cv_in g260 (Eb [0, 1] rfl (Ef (Eg (Ea (Ee rfl) (Ed (Ec (Eb [0, 1] rfl (Ef (Eg (Ea (Ee rfl) (Ea (Ee rfl) ?_)))))))))))
 refine s_call rfl (fz2 rfl hc) (c_271 _ (by assumption) _ _ hc _ h) (Ea (o_geq rfl rfl) (Ea (Ee rfl) (Ed (Ec (Eb [4] rfl (Ek (Eh rfl rfl ?_)))))))
 rotate_left
 all_goals
  exact idxOf_any p xs
def Req.ok (x : Req) : Bool := burstOk x.addr x.size x.burst && decide ((x.data.length : Int) = if x.write then beats x.burst else 0) && x.data.all fun v => inB v 0 (limit x.size - 1)
theorem data_not (l : Int) (xs : List Int) : (!xs.any (fun v => !inB v 0 l)) = xs.all (fun v => inB v 0 l) := by
 induction xs with
 | nil => rfl
 | cons m xs ih => simp only [List.any_cons, List.all_cons, Bool.not_or, Bool.not_not, ih]
theorem c_67 (d : Int) (x : Req) : CV prg 67 [.w (.int .i64 d), .rp x.r 0] (fun res => res = .w (.bool (!inB d 0 (limit x.size - 1)))) := by
 refine cv_in g67 (Eb [0, 1] rfl (Ef (Eg (Ea (Ee rfl) (Ed (Ec (Eb [0, 1] rfl (Ef (Eg (Ea (Ee rfl) (Ea (o_fa rfl) ?_)))))))))))
 refine Ea (o_ld rfl rfl) ?_
 first | refine s_call rfl rfl (c_92 ..) ?_ | refine s_callL rfl rfl (by simp) (c_92 ..) rfl ?_
 refine Ea (o_not rfl) (Ea (Ee rfl) (Ed (Ec (Eb [3] rfl (Ek (Eh rfl rfl ?_))))))
 rotate_left
 all_goals
  rfl
theorem c_66 (x : Req) (hs : x.small) : CV prg 66 [.agg x.r] (fun res => res = .w (.bool x.ok)) := by
 have hd : x.data.length ≤ 1048576 := hs
 refine cv_in g66 (Eb [0] rfl (Ef (Eg (Ea (o_box rfl rfl rfl) (Ea (Ee rfl) (Ed (Ec (Eb [1] rfl (Ef (Eg (Ea (Ee rfl) ?_)))))))))))
 refine Ed (Ec (Eb [1, 3] rfl (Ef (Ef (Eg (Ea (Ej rfl) (Ea (Er rfl rfl rfl) (Ed (Ec (Eb [1, 3, 5] rfl ?_))))))))))
 first | refine Ev rfl ?_ ?_ | refine s_condN rfl ?_ ?_ | refine s_condNB rfl ?_ ?_ | refine Eo rfl ?_ ?_
 intro h1
 try rw [nnp] at h1
 refine Eg (Ea (Ej rfl) (Ea (Er rfl rfl rfl) ?_))
 first | refine s_call rfl rfl (c_22 ..) ?_ | refine s_callL rfl rfl (by simp) (c_22 ..) rfl ?_
 refine Ea (Ee rfl) (Ed (Ec (Eb [1, 3] rfl (Ef (Eg (Ea (Ej rfl) (Ea (Er rfl rfl rfl) (Ea (Ej rfl) (Ea (Er rfl rfl rfl) (Ea (Ej rfl) (Ea (Er rfl rfl rfl) ?_)))))))))))
 first | refine s_call rfl rfl (c_30 ..) ?_ | refine s_callL rfl rfl (by simp) (c_30 ..) rfl ?_
 refine Ea (Ee rfl) ?_
 first | refine s_gDT rfl ?_ ?_ | refine s_gNDT rfl ?_ ?_ | refine s_gNT rfl ?_ ?_ | refine s_gB rfl ?_ ?_
 intro h2
 try rw [nnp] at h2
 refine Ea (Ej rfl) (s_gT rfl (Ea (Er rfl rfl rfl) (s_gT rfl ?_)))
 first | refine Ea (o_lenM rfl) ?_ | refine Ea (o_len rfl) ?_ | refine Ea (o_lenL rfl rfl rfl) ?_ | refine Ea (o_lenN rfl) ?_
 refine s_gT rfl (Ea (Ee rfl) (s_gT rfl (Ea (o_eql rfl rfl) (Ea (o_pickT rfl rfl) (s_keepO (is := [1, 22]) rfl (Ea (Ee rfl) ?_))))))
 first | refine s_gDT rfl ?_ ?_ | refine s_gB rfl ?_ ?_
 intro h3
 try rw [nnp] at h3
 refine Ea (Ej rfl) (s_gT rfl (Ea (Er rfl rfl rfl) (s_gT rfl (Ea (o_fn rfl) (s_gT rfl (s_callL rfl rfl (by simp) (c_257 _ (by omega) _ _ rfl (fun d => !inB d 0 (limit x.size - 1)) (fun y _ => c_67 y x)) rfl (s_gT rfl (Ea (o_not rfl) (Ea (o_pickT rfl rfl) (Ea (Ee rfl) (Ed ?_)))))))))))
 refine Ec (Eb [2] rfl (Ek (Eh rfl rfl ?_)))
 rotate_left
 intro h3
 try rw [nnp] at h3
 refine Eu rfl (Eu rfl (Eu rfl (Eu rfl (Eu rfl (Ea (Fa rfl rfl) (Ea (Ee rfl) (Ed (Ec (Eb [2] rfl (Ek (Eh rfl rfl ?_)))))))))))
 rotate_left
 intro h2
 try rw [nnp] at h2
 refine Eu rfl (Eu rfl (Eu rfl (Eu rfl (Eu rfl (Ea (Fa rfl rfl) (s_keepO (is := [1, 22]) rfl (Ea (Ee rfl) (Eu rfl (Eu rfl (Eu rfl (Eu rfl ?_)))))))))))
 refine Eu rfl (Ea (Fa rfl rfl) (Ea (Ee rfl) (Ed (Ec (Eb [2] rfl (Ek (Eh rfl rfl ?_)))))))
 rotate_left
 intro h1
 try rw [nnp] at h1
 refine Ey (Ec (Eb [1, 3] rfl (Ef (Eg (Ea (Ej rfl) (Ea (Er rfl rfl rfl) (Ea (Ej rfl) (Ea (Er rfl rfl rfl) (Ea (Ej rfl) (Ea (Er rfl rfl rfl) ?_))))))))))
 first | refine s_call rfl rfl (c_30 ..) ?_ | refine s_callL rfl rfl (by simp) (c_30 ..) rfl ?_
 refine Ea (Ee rfl) ?_
 first | refine s_gDT rfl ?_ ?_ | refine s_gNDT rfl ?_ ?_ | refine s_gNT rfl ?_ ?_ | refine s_gB rfl ?_ ?_
 intro h4
 try rw [nnp] at h4
 refine Ea (Ej rfl) (s_gT rfl (Ea (Er rfl rfl rfl) (s_gT rfl ?_)))
 first | refine Ea (o_lenM rfl) ?_ | refine Ea (o_len rfl) ?_ | refine Ea (o_lenL rfl rfl rfl) ?_ | refine Ea (o_lenN rfl) ?_
 refine s_gT rfl (Ea (Ee rfl) (s_gT rfl (Ea (o_eql rfl rfl) (Ea (o_pickT rfl rfl) (s_keepO (is := [1, 22]) rfl (Ea (Ee rfl) ?_))))))
 first | refine s_gDT rfl ?_ ?_ | refine s_gB rfl ?_ ?_
 intro h5
 try rw [nnp] at h5
 refine Ea (Ej rfl) (s_gT rfl (Ea (Er rfl rfl rfl) (s_gT rfl (Ea (o_fn rfl) (s_gT rfl (s_callL rfl rfl (by simp) (c_257 _ (by omega) _ _ rfl (fun d => !inB d 0 (limit x.size - 1)) (fun y _ => c_67 y x)) rfl (s_gT rfl (Ea (o_not rfl) (Ea (o_pickT rfl rfl) (Ea (Ee rfl) (Ed ?_)))))))))))
 refine Ec (Eb [2] rfl (Ek (Eh rfl rfl ?_)))
 rotate_left
 intro h5
 try rw [nnp] at h5
 refine Eu rfl (Eu rfl (Eu rfl (Eu rfl (Eu rfl (Ea (Fa rfl rfl) (Ea (Ee rfl) (Ed (Ec (Eb [2] rfl (Ek (Eh rfl rfl ?_)))))))))))
 rotate_left
 intro h4
 try rw [nnp] at h4
 refine Eu rfl (Eu rfl (Eu rfl (Eu rfl (Eu rfl (Ea (Fa rfl rfl) (s_keepO (is := [1, 22]) rfl (Ea (Ee rfl) (Eu rfl (Eu rfl (Eu rfl (Eu rfl ?_)))))))))))
 refine Eu rfl (Ea (Fa rfl rfl) (Ea (Ee rfl) (Ed (Ec (Eb [2] rfl (Ek (Eh rfl rfl ?_)))))))
 rotate_left
 all_goals
  first | (rw [data_not]; simp_all [Req.ok]; done) | (simp_all [Req.ok]; done)
theorem c_207 (x : Req) (hs : x.small) : CV prg 207 [.agg x.r] (fun res => res = .w (.bool x.ok)) := by
 have hd : x.data.length ≤ 1048576 := hs
 have hz := limit_bd x.size
 refine cv_in g207 (Eb [0] rfl (Ef (Eg (Ea (o_box rfl rfl rfl) (Ea (Ee rfl) (Ed (Ec (Eb [1] rfl (Ef (Ef (Eg ?_)))))))))))
 refine Ea (Ej rfl) (Ea (Er rfl rfl rfl) (Ea (Ej rfl) (Ea (Er rfl rfl rfl) (Ea (Ej rfl) (Ea (Er rfl rfl rfl) ?_)))))
 first | refine s_call rfl rfl (c_180 ..) ?_ | refine s_callL rfl rfl (by simp) (c_180 ..) rfl ?_
 refine Ea (o_not rfl) (Ed (Ec (Eb [1, 11] rfl ?_)))
 first | refine Ev rfl ?_ ?_ | refine s_condN rfl ?_ ?_ | refine s_condNB rfl ?_ ?_ | refine Eo rfl ?_ ?_
 intro h1
 try rw [nnp] at h1
 refine Ef (Eg (Ea (Ee rfl) (Ed (Ec (Eb [2] rfl (Ek (Ep (Eh rfl rfl ?_))))))))
 rotate_left
 intro h1
 try rw [nnp] at h1
 refine Ey (Ec (Eb [1] rfl (Ef (Ef (Eg (Ea (Ee rfl) (Ed (Ec (Eb [1, 3] rfl (S_block (S_loop0 (ι := Nat) (fun i => i ≤ x.data.length ∧ (x.data.take i).all (fun v => inB v 0 (limit x.size - 1)) = true) (fun i => [(3, .w (.int .i64 (i : Int)))]) (fun i => x.data.length - i) 0 (by simp) rfl ⟨rfl, trivial⟩ (fun _ _ => rfl) rfl ?_)))))))))))
 intro i hi
 refine Eb [1, 3] rfl (Ef (Ef (Eg (Ea (Ee rfl) (Ea (Ej rfl) (Ea (Er rfl rfl rfl) ?_))))))
 first | refine Ea (o_lenM rfl) ?_ | refine Ea (o_len rfl) ?_ | refine Ea (o_lenL rfl rfl rfl) ?_ | refine Ea (o_lenN rfl) ?_
 refine Ea (o_lss rfl rfl) (Ed (Ec (Eb [1, 3, 16] rfl ?_)))
 first | refine Ev rfl ?_ ?_ | refine Eo rfl ?_ ?_
 intro h2
 try rw [nnp] at h2
 refine Ey (Ec (Eb [1, 3] rfl (Ef (S_block (Ef (Eg (Ea (Ej rfl) (Ea (Er rfl rfl rfl) (Ea (Ee rfl) (s_iaM rfl rfl (by omega) ?_))))))))))
 intro y3 e3
 try simp only [Int.toNat_natCast, Int.toNat_zero] at e3
 refine Ea (o_ld rfl rfl) (Ea (Ej rfl) (Ea (Er rfl rfl rfl) ?_))
 first | refine s_call rfl rfl (c_201 ..) ?_ | refine s_callL rfl rfl (by simp) (c_201 ..) rfl ?_
 first | refine Ea (o_subn rfl rfl (by omega)) ?_ | refine Ea (o_sub rfl rfl) ?_
 first | refine s_call rfl rfl (c_230 ..) ?_ | refine s_callL rfl rfl (by simp) (c_230 ..) rfl ?_
 refine Ea (o_not rfl) (Ed (Ec (Eb [1, 3, 29] rfl ?_)))
 first | refine Ev rfl ?_ ?_ | refine s_condN rfl ?_ ?_ | refine s_condNB rfl ?_ ?_ | refine Eo rfl ?_ ?_
 intro h4
 try rw [nnp] at h4
 refine Ef (Eg (Ea (Ee rfl) (Ed (Ec (Eb [2] rfl (Ek (q_blkR (Ep (q_loopR (q_blkR (Ep ?_)))))))))))
 refine Eh rfl rfl ?_
 rotate_left
 intro h4
 try rw [nnp] at h4
 refine Ey (q_blkN (Ec (Eb [1, 3] rfl (Eg (Ea (Ee rfl) ?_)))))
 first | refine Ea (o_addn rfl rfl (by omega)) ?_ | refine Ea (o_add rfl rfl) ?_
 refine Ea (Ee rfl) (Ed (q_loopN ?_))
 · exact ⟨i + 1, ⟨by omega, all_take (by assumption) hi.2 (by assumption)⟩, by omega, hasOf ⟨rfl, trivial⟩ rfl⟩
 intro h2
 try rw [nnp] at h2
 refine s_exit (q_seqX (q_loopX (q_blkH (Ec (Eb [1] rfl (Ef (Eg (Ea (Ej rfl) (Ea (Er rfl rfl rfl) ?_)))))))))
 first | refine Ea (o_lenM rfl) ?_ | refine Ea (o_len rfl) ?_ | refine Ea (o_lenL rfl rfl rfl) ?_ | refine Ea (o_lenN rfl) ?_
 refine Ea (o_eql rfl rfl) (Ea (Ee rfl) ?_)
 first | refine s_gDT rfl ?_ ?_ | refine s_gB rfl ?_ ?_
 intro h5
 try rw [nnp] at h5
 refine Ea (Ej rfl) (s_gT rfl (Ea (Er rfl rfl rfl) (s_gT rfl (Ea (o_not rfl) (Ea (o_pickT rfl rfl) (Ea (Ee rfl) ?_))))))
 first | refine s_gDF rfl ?_ ?_ | refine s_gNDF rfl ?_ ?_ | refine s_gNF rfl ?_ ?_ | refine s_gB rfl ?_ ?_
 intro h6
 try rw [nnp] at h6
 refine Ea (Ej rfl) (s_gT rfl (Ea (Er rfl rfl rfl) (s_gT rfl ?_)))
 first | refine Ea (o_lenM rfl) ?_ | refine Ea (o_len rfl) ?_ | refine Ea (o_lenL rfl rfl rfl) ?_ | refine Ea (o_lenN rfl) ?_
 refine s_gT rfl (Ea (Ej rfl) (s_keepO (is := [1, 39, 42, 43]) rfl (s_gT rfl (Ea (Er rfl rfl rfl) (s_gT rfl ?_)))))
 first | refine s_call rfl rfl (c_173 ..) ?_ | refine s_callL rfl rfl (by simp) (c_173 ..) rfl ?_
 refine s_gT rfl (Ea (o_eql rfl rfl) (s_gT rfl (Ea (Ee rfl) ?_)))
 first | refine s_gDT rfl ?_ ?_ | refine s_gB rfl ?_ ?_
 intro h7
 try rw [nnp] at h7
 refine Ea (Ej rfl) (s_gT rfl (Ea (Er rfl rfl rfl) (s_gT rfl (Ea (o_pickT rfl rfl) (Ea (Fa rfl rfl) (Ea (Ee rfl) (Ed (Ec (Eb [2] rfl (Ek (Eh rfl rfl ?_)))))))))))
 rotate_left
 intro h7
 try rw [nnp] at h7
 refine Eu rfl (Eu rfl (s_gT rfl (Ea (Fa rfl rfl) (Ea (Fa rfl rfl) (Ea (Ee rfl) (Ed (Ec (Eb [2] rfl (Ek (Eh rfl rfl ?_))))))))))
 rotate_left
 intro h6
 try rw [nnp] at h6
 refine Eu rfl (Eu rfl (Eu rfl (Eu rfl (s_keepO (is := [1, 39, 42, 43]) rfl (Eu rfl (Eu rfl (Eu rfl (Eu rfl (s_gN rfl (s_gN rfl (Eu rfl ?_)))))))))))
 refine Ea (o_pickT rfl rfl) (Ea (Ee rfl) (Ed (Ec (Eb [2] rfl (Ek (Eh rfl rfl ?_))))))
 rotate_left
 intro h5
 try rw [nnp] at h5
 refine Eu rfl (Eu rfl (Eu rfl (Ea (Fa rfl rfl) (Ea (Ee rfl) (s_gT rfl (Ea (Ej rfl) (s_gT rfl (Ea (Er rfl rfl rfl) (s_gT rfl ?_)))))))))
 first | refine Ea (o_lenM rfl) ?_ | refine Ea (o_len rfl) ?_ | refine Ea (o_lenL rfl rfl rfl) ?_ | refine Ea (o_lenN rfl) ?_
 refine s_gT rfl (Ea (Ej rfl) (s_keepO (is := [1, 39, 42, 43]) rfl (s_gT rfl (Ea (Er rfl rfl rfl) (s_gT rfl ?_)))))
 first | refine s_call rfl rfl (c_173 ..) ?_ | refine s_callL rfl rfl (by simp) (c_173 ..) rfl ?_
 refine s_gT rfl (Ea (o_eql rfl rfl) (s_gT rfl (Ea (Ee rfl) ?_)))
 first | refine s_gDT rfl ?_ ?_ | refine s_gB rfl ?_ ?_
 intro h8
 try rw [nnp] at h8
 refine Ea (Ej rfl) (s_gT rfl (Ea (Er rfl rfl rfl) (s_gT rfl (Ea (o_pickT rfl rfl) (Ea (Fa rfl rfl) (Ea (Ee rfl) (Ed (Ec (Eb [2] rfl (Ek (Eh rfl rfl ?_)))))))))))
 rotate_left
 intro h8
 try rw [nnp] at h8
 refine Eu rfl (Eu rfl (s_gT rfl (Ea (Fa rfl rfl) (Ea (Fa rfl rfl) (Ea (Ee rfl) (Ed (Ec (Eb [2] rfl (Ek (Eh rfl rfl ?_))))))))))
 rotate_left
 all_goals
  first | (unfold Req.ok; rw [all_no (by assumption) (by assumption)]; simp; done) | (have ha := all_end hi.2 (by omega); clear hi; cases hw : x.write <;> simp_all [Req.ok]; done) | (have ha := all_end hi.2 (by omega); clear hi; cases hw : x.write <;> simp_all [Req.ok] <;> omega) | (simp_all [Req.ok]; done)
def Mst.beats (m : Mst) : Int := match m.queue[0]? with | some r => AL.beats r.burst | none => 0
def Mst.right (m : Mst) : Bool := decide (m.queue.length ≤ 4) && decide (0 ≤ m.tries) && m.queue.all Req.ok &&
 (if m.queue.length = 0 then decide (m.beat = 0) && decide (m.done = 0) && decide (m.tries = 0) && !m.parted && !m.broken else inB m.done 0 (m.beats - 1) && inB m.beat m.done (min (m.done + 2) m.beats))
theorem Mst.beats_bd (m : Mst) : 0 ≤ m.beats ∧ m.beats ≤ 8 := by
 unfold Mst.beats
 split
 · exact AL.beats_bd _
 · simp
theorem Mst.beats_nil {m : Mst} (h : m.queue.length = 0) : m.beats = 0 := by
 unfold Mst.beats
 rw [List.getElem?_eq_none (by omega)]
theorem Mst.beats_at {m : Mst} {r : Req} (h : m.queue[0]? = some r) : m.beats = AL.beats r.burst := by unfold Mst.beats; rw [h]
theorem req_not (xs : List Req) : (!xs.any (fun r => !r.ok)) = xs.all Req.ok := by
 induction xs with
 | nil => rfl
 | cons m xs ih => simp only [List.any_cons, List.all_cons, Bool.not_or, Bool.not_not, ih]
theorem req_any (xs : List Req) : xs.any (fun r => !r.ok) = !xs.all Req.ok := by rw [← req_not, Bool.not_not]
theorem c_18 (m : Mst) : CV prg 18 [.rp m.r 0] (fun res => res = .w (.int .i64 m.beats)) := by
 refine cv_in g18 (Eb [0] rfl (Ef (Eg (Ea (Ee rfl) (Ed (Ec (Eb [0] rfl (Ef (Ef (Eg (Ea (Ee rfl) ?_)))))))))))
 refine Ea (o_nilcR rfl) (Ea (o_fa rfl) (Ea (o_ld rfl rfl) ?_))
 first | refine Ea (o_lenM rfl) ?_ | refine Ea (o_len rfl) ?_ | refine Ea (o_lenL rfl rfl rfl) ?_ | refine Ea (o_lenN rfl) ?_
 refine Ea (o_eql rfl rfl) (Ed (Ec (Eb [0, 8] rfl ?_)))
 first | refine Ev rfl ?_ ?_ | refine Eo rfl ?_ ?_
 intro h1
 try rw [nnp] at h1
 refine Ef (Eg (Ea (Ee rfl) (Ed (Ec (Eb [2] rfl (Ek (Ep (En rfl rfl ?_))))))))
 rotate_left
 intro h1
 try rw [nnp] at h1
 refine Ey (Ec (Eb [0] rfl (Ef (Eg (Ea (Ee rfl) (Ea (o_nilcR rfl) (Ea (o_fa rfl) (Ea (o_ld rfl rfl) (s_iaM rfl rfl (by omega) ?_)))))))))
 intro y2 e2
 try simp only [Int.toNat_natCast, Int.toNat_zero] at e2
 refine Ea (o_fa rfl) (Ea (o_ld rfl rfl) ?_)
 first | refine s_call rfl rfl (c_22 ..) ?_ | refine s_callL rfl rfl (by simp) (c_22 ..) rfl ?_
 refine Ea (Ee rfl) (Ed (Ec (Eb [2] rfl (Ek (En rfl rfl ?_)))))
 rotate_left
 all_goals
  first | exact (Mst.beats_at (by assumption)).symm | exact (Mst.beats_nil (by omega)).symm
theorem c_220 (m : Mst) : CV prg 220 [.agg m.r] (fun res => res = .w (.int .i64 m.beats)) := by
 refine cv_in g220 (Eb [0] rfl (Ef (Eg (Ea (o_box rfl rfl rfl) (Ea (Ee rfl) (Ed (Ec (Eb [1] rfl (Ef (Ef (Eg ?_)))))))))))
 refine Ea (Ej rfl) (Ea (Er rfl rfl rfl) ?_)
 first | refine Ea (o_lenM rfl) ?_ | refine Ea (o_len rfl) ?_ | refine Ea (o_lenL rfl rfl rfl) ?_ | refine Ea (o_lenN rfl) ?_
 refine Ea (o_eql rfl rfl) (Ed (Ec (Eb [1, 6] rfl ?_)))
 first | refine Ev rfl ?_ ?_ | refine Eo rfl ?_ ?_
 intro h1
 try rw [nnp] at h1
 refine Ef (Eg (Ea (Ee rfl) (Ed (Ec (Eb [2] rfl (Ek (Ep (En rfl rfl ?_))))))))
 rotate_left
 intro h1
 try rw [nnp] at h1
 refine Ey (Ec (Eb [1] rfl (Ef (Eg (Ea (Ej rfl) (Ea (Er rfl rfl rfl) (s_iaM rfl rfl (by omega) ?_)))))))
 intro y2 e2
 try simp only [Int.toNat_natCast, Int.toNat_zero] at e2
 refine Ea (o_fa rfl) (Ea (o_ld rfl rfl) ?_)
 first | refine s_call rfl rfl (c_173 ..) ?_ | refine s_callL rfl rfl (by simp) (c_173 ..) rfl ?_
 refine Ea (Ee rfl) (Ed (Ec (Eb [2] rfl (Ek (En rfl rfl ?_)))))
 rotate_left
 all_goals
  first | exact (Mst.beats_at (by assumption)).symm | exact (Mst.beats_nil (by omega)).symm
theorem c_89 (r : Req) (hs : r.small) : CV prg 89 [.agg r.r] (fun res => res = .w (.bool (!r.ok))) := by
 refine cv_in g89 (Eb [0] rfl (Ef (Eg (Ea (o_box rfl rfl rfl) (Ea (Ee rfl) (Ed (Ec (Eb [1] rfl (Ef (Eg (Ea (o_ldnC rfl rfl rfl) ?_)))))))))))
 first | refine s_call rfl rfl (c_66 _ (by assumption)) ?_ | refine s_callL rfl rfl (by simp) (c_66 _ (by assumption)) rfl ?_
 refine Ea (o_not rfl) (Ea (Ee rfl) (Ed (Ec (Eb [2] rfl (Ek (Eh rfl rfl ?_))))))
 rotate_left
 all_goals
  rfl
theorem c_88 (m : Mst) (hs : m.small) : CV prg 88 [.agg m.r] (fun res => res = .w (.bool m.right)) := by
 have hbb := m.beats_bd
 refine cv_in g88 (Eb [0] rfl (Ef (Eg (Ea (o_box rfl rfl rfl) (Ea (Ee rfl) (Ed (Ec (Eb [1] rfl (Ef (Ef (Eg ?_)))))))))))
 refine Ea (Ej rfl) (Ea (Er rfl rfl rfl) ?_)
 first | refine Ea (o_lenM rfl) ?_ | refine Ea (o_len rfl) ?_ | refine Ea (o_lenL rfl rfl rfl) ?_ | refine Ea (o_lenN rfl) ?_
 refine Ea (o_gtr rfl rfl) (Ea (Ee rfl) ?_)
 first | refine s_gDF rfl ?_ ?_ | refine s_gB rfl ?_ ?_
 intro h1
 try rw [nnp] at h1
 try have h1' := inB_t h1
 refine Ea (Ej rfl) (s_gT rfl (Ea (Er rfl rfl rfl) (s_gT rfl (Ea (o_lss rfl rfl) (Ea (Fa rfl rfl) (Ea (Ee rfl) ?_))))))
 first | refine s_gDF rfl ?_ ?_ | refine s_gB rfl ?_ ?_
 intro h2
 try rw [nnp] at h2
 try have h2' := inB_t h2
 refine Ea (Ej rfl) (s_gT rfl (Ea (Er rfl rfl rfl) (s_gT rfl (s_call rfl rfl (c_260 _ (by have := hs.1; omega) _ _ rfl (fun r => !r.ok) (fun y hy => c_89 y (hs.2 y hy))) (Ea (Fa rfl rfl) (Ed (Ec (Eb [1, 16] rfl ?_))))))))
 first | refine Ev rfl ?_ ?_ | refine s_condN rfl ?_ ?_ | refine s_condNB rfl ?_ ?_ | refine Eo rfl ?_ ?_
 intro h3
 try rw [nnp] at h3
 try have h3' := inB_t h3
 refine Ef (Eg (Ea (Ee rfl) (Ed (Ec (Eb [2] rfl (Ek (Ep (Eh rfl rfl ?_))))))))
 rotate_left
 intro h3
 try rw [nnp] at h3
 try have h3' := inB_t h3
 refine Ey (Ec (Eb [1] rfl (Ef (Ef (Eg (Ea (Ej rfl) (Ea (Er rfl rfl rfl) ?_)))))))
 first | refine Ea (o_lenM rfl) ?_ | refine Ea (o_len rfl) ?_ | refine Ea (o_lenL rfl rfl rfl) ?_ | refine Ea (o_lenN rfl) ?_
 refine Ea (o_eql rfl rfl) (Ed (Ec (Eb [1, 20] rfl ?_)))
 first | refine Ev rfl ?_ ?_ | refine Eo rfl ?_ ?_
 intro h4
 try rw [nnp] at h4
 try have h4' := inB_t h4
 refine Ef (Eg (Ea (Ej rfl) (Ea (Er rfl rfl rfl) (Ea (o_eql rfl rfl) (Ea (Ee rfl) ?_)))))
 first | refine s_gDT rfl ?_ ?_ | refine s_gB rfl ?_ ?_
 intro h5
 try rw [nnp] at h5
 try have h5' := inB_t h5
 refine Ea (Ej rfl) (s_gT rfl (Ea (Er rfl rfl rfl) (s_gT rfl (Ea (o_eql rfl rfl) (Ea (o_pickT rfl rfl) (Ea (Ee rfl) ?_))))))
 first | refine s_gDT rfl ?_ ?_ | refine s_gB rfl ?_ ?_
 intro h6
 try rw [nnp] at h6
 try have h6' := inB_t h6
 refine Ea (Ej rfl) (s_gT rfl (Ea (Er rfl rfl rfl) (s_gT rfl (Ea (o_eql rfl rfl) (Ea (o_pickT rfl rfl) (Ea (Ee rfl) (s_keepO (is := [1, 34]) rfl ?_)))))))
 first | refine s_gDT rfl ?_ ?_ | refine s_gB rfl ?_ ?_
 intro h7
 try rw [nnp] at h7
 try have h7' := inB_t h7
 refine Ea (Ej rfl) (s_gT rfl (Ea (Er rfl rfl rfl) (s_gT rfl (Ea (o_not rfl) (Ea (o_pickT rfl rfl) (Ea (Ee rfl) ?_))))))
 first | refine s_gDT rfl ?_ ?_ | refine s_gNDT rfl ?_ ?_ | refine s_gNT rfl ?_ ?_ | refine s_gB rfl ?_ ?_
 intro h8
 try rw [nnp] at h8
 try have h8' := inB_t h8
 refine Ea (Ej rfl) (s_gT rfl (Ea (Er rfl rfl rfl) (s_gT rfl (Ea (o_not rfl) (Ea (o_pickT rfl rfl) (Ea (Ee rfl) (Ed (Ec (Eb [2] rfl (Ek (Ep ?_)))))))))))
 refine Eh rfl rfl ?_
 rotate_left
 intro h8
 try rw [nnp] at h8
 try have h8' := inB_t h8
 refine Eu rfl (Eu rfl (Eu rfl (Ea (Fa rfl rfl) (Ea (Ee rfl) (Ed (Ec (Eb [2] rfl (Ek (Ep (Eh rfl rfl ?_))))))))))
 rotate_left
 intro h7
 try rw [nnp] at h7
 try have h7' := inB_t h7
 refine Eu rfl (Eu rfl (Eu rfl (Ea (Fa rfl rfl) (Ea (Ee rfl) (Eu rfl (Eu rfl (Eu rfl (Ea (Fa rfl rfl) (Ea (Ee rfl) (Ed (Ec ?_)))))))))))
 refine Eb [2] rfl (Ek (Ep (Eh rfl rfl ?_)))
 rotate_left
 intro h6
 try rw [nnp] at h6
 try have h6' := inB_t h6
 refine Eu rfl (Eu rfl (Eu rfl (Ea (Fa rfl rfl) (Ea (Ee rfl) (s_keepO (is := [1, 34]) rfl (Eu rfl (Eu rfl (Eu rfl (Ea (Fa rfl rfl) (Ea (Ee rfl) (Eu rfl ?_)))))))))))
 refine Eu rfl (Eu rfl (Ea (Fa rfl rfl) (Ea (Ee rfl) (Ed (Ec (Eb [2] rfl (Ek (Ep (Eh rfl rfl ?_)))))))))
 rotate_left
 intro h5
 try rw [nnp] at h5
 try have h5' := inB_t h5
 refine Eu rfl (Eu rfl (Eu rfl (Ea (Fa rfl rfl) (Ea (Ee rfl) (Eu rfl (Eu rfl (Eu rfl (Ea (Fa rfl rfl) (Ea (Ee rfl) (s_keepO (is := [1, 34]) rfl (Eu rfl ?_)))))))))))
 refine Eu rfl (Eu rfl (Ea (Fa rfl rfl) (Ea (Ee rfl) (Eu rfl (Eu rfl (Eu rfl (Ea (Fa rfl rfl) (Ea (Ee rfl) (Ed (Ec (Eb [2] rfl ?_)))))))))))
 refine Ek (Ep (Eh rfl rfl ?_))
 rotate_left
 intro h4
 try rw [nnp] at h4
 try have h4' := inB_t h4
 refine Ey (Ec (Eb [1] rfl (Ef (Eg (Ea (Ej rfl) (Ea (Er rfl rfl rfl) (s_callL rfl rfl (by simp) (c_18 m) rfl ?_)))))))
 first | refine Ea (o_subn rfl rfl (by first | omega | (simp only [minL2]; omega))) ?_ | refine Ea (o_sub rfl rfl) ?_
 first | refine s_call rfl rfl (c_103 ..) ?_ | refine s_callL rfl rfl (by simp) (c_103 ..) rfl ?_
 refine Ea (Ee rfl) ?_
 first | refine s_gDT rfl ?_ ?_ | refine s_gNDT rfl ?_ ?_ | refine s_gNT rfl ?_ ?_ | refine s_gB rfl ?_ ?_
 intro h9
 try rw [nnp] at h9
 try have h9' := inB_t h9
 refine Ea (Ej rfl) (s_gT rfl (Ea (Er rfl rfl rfl) (s_gT rfl (Ea (Ej rfl) (s_gT rfl (Ea (Er rfl rfl rfl) (s_gT rfl (Ea (Ej rfl) (s_gT rfl (Ea (Er rfl rfl rfl) (s_gT rfl ?_)))))))))))
 first | refine Ea (o_addn rfl rfl (by first | omega | (simp only [minL2]; omega))) ?_ | refine Ea (o_add rfl rfl) ?_
 refine s_gT rfl (s_callL rfl rfl (by simp) (c_18 m) rfl (s_keepO (is := [49, 51, 53, 56, 57]) rfl (s_gT rfl (Ea (o_mn rfl) (s_gT rfl ?_)))))
 first | refine s_call rfl rfl (c_103 ..) ?_ | refine s_callL rfl rfl (by simp) (c_103 ..) rfl ?_
 refine Ea (o_pickT rfl rfl) (Ea (Ee rfl) (Ed (Ec (Eb [2] rfl (Ek (Eh rfl rfl ?_))))))
 rotate_left
 intro h9
 try rw [nnp] at h9
 try have h9' := inB_t h9
 iterate 8 refine Eu rfl ?_
 refine s_keepO (is := [49, 51, 53, 56, 57]) rfl (Eu rfl (Eu rfl (Ea (Fa rfl rfl) (Ea (Ee rfl) (Ed (Ec (Eb [2] rfl (Ek (Eh rfl rfl ?_)))))))))
 rotate_left
 intro h2
 try rw [nnp] at h2
 try have h2' := inB_t h2
 refine Eu rfl (Eu rfl (Eu rfl (Ea (o_pickT rfl rfl) (Ed (Ec (Eb [1, 16] rfl (s_condT rfl (Ef (Eg (Ea (Ee rfl) (Ed ?_)))))))))))
 refine Ec (Eb [2] rfl (Ek (Ep (Eh rfl rfl ?_))))
 rotate_left
 intro h1
 try rw [nnp] at h1
 try have h1' := inB_t h1
 refine Eu rfl (Eu rfl (Eu rfl (Ea (o_pickT rfl rfl) (Ea (Ee rfl) (Eu rfl (Eu rfl (Eu rfl (Ea (o_pickT rfl rfl) (Ed (Ec (Eb [1, 16] rfl ?_)))))))))))
 refine s_condT rfl (Ef (Eg (Ea (Ee rfl) (Ed (Ec (Eb [2] rfl (Ek (Ep (Eh rfl rfl ?_)))))))))
 rotate_left
 all_goals
  clear hs
  try simp only [req_any] at *
  unfold Mst.right
  generalize m.queue.all Req.ok = z at *
  generalize m.queue.length = n at *
  first | (simp_all [minL2]; done) | (simp_all [minL2] <;> omega)
theorem c_221 (m : Mst) (hs : m.small) : CV prg 221 [.agg m.r] (fun res => res = .w (.bool m.right)) := by
 have hbb := m.beats_bd
 have hq := hs.1
 refine cv_in g221 (Eb [0] rfl (Ef (Eg (Ea (o_box rfl rfl rfl) (Ea (Ee rfl) (Ed (Ec (Eb [1] rfl (Ef (Ef (Eg ?_)))))))))))
 refine Ea (Ee rfl) (Ed (Ec (Eb [1, 3] rfl (S_block (S_loop0 (ι := Nat) (fun i => i ≤ m.queue.length ∧ (m.queue.take i).all Req.ok = true) (fun i => [(3, .w (.int .i64 (i : Int)))]) (fun i => m.queue.length - i) 0 (by simp) rfl ⟨rfl, trivial⟩ (fun _ _ => rfl) rfl ?_)))))
 intro i hi
 refine Eb [1, 3] rfl (Ef (Ef (Eg (Ea (Ee rfl) (Ea (Ej rfl) (Ea (Er rfl rfl rfl) ?_))))))
 first | refine Ea (o_lenM rfl) ?_ | refine Ea (o_len rfl) ?_ | refine Ea (o_lenL rfl rfl rfl) ?_ | refine Ea (o_lenN rfl) ?_
 refine Ea (o_lss rfl rfl) (Ed (Ec (Eb [1, 3, 8] rfl ?_)))
 first | refine Ev rfl ?_ ?_ | refine Eo rfl ?_ ?_
 intro h1
 try rw [nnp] at h1
 try have h1' := inB_t h1
 refine Ey (Ec (Eb [1, 3] rfl (Ef (S_block (Ef (Eg (Ea (Ej rfl) (Ea (Er rfl rfl rfl) (Ea (Ee rfl) (s_iaM rfl rfl (by omega) ?_))))))))))
 intro y2 e2
 try simp only [Int.toNat_natCast, Int.toNat_zero] at e2
 refine Ea (o_ldn rfl rfl) ?_
 first | refine s_call rfl rfl (c_207 _ (hs.2 _ (List.mem_of_getElem? (by assumption)))) ?_ | refine s_callL rfl rfl (by simp) (c_207 _ (hs.2 _ (List.mem_of_getElem? (by assumption)))) rfl ?_
 refine Ea (o_not rfl) (Ed (Ec (Eb [1, 3, 17] rfl ?_)))
 first | refine Ev rfl ?_ ?_ | refine s_condN rfl ?_ ?_ | refine s_condNB rfl ?_ ?_ | refine Eo rfl ?_ ?_
 intro h3
 try rw [nnp] at h3
 try have h3' := inB_t h3
 refine Ef (Eg (Ea (Ee rfl) (Ed (Ec (Eb [2] rfl (Ek (q_blkR (Ep (q_loopR (q_blkR (Ep ?_)))))))))))
 refine Eh rfl rfl ?_
 rotate_left
 intro h3
 try rw [nnp] at h3
 try have h3' := inB_t h3
 refine Ey (q_blkN (Ec (Eb [1, 3] rfl (Eg (Ea (Ee rfl) ?_)))))
 first | refine Ea (o_addn rfl rfl (by omega)) ?_ | refine Ea (o_add rfl rfl) ?_
 refine Ea (Ee rfl) (Ed (q_loopN ?_))
 · exact ⟨i + 1, ⟨by omega, all_take (by assumption) hi.2 (by assumption)⟩, by omega, hasOf ⟨rfl, trivial⟩ rfl⟩
 intro h1
 try rw [nnp] at h1
 try have h1' := inB_t h1
 refine s_exit (q_seqX (q_loopX (q_blkH (Ec (Eb [1] rfl (Ef (Ef (Eg (Ea (Ej rfl) (Ea (Er rfl rfl rfl) ?_))))))))))
 first | refine Ea (o_lenM rfl) ?_ | refine Ea (o_len rfl) ?_ | refine Ea (o_lenL rfl rfl rfl) ?_ | refine Ea (o_lenN rfl) ?_
 refine Ea (o_gtr rfl rfl) (Ea (Ee rfl) ?_)
 first | refine s_gDF rfl ?_ ?_ | refine s_gB rfl ?_ ?_
 intro h4
 try rw [nnp] at h4
 try have h4' := inB_t h4
 refine Ea (Ej rfl) (s_gT rfl (Ea (Er rfl rfl rfl) (s_gT rfl (Ea (o_lss rfl rfl) (Ea (Fa rfl rfl) (Ed (Ec (Eb [1, 26] rfl ?_))))))))
 first | refine Ev rfl ?_ ?_ | refine Eo rfl ?_ ?_
 intro h5
 try rw [nnp] at h5
 try have h5' := inB_t h5
 refine Ef (Eg (Ea (Ee rfl) (Ed (Ec (Eb [2] rfl (Ek (Ep (Eh rfl rfl ?_))))))))
 rotate_left
 intro h5
 try rw [nnp] at h5
 try have h5' := inB_t h5
 refine Ey (Ec (Eb [1] rfl (Ef (Ef (Eg (Ea (Ej rfl) (Ea (Er rfl rfl rfl) ?_)))))))
 first | refine Ea (o_lenM rfl) ?_ | refine Ea (o_len rfl) ?_ | refine Ea (o_lenL rfl rfl rfl) ?_ | refine Ea (o_lenN rfl) ?_
 refine Ea (o_eql rfl rfl) (Ed (Ec (Eb [1, 30] rfl ?_)))
 first | refine Ev rfl ?_ ?_ | refine Eo rfl ?_ ?_
 intro h6
 try rw [nnp] at h6
 try have h6' := inB_t h6
 refine Ef (Eg (Ea (Ej rfl) (Ea (Er rfl rfl rfl) (Ea (o_eql rfl rfl) (Ea (Ee rfl) ?_)))))
 first | refine s_gDT rfl ?_ ?_ | refine s_gB rfl ?_ ?_
 intro h7
 try rw [nnp] at h7
 try have h7' := inB_t h7
 refine Ea (Ej rfl) (s_gT rfl (Ea (Er rfl rfl rfl) (s_gT rfl (Ea (o_eql rfl rfl) (Ea (o_pickT rfl rfl) (Ea (Ee rfl) ?_))))))
 first | refine s_gDT rfl ?_ ?_ | refine s_gB rfl ?_ ?_
 intro h8
 try rw [nnp] at h8
 try have h8' := inB_t h8
 refine Ea (Ej rfl) (s_gT rfl (Ea (Er rfl rfl rfl) (s_gT rfl (Ea (o_eql rfl rfl) (Ea (o_pickT rfl rfl) (Ea (Ee rfl) (s_keepO (is := [1, 44]) rfl ?_)))))))
 first | refine s_gDT rfl ?_ ?_ | refine s_gB rfl ?_ ?_
 intro h9
 try rw [nnp] at h9
 try have h9' := inB_t h9
 refine Ea (Ej rfl) (s_gT rfl (Ea (Er rfl rfl rfl) (s_gT rfl (Ea (o_not rfl) (Ea (o_pickT rfl rfl) (Ea (Ee rfl) ?_))))))
 first | refine s_gDT rfl ?_ ?_ | refine s_gNDT rfl ?_ ?_ | refine s_gNT rfl ?_ ?_ | refine s_gB rfl ?_ ?_
 intro h10
 try rw [nnp] at h10
 try have h10' := inB_t h10
 refine Ea (Ej rfl) (s_gT rfl (Ea (Er rfl rfl rfl) (s_gT rfl (Ea (o_not rfl) (Ea (o_pickT rfl rfl) (Ea (Ee rfl) (Ed (Ec (Eb [2] rfl (Ek (Ep ?_)))))))))))
 refine Eh rfl rfl ?_
 rotate_left
 intro h10
 try rw [nnp] at h10
 try have h10' := inB_t h10
 refine Eu rfl (Eu rfl (Eu rfl (Ea (Fa rfl rfl) (Ea (Ee rfl) (Ed (Ec (Eb [2] rfl (Ek (Ep (Eh rfl rfl ?_))))))))))
 rotate_left
 intro h9
 try rw [nnp] at h9
 try have h9' := inB_t h9
 refine Eu rfl (Eu rfl (Eu rfl (Ea (Fa rfl rfl) (Ea (Ee rfl) (Eu rfl (Eu rfl (Eu rfl (Ea (Fa rfl rfl) (Ea (Ee rfl) (Ed (Ec ?_)))))))))))
 refine Eb [2] rfl (Ek (Ep (Eh rfl rfl ?_)))
 rotate_left
 intro h8
 try rw [nnp] at h8
 try have h8' := inB_t h8
 refine Eu rfl (Eu rfl (Eu rfl (Ea (Fa rfl rfl) (Ea (Ee rfl) (s_keepO (is := [1, 44]) rfl (Eu rfl (Eu rfl (Eu rfl (Ea (Fa rfl rfl) (Ea (Ee rfl) (Eu rfl ?_)))))))))))
 refine Eu rfl (Eu rfl (Ea (Fa rfl rfl) (Ea (Ee rfl) (Ed (Ec (Eb [2] rfl (Ek (Ep (Eh rfl rfl ?_)))))))))
 rotate_left
 intro h7
 try rw [nnp] at h7
 try have h7' := inB_t h7
 refine Eu rfl (Eu rfl (Eu rfl (Ea (Fa rfl rfl) (Ea (Ee rfl) (Eu rfl (Eu rfl (Eu rfl (Ea (Fa rfl rfl) (Ea (Ee rfl) (s_keepO (is := [1, 44]) rfl (Eu rfl ?_)))))))))))
 refine Eu rfl (Eu rfl (Ea (Fa rfl rfl) (Ea (Ee rfl) (Eu rfl (Eu rfl (Eu rfl (Ea (Fa rfl rfl) (Ea (Ee rfl) (Ed (Ec (Eb [2] rfl ?_)))))))))))
 refine Ek (Ep (Eh rfl rfl ?_))
 rotate_left
 intro h6
 try rw [nnp] at h6
 try have h6' := inB_t h6
 refine Ey (Ec (Eb [1] rfl (Ef (Eg (Ea (Ej rfl) (Ea (Er rfl rfl rfl) (Ea (o_ldnC rfl rfl rfl) ?_)))))))
 first | refine s_call rfl rfl (c_220 _) ?_ | refine s_callL rfl rfl (by simp) (c_220 _) rfl ?_
 first | refine Ea (o_subn rfl rfl (by omega)) ?_ | refine Ea (o_sub rfl rfl) ?_
 first | refine s_call rfl rfl (c_230 ..) ?_ | refine s_callL rfl rfl (by simp) (c_230 ..) rfl ?_
 refine Ea (Ee rfl) ?_
 first | refine s_gDT rfl ?_ ?_ | refine s_gNDT rfl ?_ ?_ | refine s_gNT rfl ?_ ?_ | refine s_gB rfl ?_ ?_
 intro h11
 try rw [nnp] at h11
 try have h11' := inB_t h11
 refine Ea (Ej rfl) (s_gT rfl (Ea (Er rfl rfl rfl) (s_gT rfl (Ea (Ej rfl) (s_gT rfl (Ea (Er rfl rfl rfl) (s_gT rfl (Ea (Ej rfl) (s_gT rfl (Ea (Er rfl rfl rfl) (s_gT rfl ?_)))))))))))
 first | refine Ea (o_addn rfl rfl (by omega)) ?_ | refine Ea (o_add rfl rfl) ?_
 refine s_keepO (is := [1, 60, 62, 64, 67]) rfl (s_gT rfl (Ea (o_ldnC rfl rfl rfl) (s_gT rfl ?_)))
 first | refine s_call rfl rfl (c_220 _) ?_ | refine s_callL rfl rfl (by simp) (c_220 _) rfl ?_
 refine s_gT rfl (Ea (o_mn rfl) (s_gT rfl ?_))
 first | refine s_call rfl rfl (c_230 ..) ?_ | refine s_callL rfl rfl (by simp) (c_230 ..) rfl ?_
 refine Ea (o_pickT rfl rfl) (Ea (Ee rfl) (Ed (Ec (Eb [2] rfl (Ek (Eh rfl rfl ?_))))))
 rotate_left
 intro h11
 try rw [nnp] at h11
 try have h11' := inB_t h11
 iterate 7 refine Eu rfl ?_
 refine s_keepO (is := [1, 60, 62, 64, 67]) rfl (Eu rfl (Eu rfl (Eu rfl (Eu rfl (Ea (Fa rfl rfl) (Ea (Ee rfl) (Ed (Ec (Eb [2] rfl (Ek (Eh rfl rfl ?_)))))))))))
 rotate_left
 intro h4
 try rw [nnp] at h4
 try have h4' := inB_t h4
 refine Eu rfl (Eu rfl (Eu rfl (Ea (o_pickT rfl rfl) (Ed (Ec (Eb [1, 26] rfl (s_condT rfl (Ef (Eg (Ea (Ee rfl) (Ed ?_)))))))))))
 refine Ec (Eb [2] rfl (Ek (Ep (Eh rfl rfl ?_))))
 rotate_left
 all_goals
  clear hs; first | (unfold Mst.right; rw [all_no (by assumption : m.queue[i]? = some _) (by assumption)]; simp; done) | (have ha := all_end hi.2 (by omega); clear hi; simp_all [Mst.right, minL2]; done) | (have ha := all_end hi.2 (by omega); clear hi; simp_all [Mst.right, minL2] <;> omega)
def okAt (c : Conf) (s : Script) (i : Nat) : Bool := match s.posts[i]? with
 | some p => inB p.moment 0 4000 && inB p.who 0 (c.masters.length - 1) && p.req.ok && (match i with
   | 0 => true
   | j + 1 => match s.posts[j]? with
     | some q => decide (q.moment ≤ p.moment)
     | none => true)
 | none => true
def Script.ok (s : Script) (c : Conf) : Bool := c.ok && decide (s.posts.length ≤ 20) && decide (s.waits.length ≤ 20) && decide (s.says.length ≤ 20) && (List.range s.posts.length).all (okAt c s)
def markI (k : Int) (i : Nat) : Int := k + 1 * i
def markD1 (k : Int) : Done := ⟨k, k + 1, decide ((k + 1 + 1).tmod 3 = 0), k + 1 + 1 + 1, k + 1 + 1 + 1 + 1, k + 1 + 1 + 1 + 1 + 1, k + 1 + 1 + 1 + 1 + 1 + 1⟩
theorem cg_337 (xs : List Int) (k : Int) (hl : xs.length ≤ 1048576) (hk : 0 ≤ k ∧ k ≤ 1099511627776) : GV prg 337 [.arr 1 (xs.map iR)] [.ls 0 xs.length, .w (.int .i64 k)] (fun u L1 => u = .w (.int .i64 (k + 1 * xs.length)) ∧ L1 = [.arr 1 (((List.range xs.length).map (markI k)).map iR)]) := by
 refine gv_in g337 (Eb [0, 1] rfl (Ef (Eg (Ea (Ee rfl) (Ed (Ec (Eb [0, 1] rfl (Ef (Ef (Eg (Ea (Ee rfl) ?_)))))))))))
 refine Ed (Ec (Eb [0, 1, 5] rfl (S_block (S_loop (ι := Nat) (fun i => i ≤ xs.length) (fun i => [(5, .w (.int .i64 (i : Int))), (1, .w (.int .i64 (k + 1 * (i : Int))))]) (fun i => [.arr 1 (mix iR (markI k) xs i)]) (fun i => xs.length - i) 1 0 (by simp) rfl (hasOf ⟨rfl, congrArg (fun b => some (V.w (.int .i64 b))) (by simp), trivial⟩ (by rw [mix_zero]; rfl)) rfl (fun _ _ => rfl) (fun _ _ => ⟨rfl, rfl⟩) ?_))))
 intro i hi
 obtain ⟨y0, hy0⟩ : ∃ y, i < xs.length → xs[i]? = some y := by
  by_cases h : i < xs.length
  · exact ⟨xs[i], fun _ => List.getElem?_eq_getElem h⟩
  · exact ⟨markI k 0, fun h2 => absurd h2 h⟩
 refine Eb [0, 1, 5] rfl (Ef (Ef (Eg (Ea (Ee rfl) (Ea (Ee rfl) (Ea (o_lenL rfl rfl (by (try simp only [Int.toNat_natCast, List.length_set]); first | exact List.length_map .. | exact mix_len _ _ _ _ hi)) (Ea (o_lss rfl rfl) (Ed (Ec (Eb [0, 1, 5, 9] rfl ?_))))))))))
 first | refine Ev rfl ?_ ?_ | refine Eo rfl ?_ ?_
 intro h1
 try rw [nnp] at h1
 refine Ey (Ec (Eb [0, 1, 5] rfl (Ef (S_block (Ef (Eg (Ea (Ee rfl) (Ea (Ee rfl) (Ea (Ee rfl) (Ea (o_iaL rfl rfl (by (try simp only [Int.toNat_natCast, List.length_set]); first | exact List.length_map .. | exact mix_len _ _ _ _ hi) rfl (by omega)) (s_opN (o_stA rfl rfl rfl rfl (by (try simp only [Int.toNat_natCast, List.length_set]); first | exact List.length_map .. | exact mix_len _ _ _ _ hi) (by (try rw [Int.toNat_natCast]); first | exact set_at (by (try simp only [List.length_set]); rw [mix_len _ _ _ _ hi]; omega) | exact mix_at _ _ (hy0 (by omega))) rfl rfl) ?_)))))))))))
 refine Ed (Ec (Eb [0, 1, 5] rfl (Eg (Ea (Ee rfl) ?_))))
 first | refine Ea (o_addn rfl rfl (by omega)) ?_ | refine Ea (o_add rfl rfl) ?_
 refine Ea (Ee rfl) (Ed (q_blkN (Ec (Eb [0, 1, 5] rfl (Eg (Ea (Ee rfl) ?_))))))
 first | refine Ea (o_addn rfl rfl (by omega)) ?_ | refine Ea (o_add rfl rfl) ?_
 refine Ea (Ee rfl) (Ed (q_loopN ?_))
 · refine ⟨i + 1, by omega, by omega, hasOf ⟨rfl, congrArg (fun b => some (V.w (.int .i64 b))) (by omega), trivial⟩ ?_⟩
   simp only [Int.toNat_natCast]
   rw [← mix_set _ _ (by assumption)]; rfl
 intro h1
 try rw [nnp] at h1
 refine s_exit (q_seqX (q_loopX (q_blkH (Ec (Eb [1] rfl (Ef (Eg (Ea (Ee rfl) (Ea (Ee rfl) (Ed (Ec ?_)))))))))))
 refine Eb [4] rfl (Ek ?_)
 · refine retG_leaf [] (.inr rfl) rfl rfl rfl rfl (show (List.range 1 ++ []).Nodup by decide) ?_
   exact ⟨by rw [show (i : Int) = xs.length by omega], by rw [mix_end _ _ _ (by assumption) hi]⟩
theorem c_380 (n : Nat) (k : Int) (hl : n ≤ 1048576) (hk : 0 ≤ k ∧ k ≤ 1099511627776) : CV prg 380 [.sl 1 (((List.range n).map (markI k)).map iR), .w (.int .i64 k)] (fun res => res = .w (.int .i64 (k + 1 * n))) := by
 have hln : ((List.range n).map (markI k)).length = n := by simp
 refine cv_in g380 (Eb [0, 1] rfl (Ef (Eg (Ea (Ee rfl) (Ed (Ec (Eb [0, 1] rfl (Ef (Ef (Eg (Ea (Ee rfl) ?_)))))))))))
 refine Ed (Ec (Eb [0, 1, 5] rfl (S_block (S_loop0 (ι := Nat) (fun i => i ≤ n) (fun i => [(5, .w (.int .i64 (i : Int))), (1, .w (.int .i64 (k + 1 * (i : Int))))]) (fun i => n - i) 0 (by simp) rfl ⟨rfl, congrArg (fun b => some (V.w (.int .i64 b))) (by simp), trivial⟩ (fun _ _ => rfl) rfl ?_))))
 intro i hi
 refine Eb [0, 1, 5] rfl (Ef (Ef (Eg (Ea (Ee rfl) (Ea (Ee rfl) ?_)))))
 first | refine Ea (o_lenM rfl) ?_ | refine Ea (o_len rfl) ?_
 refine Ea (o_lss rfl rfl) (Ed (Ec (Eb [0, 1, 5, 9] rfl ?_)))
 first | refine Ev rfl ?_ ?_ | refine Eo rfl ?_ ?_
 intro h1
 try rw [nnp] at h1
 refine Ey (Ec (Eb [0, 1, 5] rfl (Ef (S_block (Ef (Ef (Eg (Ea (Ee rfl) (Ea (Ee rfl) (s_iaM rfl rfl (by omega) ?_))))))))))
 intro y2 e2
 simp only [Int.toNat_natCast] at e2; obtain rfl := mks_at e2
 refine Ea (o_ld rfl rfl) (Ea (Ee rfl) (Ea (o_neq rfl rfl) (Ed (Ec (Eb [0, 1, 5, 17] rfl ?_)))))
 first | refine Ev rfl ?_ ?_ | refine Eo rfl ?_ ?_
 intro h3
 try rw [nnp] at h3
 refine Ef (Eg (Ea (Ee rfl) (Ed (Ec (Eb [4] rfl (Ek (Ep (q_blkR (Ep (q_loopR (q_blkR ?_)))))))))))
 refine Ep (En rfl rfl ?_)
 rotate_left
 intro h3
 try rw [nnp] at h3
 refine Ey (Ec (Eb [0, 1, 5] rfl (Eg (Ea (Ee rfl) ?_))))
 first | refine Ea (o_addn rfl rfl (by omega)) ?_ | refine Ea (o_add rfl rfl) ?_
 refine Ea (Ee rfl) (Ed (q_blkN (Ec (Eb [0, 1, 5] rfl (Eg (Ea (Ee rfl) ?_))))))
 first | refine Ea (o_addn rfl rfl (by omega)) ?_ | refine Ea (o_add rfl rfl) ?_
 refine Ea (Ee rfl) (Ed (q_loopN ?_))
 · exact ⟨i + 1, by omega, by omega, hasOf ⟨rfl, congrArg (fun b => some (V.w (.int .i64 b))) (by omega), trivial⟩ rfl⟩
 intro h1
 try rw [nnp] at h1
 refine s_exit (q_seqX (q_loopX (q_blkH (Ec (Eb [1] rfl (Ef (Eg (Ea (Ee rfl) (Ea (Ee rfl) (Ed (Ec ?_)))))))))))
 refine Eb [4] rfl (Ek (En rfl rfl ?_))
 rotate_left
 all_goals
  first | (rw [show (i : Int) = n by omega]; done) | (exfalso; first | exact absurd rfl (by assumption) | (simp_all [markI]; done) | (simp_all [markI, markD1]; done))
theorem cg_163 (xs : List Int) (hl : xs.length ≤ 1048576) : GV prg 163 [] [.sl 1 (xs.map iR)] (fun u L1 => u = .ls 0 xs.length ∧ L1 = [.arr 1 (xs.map iR)]) := by
 refine gv_in g163 (Eb [0] rfl (Ef (Eg (Ea (Ee rfl) (Ed (Ec (Eb [0] rfl (Ef (Eg (Ea (Ee rfl) ?_))))))))))
 first | refine Ea (o_lenM rfl) ?_ | refine Ea (o_len rfl) ?_
 refine Ea (o_mk rfl rfl rfl rfl ⟨by omega, by unfold roomy; omega, by unfold roomy; omega⟩ rfl) (Ea (Ee rfl) (Ed (Ec (Eb [0, 3] rfl (Ef (Ef (Eg (Ea (Ee rfl) (Ed (Ec (Eb [0, 3, 4] rfl ?_)))))))))))
 refine S_block (S_loop (ι := Nat) (fun i => i ≤ xs.length) (fun i => [(4, .w (.int .i64 (i : Int)))]) (fun i => [.arr 1 (tabV iR [.w (.int .i64 0)] xs i)]) (fun i => xs.length - i) 1 0 (by simp) rfl (hasOf ⟨rfl, trivial⟩ (by rw [tabV_zero]; rfl)) rfl (fun _ _ => rfl) (fun _ _ => ⟨rfl, rfl⟩) ?_)
 intro i hi
 refine Eb [0, 3, 4] rfl (Ef (Ef (Eg (Ea (Ee rfl) (Ea (Ee rfl) ?_)))))
 first | refine Ea (o_lenM rfl) ?_ | refine Ea (o_len rfl) ?_
 refine Ea (o_lss rfl rfl) (Ed (Ec (Eb [0, 3, 4, 11] rfl ?_)))
 first | refine Ev rfl ?_ ?_ | refine Eo rfl ?_ ?_
 intro h1
 try rw [nnp] at h1
 refine Ey (Ec (Eb [0, 3, 4] rfl (Ef (S_block (Eg (Ea (Ee rfl) (Ea (Ee rfl) (Ea (Ee rfl) (Ea (Ee rfl) (s_iaM rfl rfl (by first | omega | (rw [List.length_replicate]; omega)) ?_))))))))))
 intro y2 e2
 try simp only [Int.toNat_natCast, Int.toNat_zero] at e2
 refine Ea (o_ld rfl rfl) (Ea (o_iaL rfl rfl (by rw [tabV_len _ _ _ _ (by omega), List.length_replicate]; rfl) rfl (by first | omega | (rw [List.length_replicate]; omega))) (s_opN (o_stA rfl rfl rfl rfl (by rw [tabV_len _ _ _ _ (by omega), List.length_replicate]; rfl) (by rw [Int.toNat_natCast]; exact tabV_at _ _ (by omega)) rfl rfl) (Ed (q_blkN (Ec (Eb [0, 3, 4] rfl (Eg (Ea (Ee rfl) ?_))))))))
 first | refine Ea (o_addn rfl rfl (by omega)) ?_ | refine Ea (o_add rfl rfl) ?_
 refine Ea (Ee rfl) (Ed (q_loopN ?_))
 · refine ⟨i + 1, by omega, by omega, hasOf ⟨rfl, trivial⟩ ?_⟩
   rw [← tabV_set iR [.w (.int .i64 0)] (by assumption)]; rfl
 intro h1
 try rw [nnp] at h1
 refine s_exit (q_seqX (q_loopX (q_blkH (Ec (Eb [3] rfl (Ef (Eg (Ea (Ee rfl) (Ea (Ee rfl) (Ed (Ec ?_)))))))))))
 refine Eb [2] rfl (Ek ?_)
 · refine retG_leaf [0] (.inr rfl) rfl rfl rfl rfl (show (List.range 0 ++ [0]).Nodup by decide) ?_
   exact ⟨by rw [List.length_replicate]; rfl, by rw [tabV_end _ _ _ (by omega)]⟩
theorem cg_169 (x : Req) (hs : x.small) : GV prg 169 [] [.agg x.r] (fun u L1 => u = .agg [.w (.bool x.write), .w (.int .i64 x.addr), .w (.int .i64 x.size), .w (.int .i64 x.burst), .w (.bool x.lock), .ls 0 x.data.length] ∧ L1 = [.arr 1 (x.data.map iR)]) := by
 refine gv_in g169 (Eb [0] rfl (Ef (Eg (Ea (o_box rfl rfl rfl) (Ea (o_new rfl rfl) (Ed (Ec (Eb [1, 2] rfl (Ef (Eg (Ea (o_new rfl rfl) ?_)))))))))))
 refine Ed (Ec (Eb [1, 2, 3] rfl (Ef (Eg (Ea (Ej rfl) (Ea (Er rfl rfl rfl) (Ea (Ej rfl) (s_opN (o_stC rfl rfl rfl rfl rfl rfl) (Ed (Ec (Eb [1, 2, 3] rfl ?_)))))))))))
 refine Ef (Eg (Ea (Ej rfl) (Ea (Er rfl rfl rfl) (Ea (Ej rfl) (s_opN (o_stC rfl rfl rfl rfl rfl rfl) (Ed (Ec (Eb [1, 2, 3] rfl (Ef (Eg (Ea (Ej rfl) ?_)))))))))))
 refine Ea (Er rfl rfl rfl) (Ea (Ej rfl) (s_opN (o_stC rfl rfl rfl rfl rfl rfl) (Ed (Ec (Eb [1, 2, 3] rfl (Ef (Eg (Ea (Ej rfl) (Ea (Er rfl rfl rfl) (Ea (Ej rfl) (s_opN (o_stC rfl rfl rfl rfl rfl rfl) ?_)))))))))))
 refine Ed (Ec (Eb [1, 2, 3] rfl (Ef (Eg (Ea (Ej rfl) (Ea (Er rfl rfl rfl) (Ea (Ej rfl) (s_opN (o_stC rfl rfl rfl rfl rfl rfl) (Ed (Ec (Eb [1, 2, 3] rfl ?_)))))))))))
 refine Ef (Eg (Ea (Ej rfl) (Ea (Er rfl rfl rfl) (s_callG [] rfl rfl rfl rfl (by simp) (.inl rfl) (cg_163 _ hs) ?_))))
 rintro u L1 ⟨rfl, rfl⟩
 refine ⟨_, _, rfl, rfl, ?_⟩
 refine Ea (Ej rfl) (s_opN (o_stC rfl rfl rfl rfl rfl rfl) (Ed (Ec (Eb [2, 3] rfl (Ef (Eg (Ea (o_ldnC rfl rfl rfl) (s_opN (o_stnC rfl rfl rfl rfl rfl rfl rfl) (Ed (Ec (Eb [2] rfl ?_)))))))))))
 refine Ek ?_
 · refine retG_leaf [3] (.inr rfl) rfl rfl rfl rfl (show (List.range 0 ++ [3]).Nodup by decide) ?_
   exact ⟨rfl, rfl⟩
def Wrr.hit (w : Wrr) (req : List Bool) (i : Nat) : Bool := (req[((w.pos + ((i : Int) + 1)).tmod req.length).toNat]?).getD false
def Wrr.pick (w : Wrr) (c : Conf) (req : List Bool) : Wrr × Int := if w.ok c && decide (req.length = c.masters.length) then
    (if decide (0 < w.credit) && (req[w.pos.toNat]?).getD false then (⟨w.pos, IntKind.wrap .i64 (w.credit - 1)⟩, w.pos)
     else match (List.range req.length).find? (w.hit req) with
      | some i => (⟨(w.pos + ((i : Int) + 1)).tmod req.length, IntKind.wrap .i64 (c.turn ((w.pos + ((i : Int) + 1)).tmod req.length) - 1)⟩, (w.pos + ((i : Int) + 1)).tmod req.length)
      | none => (⟨w.pos, 0⟩, -1))
 else (w, -1)
def cur (code : List Int) (i h : Int) : LB := .cell [.sl 1 (code.map uR), .w (.int .i64 i), .w (.int .i64 h)]
def Bucket.ok (b : Bucket) (m : MConf) : Bool := if m.prio then inB b.tokens 0 m.cap && decide (0 ≤ b.count) && decide (b.count < m.every) else decide (b.tokens = 0) && decide (b.count = 0)
def Bucket.take (b : Bucket) (m : MConf) : Bucket × Bool := if m.prio && b.ok m && decide (b.tokens ≠ 0) then (⟨b.tokens - 1, b.count⟩, true) else (b, false)
def Bucket.back (b : Bucket) (m : MConf) : Bucket := if m.prio && b.ok m && decide (b.tokens < m.cap) then ⟨b.tokens + 1, b.count⟩ else b
def MConf.most (m : MConf) (n : Int) : Int := if m.prio = true ∧ 1 ≤ m.every ∧ 0 ≤ m.cap ∧ inB n 0 4000 = true then m.cap + n.tdiv m.every + 1 else 0
def Script.fit (s : Script) : Prop := s.posts.length ≤ 6 ∧ (∀ p, p ∈ s.posts → p.req.data.length ≤ 16) ∧ (s.waits.length ≤ 6 ∧ ∀ y, y ∈ s.waits → 0 ≤ y ∧ y ≤ 16) ∧ s.says.length ≤ 6 ∧ ∀ y, y ∈ s.says → 0 ≤ y ∧ y ≤ 16
def byteB (v : Int) : Bool := inB v 0 255
def wordB (v : Int) : Bool := inB v 0 (limit 2 - 1)
def Dev.ok (d : Dev) : Bool := decide ((d.regs.length : Int) = 4) && decide ((d.fifo.length : Int) ≤ 4) && d.regs.all wordB && d.fifo.all wordB && wordB d.timer
def Model.ok (m : Model) : Bool := decide ((m.ram.length : Int) = 192) && m.ram.all byteB && m.dev.ok
def liveL (b : Bus) : List Beat := [b.addr, b.data].filter (fun x => x.live)
def Beat.none : Beat := ⟨false, 0, 0, false, 0, 0, 0, false⟩
def cntW (l : List Beat) (i : Nat) : Int := ((l.filter (fun x : Beat => decide (x.who = (i : Int)))).length : Int)
def fl (b : Bus) (j : Nat) : List (List V) := (List.range b.ms.length).map (fun i => iR (cntW ((liveL b).take j) i))
theorem take_snoc {α : Type} (r : α → List V) {xs : List α} {i : Nat} {y : α} (h : xs[i]? = some y) : (xs.take (i + 1)).map r = (xs.take i).map r ++ [r y] := by
 rw [take_get h, List.map_append]; rfl
theorem take_all {α : Type} {xs : List α} {i : Nat} (h : xs.length ≤ i) : xs.take i = xs := List.take_of_length_le h
theorem cg_253 (xs : List Int) (hl : xs.length ≤ 1048576) : GV prg 253 [] [.sl 1 (xs.map iR)] (fun u L1 => u = .ls 0 xs.length ∧ L1 = [.arr 1 (xs.map iR)]) := by
 refine gv_in g253 (Eb [0] rfl (Ef (Eg (Ea (Ee rfl) (Ed (Ec (Eb [0] rfl (Ef (Ef (Eg (Ea (Ee rfl) ?_)))))))))))
 refine s_eqnilS rfl ?_ ?_
 refine Ed (Ec (Eb [0, 4] rfl (s_condF rfl (Ey (Ec (Eb [0] rfl (Ef (Eg (Ea (o_bs rfl rfl rfl rfl) (Ea (Ee rfl) ?_))))))))))
 first | refine Ea (o_appL rfl rfl rfl rfl rfl rfl rfl (by simp [roomy]; omega)) ?_ | refine Ea (o_app rfl rfl rfl rfl rfl (by simp [roomy]; omega)) ?_
 refine Ea (Ee rfl) (Ed (Ec (Eb [2] rfl ?_)))
 first | refine s_nil 2 1 rfl ⟨rfl, rfl⟩ rfl ?_ | skip
 refine Ek ?_
 · refine retG_leaf [0] (.inr rfl) rfl rfl rfl rfl (show (List.range 0 ++ [0]).Nodup by decide) ?_
   first | (have : xs = [] := List.map_eq_nil_iff.1 hnil
            subst this; exact ⟨rfl, rfl⟩) | exact ⟨by simp, rfl⟩
 intro hnil
 refine Ed (Ec (Eb [0, 4] rfl (s_condT rfl (Ef (Eg (Ea (Ee rfl) (Ed (Ec (Eb [2] rfl ?_)))))))))
 first | refine s_nil 2 1 rfl ⟨rfl, rfl⟩ rfl ?_ | skip
 refine Ek (Ep ?_)
 · refine retG_leaf [0] (.inr rfl) rfl rfl rfl rfl (show (List.range 0 ++ [0]).Nodup by decide) ?_
   first | (have : xs = [] := List.map_eq_nil_iff.1 hnil
            subst this; exact ⟨rfl, rfl⟩) | exact ⟨by simp, rfl⟩
theorem c_100 (x : Req) (hs : x.small) : CV prg 100 [.agg x.r] (fun res => res = .agg x.r) := by
 refine cv_in g100 (Eb [0] rfl (Ef (Eg (Ea (o_box rfl rfl rfl) (Ea (o_new rfl rfl) (Ed (Ec (Eb [1, 2] rfl (Ef (Eg (Ea (Ej rfl) ?_)))))))))))
 refine Ea (Er rfl rfl rfl) (s_callG [] rfl rfl rfl rfl (by simp) (.inl rfl) (cg_253 _ hs) ?_)
 rintro u L1 ⟨rfl, rfl⟩
 refine ⟨_, _, rfl, rfl, ?_⟩
 refine Ea (Ej rfl) (s_opN (o_stC rfl rfl rfl rfl rfl rfl) (Ed (Ec (Eb [1, 2] rfl (Ef (Eg (Ea (o_ldnC rfl rfl rfl) (s_opN (o_stnC rfl rfl rfl rfl rfl rfl rfl) (Ed (Ec (Eb [2] rfl ?_)))))))))))
 refine Ek ?_
 · refine ret_leafA (.inr rfl) rfl rfl (by simp) ?_
   rfl
theorem c_374 (x : Req) (hs : x.small) : CV prg 374 [.agg x.r] (fun res => res = .agg x.r) := by
 have hd : x.data.length ≤ 1048576 := hs
 refine cv_in g374 (Eb [0] rfl (Ef (Eg (Ea (o_box rfl rfl rfl) (Ea (o_new rfl rfl) (Ed (Ec (Eb [1, 2] rfl (Ef (Eg (Ea (o_bs rfl rfl rfl rfl) ?_)))))))))))
 refine Ea (Ej rfl) (Ea (Er rfl rfl rfl) ?_)
 first | refine Ea (o_appL rfl rfl rfl rfl rfl rfl rfl (by simp [roomy]; omega)) ?_ | refine Ea (o_app rfl rfl rfl rfl rfl (by simp [roomy]; omega)) ?_
 refine Ea (Ej rfl) (s_opN (o_stC rfl rfl rfl rfl rfl rfl) (Ed (Ec (Eb [1, 2] rfl (Ef (Eg (Ea (o_ldnC rfl rfl rfl) (s_opN (o_stnC rfl rfl rfl rfl rfl rfl rfl) (Ed (Ec (Eb [2] rfl ?_)))))))))))
 refine Ek ?_
 · refine ret_leafA (.inr rfl) rfl rfl (by simp) ?_
   rfl
theorem cg_99 (m : Mst) (hs : m.small) : GV prg 99 [] [.agg m.r] (fun u L1 => u = .agg [.ls 0 m.queue.length, .w (.int .i64 m.beat), .w (.int .i64 m.done), .w (.int .i64 m.tries), .w (.bool m.parted), .w (.bool m.broken)] ∧ L1 = [.arr 6 (m.queue.map Req.r)]) := by
 have hq := hs.1
 have hqs := hs.2
 refine gv_in g99 (Eb [0] rfl (Ef (Eg (Ea (o_box rfl rfl rfl) (Ea (o_new rfl rfl) (Ed (Ec (Eb [1, 2] rfl (Ef (Eg (Ea (o_bs rfl rfl rfl rfl) ?_)))))))))))
 refine Ea (Ee rfl) (Ed (Ec (Eb [1, 2, 3] rfl (Ef (Ef (Eg (Ea (Ej rfl) (Ea (Er rfl rfl rfl) ?_))))))))
 first | refine Ea (o_lenM rfl) ?_ | refine Ea (o_len rfl) ?_ | refine Ea (o_lenL rfl rfl rfl) ?_ | refine Ea (o_lenN rfl) ?_
 refine Ea (Ee rfl) (Ed (Ec (Eb [1, 2, 3, 8, 9, 10] rfl (S_block (S_loop (ι := Nat) (fun i => i ≤ m.queue.length) (fun i => [(10, .w (.int .i64 (i : Int))), (3, .ls 2 ((m.queue.take i).map Req.r).length)]) (fun i => [.cell m.r, .cell [.w (.slice none 0 0), .w (.int .i64 0), .w (.int .i64 0), .w (.int .i64 0), .w (.bool false), .w (.bool false)], .arr 6 ((m.queue.take i).map Req.r)]) (fun i => m.queue.length - i) 3 0 (by simp) rfl (hasOf ⟨rfl, rfl, trivial⟩ rfl) rfl (fun _ _ => rfl) (fun _ _ => ⟨rfl, rfl⟩) ?_)))))
 intro i hi
 have hml : (m.queue.take i).length ≤ i := by rw [List.length_take]; omega
 refine Eb [1, 2, 3, 8, 9, 10] rfl (Ef (Eg (Ea (o_lss rfl rfl) (Ed (Ec (Eb [1, 2, 3, 8, 9, 10, 11] rfl (Ef ?_)))))))
 first | refine Ev rfl ?_ ?_ | refine Eo rfl ?_ ?_
 intro h1
 try rw [nnp] at h1
 refine Ey (Ec (Eb [1, 2, 3, 8, 9, 10] rfl (Ef (S_block (Ef (Eg (s_iaM rfl rfl (by omega) ?_)))))))
 intro y2 e2
 try simp only [Int.toNat_natCast, Int.toNat_zero] at e2
 refine Ea (o_ldn rfl rfl) (Ea (o_new rfl rfl) (s_opN (o_stnC rfl rfl rfl rfl rfl rfl rfl) (Ed (Ec (Eb [1, 2, 3, 5, 8, 9, 10] rfl (Eg (Ea (Ee rfl) (Ea (o_ldnC rfl rfl rfl) ?_))))))))
 first | refine s_call rfl rfl (c_100 _ (hqs _ (List.mem_of_getElem? (by assumption)))) ?_ | refine s_callL rfl rfl (by simp) (c_100 _ (hqs _ (List.mem_of_getElem? (by assumption)))) rfl ?_
 refine Ea (o_bs rfl rfl rfl rfl) ?_
 first | refine Ea (o_appL rfl rfl rfl rfl rfl rfl rfl (by simp [roomy]; omega)) ?_ | refine Ea (o_app rfl rfl rfl rfl rfl (by simp [roomy]; omega)) ?_
 refine Ea (Ee rfl) (Ed (q_blkN (Ec (Eb [1, 2, 3, 8, 9, 10] rfl (Eg ?_)))))
 first | refine Ea (o_addn rfl rfl (by omega)) ?_ | refine Ea (o_add rfl rfl) ?_
 refine Ea (Ee rfl) (Ed (q_loopN ?_))
 · refine ⟨i + 1, by omega, by omega, hasOf ⟨rfl, ?_, trivial⟩ ?_⟩ <;> rw [take_snoc _ (by assumption)] <;> rfl
 intro h1
 try rw [nnp] at h1
 refine s_exit (q_seqX (q_loopX (q_blkH (Ec (Eb [1, 2, 3] rfl (Ef (Eg (Ea (Ee rfl) (Ea (Ej rfl) (s_opN (o_stC rfl rfl rfl rfl rfl rfl) (Ed ?_)))))))))))
 refine Ec (Eb [1, 2] rfl (Ef (Eg (Ea (o_ldnC rfl rfl rfl) (s_opN (o_stnC rfl rfl rfl rfl rfl rfl rfl) (Ed (Ec (Eb [2] rfl (Ek ?_)))))))))
 · refine retG_leaf [2] (.inr rfl) rfl rfl rfl rfl (show (List.range 0 ++ [2]).Nodup by decide) ?_
   rw [take_all (show m.queue.length ≤ i by omega)]; exact ⟨by simp, rfl⟩
theorem cg_373 (m : Mst) (hs : m.small) : GV prg 373 [] [.agg m.r] (fun u L1 => u = .agg [.ls 0 m.queue.length, .w (.int .i64 m.beat), .w (.int .i64 m.done), .w (.int .i64 m.tries), .w (.bool m.parted), .w (.bool m.broken)] ∧ L1 = [.arr 6 (m.queue.map Req.r)]) := by
 have hq := hs.1
 have hqs := hs.2
 refine gv_in g373 (Eb [0] rfl (Ef (Eg (Ea (o_box rfl rfl rfl) (Ea (o_new rfl rfl) (Ed (Ec (Eb [1, 2] rfl (Ef (Eg (Ea (o_bs rfl rfl rfl rfl) ?_)))))))))))
 refine Ea (Ee rfl) (Ed (Ec (Eb [1, 2, 3] rfl (Ef (Ef (Eg (Ea (Ee rfl) (Ed (Ec (Eb [1, 2, 3, 4] rfl (S_block ?_)))))))))))
 refine S_loop (ι := Nat) (fun i => i ≤ m.queue.length) (fun i => [(4, .w (.int .i64 (i : Int))), (3, .ls 2 ((m.queue.take i).map Req.r).length)]) (fun i => [.cell m.r, .cell [.w (.slice none 0 0), .w (.int .i64 0), .w (.int .i64 0), .w (.int .i64 0), .w (.bool false), .w (.bool false)], .arr 6 ((m.queue.take i).map Req.r)]) (fun i => m.queue.length - i) 3 0 (by simp) rfl (hasOf ⟨rfl, rfl, trivial⟩ rfl) rfl (fun _ _ => rfl) (fun _ _ => ⟨rfl, rfl⟩) ?_
 intro i hi
 have hml : (m.queue.take i).length ≤ i := by rw [List.length_take]; omega
 refine Eb [1, 2, 3, 4] rfl (Ef (Ef (Eg (Ea (Ee rfl) (Ea (Ej rfl) (Ea (Er rfl rfl rfl) ?_))))))
 first | refine Ea (o_lenM rfl) ?_ | refine Ea (o_len rfl) ?_ | refine Ea (o_lenL rfl rfl rfl) ?_ | refine Ea (o_lenN rfl) ?_
 refine Ea (o_lss rfl rfl) (Ed (Ec (Eb [1, 2, 3, 4, 10] rfl ?_)))
 first | refine Ev rfl ?_ ?_ | refine Eo rfl ?_ ?_
 intro h1
 try rw [nnp] at h1
 refine Ey (Ec (Eb [1, 2, 3, 4] rfl (Ef (S_block (Eg (Ea (Ee rfl) (Ea (Ej rfl) (Ea (Er rfl rfl rfl) (Ea (Ee rfl) (s_iaM rfl rfl (by omega) ?_))))))))))
 intro y2 e2
 try simp only [Int.toNat_natCast, Int.toNat_zero] at e2
 refine Ea (o_ldn rfl rfl) ?_
 first | refine s_call rfl rfl (c_374 _ (hqs _ (List.mem_of_getElem? (by assumption)))) ?_ | refine s_callL rfl rfl (by simp) (c_374 _ (hqs _ (List.mem_of_getElem? (by assumption)))) rfl ?_
 refine Ea (o_bs rfl rfl rfl rfl) ?_
 first | refine Ea (o_appL rfl rfl rfl rfl rfl rfl rfl (by simp [roomy]; omega)) ?_ | refine Ea (o_app rfl rfl rfl rfl rfl (by simp [roomy]; omega)) ?_
 refine Ea (Ee rfl) (Ed (q_blkN (Ec (Eb [1, 2, 3, 4] rfl (Eg (Ea (Ee rfl) ?_))))))
 first | refine Ea (o_addn rfl rfl (by omega)) ?_ | refine Ea (o_add rfl rfl) ?_
 refine Ea (Ee rfl) (Ed (q_loopN ?_))
 · refine ⟨i + 1, by omega, by omega, hasOf ⟨rfl, ?_, trivial⟩ ?_⟩ <;> rw [take_snoc _ (by assumption)] <;> rfl
 intro h1
 try rw [nnp] at h1
 refine s_exit (q_seqX (q_loopX (q_blkH (Ec (Eb [1, 2, 3] rfl (Ef (Eg (Ea (Ee rfl) (Ea (Ej rfl) (s_opN (o_stC rfl rfl rfl rfl rfl rfl) (Ed ?_)))))))))))
 refine Ec (Eb [1, 2] rfl (Ef (Eg (Ea (o_ldnC rfl rfl rfl) (s_opN (o_stnC rfl rfl rfl rfl rfl rfl rfl) (Ed (Ec (Eb [2] rfl (Ek ?_)))))))))
 · refine retG_leaf [2] (.inr rfl) rfl rfl rfl rfl (show (List.range 0 ++ [2]).Nodup by decide) ?_
   rw [take_all (show m.queue.length ≤ i by omega)]; exact ⟨by simp, rfl⟩
def Mst.backC (m : Mst) : Bool := m.right && decide (m.beat ≠ m.done)
def Mst.back (m : Mst) : Mst × Bool := if m.backC then (⟨m.queue, m.beat - 1, m.done, m.tries, m.parted, m.broken⟩, true) else (m, false)
theorem right_bd {m : Mst} (h : m.right = true) : 0 ≤ m.done ∧ m.done ≤ 8 ∧ 0 ≤ m.beat ∧ m.beat ≤ 8 ∧ m.done ≤ m.beat := by
 have hb := m.beats_bd
 simp only [Mst.right, Bool.and_eq_true] at h
 have h2 := h.2
 split at h2
 · simp only [Bool.and_eq_true, decide_eq_true_eq] at h2
   omega
 · simp only [Bool.and_eq_true] at h2
   have h3 := inB_t h2.1
   have h4 := inB_t h2.2
   omega
theorem wants_bd {m : Mst} (h : (m.right && decide (m.beat < m.beats)) = true) : m.right = true ∧ 0 ≤ m.done ∧ m.done ≤ 8 ∧ 0 ≤ m.beat ∧ m.beat ≤ 8 ∧ m.done ≤ m.beat := by
 rw [Bool.and_eq_true] at h
 exact ⟨h.1, right_bd h.1⟩
def Mst.finC (m : Mst) : Bool := m.right && decide (m.beat ≠ m.done)
def Mst.fin (m : Mst) : Mst × Bool := if m.finC then (if m.done + 1 = m.beats then (⟨m.queue.drop 1, 0, 0, 0, false, false⟩, true) else (⟨m.queue, m.beat, m.done + 1, 0, false, m.broken⟩, true)) else (m, false)
theorem m_fin_no {m : Mst} (h : m.finC = false) : m.fin = (m, false) := by unfold Mst.fin; rw [h]; rfl
theorem m_fin_last {m : Mst} (h : m.finC = true ∧ m.done + 1 = m.beats) : m.fin = (⟨m.queue.drop 1, 0, 0, 0, false, false⟩, true) := by unfold Mst.fin; rw [h.1, if_pos rfl, if_pos h.2]
theorem m_fin_yes {m : Mst} (h : m.finC = true ∧ ¬ m.done + 1 = m.beats) : m.fin = (⟨m.queue, m.beat, m.done + 1, 0, false, m.broken⟩, true) := by unfold Mst.fin; rw [h.1, if_pos rfl, if_neg h.2]
theorem take_map_len {α : Type} (r : α → List V) (xs : List α) : (xs.map r).take xs.length = xs.map r := List.take_of_length_le (by simp)
theorem c_18b (m : Mst) (d : Int) : CV prg 18 [.rp (Mst.r ⟨m.queue, m.beat, d, m.tries, m.parted, m.broken⟩) 0] (fun v => v = .w (.int .i64 m.beats)) := c_18 ⟨m.queue, m.beat, d, m.tries, m.parted, m.broken⟩
theorem right_q {m : Mst} (h : m.right = true) (hne : ¬ m.beat = m.done) : 1 ≤ m.queue.length := by
 simp only [Mst.right, Bool.and_eq_true] at h
 have h2 := h.2
 split at h2
 · simp only [Bool.and_eq_true, decide_eq_true_eq] at h2
   omega
 · omega
def Mst.postC (m : Mst) (x : Req) : Bool := m.right && x.ok && decide (¬ (m.queue.length : Int) = 4)
def Mst.post (m : Mst) (x : Req) : Mst × Bool := if m.postC x then (⟨m.queue ++ [x], m.beat, m.done, m.tries, m.parted, m.broken⟩, true) else (m, false)
theorem c_56 (m : Mst) (hs : m.small) : CV prg 56 [.agg m.r] (fun res => res = .tup [.agg m.fin.1.r, .w (.bool m.fin.2)]) := by
 have hq := hs.1
 refine cv_in g56 (Eb [0] rfl (Ef (Eg (Ea (o_box rfl rfl rfl) (Ea (o_new rfl rfl) (Ea (Ee rfl) (Ed (Ec (Eb [1, 2] rfl (Ef (Eg ?_)))))))))))
 refine Ea (o_ldnC rfl rfl rfl) (s_callG [] rfl rfl rfl rfl (by simp) (.inl rfl) (cg_99 _ hs) ?_)
 rintro u L1 ⟨rfl, rfl⟩
 refine ⟨_, _, rfl, rfl, ?_⟩
 refine Ea (o_new rfl rfl) (s_opN (o_stnC rfl rfl rfl rfl rfl rfl rfl) (Ed (Ec (Eb [1, 2, 4] rfl (Ef (Ef (Eg (Ea (o_ldnC rfl rfl rfl) ?_))))))))
 first | refine s_call rfl rfl (c_88 _ hs) ?_ | refine s_callL rfl rfl (by simp) (c_88 _ hs) rfl ?_
 refine Ea (o_not rfl) (Ea (Ee rfl) ?_)
 first | refine s_gDF rfl ?_ ?_ | refine s_gNDF rfl ?_ ?_ | refine s_gNF rfl ?_ ?_ | refine s_gB rfl ?_ ?_
 intro h1
 try rw [nnp] at h1
 try have h1' := right_bd h1
 try have h1' := wants_bd h1
 try have h1' := right_q (by assumption) h1
 refine Ea (Ej rfl) (s_gT rfl (Ea (Er rfl rfl rfl) (s_gT rfl (Ea (Ej rfl) (s_gT rfl (Ea (Er rfl rfl rfl) (s_gT rfl (Ea (o_eql rfl rfl) (Ea (Fa rfl rfl) (Ed (Ec ?_)))))))))))
 refine Eb [2, 4, 16] rfl ?_
 first | refine Ev rfl ?_ ?_ | refine Eo rfl ?_ ?_
 intro h2
 try rw [nnp] at h2
 try have h2' := right_bd h2
 try have h2' := wants_bd h2
 try have h2' := right_q (by assumption) h2
 refine Ef (Eg (Ea (o_ldnC rfl rfl rfl) (s_opN (o_stnC rfl rfl rfl rfl rfl rfl rfl) (Ea (Ee rfl) (Ed (Ec (Eb [2, 3] rfl (Ek (Ep ?_)))))))))
 · refine ret_leafA (.inr rfl) rfl rfl (by simp) ?_
   first | (refine (Eq.trans (congrArg (fun p : Mst × Bool => V.tup [.agg p.1.r, .w (.bool p.2)]) (m_fin_no (m := m) ?_)) rfl).symm; clear hs; unfold Mst.finC; clear hq; generalize m.right = r at *; generalize m.beats = n at *; generalize m.beat = b at *; generalize m.done = d at *; first | (simp_all; done) | (simp_all; omega) | (cases r <;> simp_all <;> intros <;> omega)) | (refine (Eq.trans (congrArg (fun p : Mst × Bool => V.tup [.agg p.1.r, .w (.bool p.2)]) (m_fin_yes (m := m) ?_)) rfl).symm; clear hs; unfold Mst.finC; clear hq; generalize m.right = r at *; generalize m.beats = n at *; generalize m.beat = b at *; generalize m.done = d at *; first | (simp_all; done) | (simp_all; omega) | (cases r <;> simp_all <;> intros <;> omega)) | (refine (Eq.trans (congrArg (fun p : Mst × Bool => V.tup [.agg p.1.r, .w (.bool p.2)]) (m_fin_last (m := m) ?_)) (by simp [Mst.r, List.map_drop, take_map_len])).symm; clear hs; unfold Mst.finC; clear hq; generalize m.right = r at *; generalize m.beats = n at *; generalize m.beat = b at *; generalize m.done = d at *; first | (simp_all; done) | (simp_all; omega) | (cases r <;> simp_all <;> intros <;> omega))
 intro h2
 try rw [nnp] at h2
 try have h2' := right_bd h2
 try have h2' := wants_bd h2
 try have h2' := right_q (by assumption) h2
 refine Ey (Ec (Eb [2, 4] rfl (Ef (Eg (Ea (Ej rfl) (Ea (Er rfl rfl rfl) ?_))))))
 first | refine Ea (o_addn rfl rfl (by omega)) ?_ | refine Ea (o_add rfl rfl) ?_
 refine Ea (Ej rfl) (s_opN (o_stC rfl rfl rfl rfl rfl rfl) (Ed (Ec (Eb [2, 4] rfl (Ef (Ef (Eg (Ea (Ej rfl) (Ea (Er rfl rfl rfl) (s_callL rfl rfl (by simp) (c_18b m (m.done + 1)) rfl (Ea (o_eql rfl rfl) ?_)))))))))))
 refine Ed (Ec (Eb [2, 4, 25] rfl ?_))
 first | refine Ev rfl ?_ ?_ | refine Eo rfl ?_ ?_
 intro h3
 try rw [nnp] at h3
 try have h3' := right_bd h3
 try have h3' := wants_bd h3
 try have h3' := right_q (by assumption) h3
 refine Ef (Eg (Ea (Ej rfl) (Ea (Er rfl rfl rfl) (s_cut rfl rfl (by simp) rfl rfl (by simp; omega) rfl rfl (Ea (o_bd rfl rfl) (s_opN (o_stnC rfl rfl rfl rfl rfl rfl rfl) (Ea (Ee rfl) (Ed (Ec (Eb [2, 3] rfl (Ek ?_)))))))))))
 refine Ep ?_
 · refine ret_leafA (.inr rfl) rfl rfl (by simp) ?_
   first | (refine (Eq.trans (congrArg (fun p : Mst × Bool => V.tup [.agg p.1.r, .w (.bool p.2)]) (m_fin_no (m := m) ?_)) rfl).symm; clear hs; unfold Mst.finC; clear hq; generalize m.right = r at *; generalize m.beats = n at *; generalize m.beat = b at *; generalize m.done = d at *; first | (simp_all; done) | (simp_all; omega) | (cases r <;> simp_all <;> intros <;> omega)) | (refine (Eq.trans (congrArg (fun p : Mst × Bool => V.tup [.agg p.1.r, .w (.bool p.2)]) (m_fin_yes (m := m) ?_)) rfl).symm; clear hs; unfold Mst.finC; clear hq; generalize m.right = r at *; generalize m.beats = n at *; generalize m.beat = b at *; generalize m.done = d at *; first | (simp_all; done) | (simp_all; omega) | (cases r <;> simp_all <;> intros <;> omega)) | (refine (Eq.trans (congrArg (fun p : Mst × Bool => V.tup [.agg p.1.r, .w (.bool p.2)]) (m_fin_last (m := m) ?_)) (by simp [Mst.r, List.map_drop, take_map_len])).symm; clear hs; unfold Mst.finC; clear hq; generalize m.right = r at *; generalize m.beats = n at *; generalize m.beat = b at *; generalize m.done = d at *; first | (simp_all; done) | (simp_all; omega) | (cases r <;> simp_all <;> intros <;> omega))
 intro h3
 try rw [nnp] at h3
 try have h3' := right_bd h3
 try have h3' := wants_bd h3
 try have h3' := right_q (by assumption) h3
 refine Ey (Ec (Eb [2, 4] rfl (Ef (Eg (Ea (Ej rfl) (s_opN (o_stC rfl rfl rfl rfl rfl rfl) (Ed (Ec (Eb [2, 4] rfl (Ef (Eg ?_)))))))))))
 refine Ea (Ej rfl) (s_opN (o_stC rfl rfl rfl rfl rfl rfl) (Ed (Ec (Eb [2, 4] rfl (Ef (Eg (Ea (o_ldnC rfl rfl rfl) (s_opN (o_stnC rfl rfl rfl rfl rfl rfl rfl) (Ea (Ee rfl) (Ed (Ec ?_)))))))))))
 refine Eb [2, 3] rfl (Ek ?_)
 · refine ret_leafA (.inr rfl) rfl rfl (by simp) ?_
   first | (refine (Eq.trans (congrArg (fun p : Mst × Bool => V.tup [.agg p.1.r, .w (.bool p.2)]) (m_fin_no (m := m) ?_)) rfl).symm; clear hs; unfold Mst.finC; clear hq; generalize m.right = r at *; generalize m.beats = n at *; generalize m.beat = b at *; generalize m.done = d at *; first | (simp_all; done) | (simp_all; omega) | (cases r <;> simp_all <;> intros <;> omega)) | (refine (Eq.trans (congrArg (fun p : Mst × Bool => V.tup [.agg p.1.r, .w (.bool p.2)]) (m_fin_yes (m := m) ?_)) rfl).symm; clear hs; unfold Mst.finC; clear hq; generalize m.right = r at *; generalize m.beats = n at *; generalize m.beat = b at *; generalize m.done = d at *; first | (simp_all; done) | (simp_all; omega) | (cases r <;> simp_all <;> intros <;> omega)) | (refine (Eq.trans (congrArg (fun p : Mst × Bool => V.tup [.agg p.1.r, .w (.bool p.2)]) (m_fin_last (m := m) ?_)) (by simp [Mst.r, List.map_drop, take_map_len])).symm; clear hs; unfold Mst.finC; clear hq; generalize m.right = r at *; generalize m.beats = n at *; generalize m.beat = b at *; generalize m.done = d at *; first | (simp_all; done) | (simp_all; omega) | (cases r <;> simp_all <;> intros <;> omega))
 intro h1
 try rw [nnp] at h1
 try have h1' := right_bd h1
 try have h1' := wants_bd h1
 try have h1' := right_q (by assumption) h1
 refine Eu rfl (Eu rfl (Eu rfl (Eu rfl (Eu rfl (Ea (o_pickT rfl rfl) (Ed (Ec (Eb [2, 4, 16] rfl (s_condT rfl (Ef (Eg ?_)))))))))))
 refine Ea (o_ldnC rfl rfl rfl) (s_opN (o_stnC rfl rfl rfl rfl rfl rfl rfl) (Ea (Ee rfl) (Ed (Ec (Eb [2, 3] rfl (Ek (Ep ?_)))))))
 · refine ret_leafA (.inr rfl) rfl rfl (by simp) ?_
   first | (refine (Eq.trans (congrArg (fun p : Mst × Bool => V.tup [.agg p.1.r, .w (.bool p.2)]) (m_fin_no (m := m) ?_)) rfl).symm; clear hs; unfold Mst.finC; clear hq; generalize m.right = r at *; generalize m.beats = n at *; generalize m.beat = b at *; generalize m.done = d at *; first | (simp_all; done) | (simp_all; omega) | (cases r <;> simp_all <;> intros <;> omega)) | (refine (Eq.trans (congrArg (fun p : Mst × Bool => V.tup [.agg p.1.r, .w (.bool p.2)]) (m_fin_yes (m := m) ?_)) rfl).symm; clear hs; unfold Mst.finC; clear hq; generalize m.right = r at *; generalize m.beats = n at *; generalize m.beat = b at *; generalize m.done = d at *; first | (simp_all; done) | (simp_all; omega) | (cases r <;> simp_all <;> intros <;> omega)) | (refine (Eq.trans (congrArg (fun p : Mst × Bool => V.tup [.agg p.1.r, .w (.bool p.2)]) (m_fin_last (m := m) ?_)) (by simp [Mst.r, List.map_drop, take_map_len])).symm; clear hs; unfold Mst.finC; clear hq; generalize m.right = r at *; generalize m.beats = n at *; generalize m.beat = b at *; generalize m.done = d at *; first | (simp_all; done) | (simp_all; omega) | (cases r <;> simp_all <;> intros <;> omega))
theorem c_356 (m : Mst) (hs : m.small) : CV prg 356 [.agg m.r] (fun res => res = .tup [.agg m.fin.1.r, .w (.bool m.fin.2)]) := by
 have hq := hs.1
 refine cv_in g356 (Eb [0] rfl (Ef (Eg (Ea (o_box rfl rfl rfl) (Ea (o_new rfl rfl) (Ea (Ee rfl) (Ed (Ec (Eb [1, 2] rfl (Ef (Eg ?_)))))))))))
 refine Ea (o_ldnC rfl rfl rfl) (s_callG [] rfl rfl rfl rfl (by simp) (.inl rfl) (cg_373 _ hs) ?_)
 rintro u L1 ⟨rfl, rfl⟩
 refine ⟨_, _, rfl, rfl, ?_⟩
 refine Ea (o_new rfl rfl) (s_opN (o_stnC rfl rfl rfl rfl rfl rfl rfl) (Ed (Ec (Eb [1, 2, 4] rfl (Ef (Ef (Eg (Ea (o_ldnC rfl rfl rfl) ?_))))))))
 first | refine s_call rfl rfl (c_221 _ (by assumption)) ?_ | refine s_callL rfl rfl (by simp) (c_221 _ (by assumption)) rfl ?_
 refine Ea (o_not rfl) (Ea (Ee rfl) ?_)
 first | refine s_gDF rfl ?_ ?_ | refine s_gNDF rfl ?_ ?_ | refine s_gNF rfl ?_ ?_ | refine s_gB rfl ?_ ?_
 intro h1
 try rw [nnp] at h1
 try have h1' := right_bd h1
 try have h1' := wants_bd h1
 try have h1' := right_q (by assumption) h1
 refine Ea (Ej rfl) (s_gT rfl (Ea (Er rfl rfl rfl) (s_gT rfl (Ea (Ej rfl) (s_gT rfl (Ea (Er rfl rfl rfl) (s_gT rfl (Ea (o_eql rfl rfl) (Ea (Fa rfl rfl) (Ed (Ec ?_)))))))))))
 refine Eb [1, 2, 4, 16] rfl ?_
 first | refine Ev rfl ?_ ?_ | refine Eo rfl ?_ ?_
 intro h2
 try rw [nnp] at h2
 try have h2' := right_bd h2
 try have h2' := wants_bd h2
 try have h2' := right_q (by assumption) h2
 refine Ef (Eg (Ea (o_ldnC rfl rfl rfl) (s_opN (o_stnC rfl rfl rfl rfl rfl rfl rfl) (Ea (Ee rfl) (Ed (Ec (Eb [2, 3] rfl (Ek (Ep ?_)))))))))
 · refine ret_leafA (.inr rfl) rfl rfl (by simp) ?_
   first | (refine (Eq.trans (congrArg (fun p : Mst × Bool => V.tup [.agg p.1.r, .w (.bool p.2)]) (m_fin_no (m := m) ?_)) rfl).symm; clear hs; unfold Mst.finC; clear hq; generalize m.right = r at *; generalize m.beats = n at *; generalize m.beat = b at *; generalize m.done = d at *; first | (simp_all; done) | (simp_all; omega) | (cases r <;> simp_all <;> intros <;> omega)) | (refine (Eq.trans (congrArg (fun p : Mst × Bool => V.tup [.agg p.1.r, .w (.bool p.2)]) (m_fin_yes (m := m) ?_)) rfl).symm; clear hs; unfold Mst.finC; clear hq; generalize m.right = r at *; generalize m.beats = n at *; generalize m.beat = b at *; generalize m.done = d at *; first | (simp_all; done) | (simp_all; omega) | (cases r <;> simp_all <;> intros <;> omega)) | (refine (Eq.trans (congrArg (fun p : Mst × Bool => V.tup [.agg p.1.r, .w (.bool p.2)]) (m_fin_last (m := m) ?_)) (by simp [Mst.r, List.map_drop, take_map_len])).symm; clear hs; unfold Mst.finC; clear hq; generalize m.right = r at *; generalize m.beats = n at *; generalize m.beat = b at *; generalize m.done = d at *; first | (simp_all; done) | (simp_all; omega) | (cases r <;> simp_all <;> intros <;> omega))
 intro h2
 try rw [nnp] at h2
 try have h2' := right_bd h2
 try have h2' := wants_bd h2
 try have h2' := right_q (by assumption) h2
 refine Ey (Ec (Eb [1, 2, 4] rfl (Ef (Eg (Ea (Ej rfl) (Ea (Er rfl rfl rfl) ?_))))))
 first | refine Ea (o_addn rfl rfl (by omega)) ?_ | refine Ea (o_add rfl rfl) ?_
 refine Ea (Ej rfl) (s_opN (o_stC rfl rfl rfl rfl rfl rfl) (Ed (Ec (Eb [1, 2, 4] rfl (Ef (Eg (Ea (Ej rfl) (s_opN (o_stC rfl rfl rfl rfl rfl rfl) (Ed (Ec (Eb [1, 2, 4] rfl ?_)))))))))))
 refine Ef (Eg (Ea (Ej rfl) (s_opN (o_stC rfl rfl rfl rfl rfl rfl) (Ed (Ec (Eb [1, 2, 4] rfl (Ef (Ef (Eg (Ea (Ej rfl) (Ea (Er rfl rfl rfl) ?_)))))))))))
 refine Ea (o_ldnC rfl rfl rfl) ?_
 first | refine s_call rfl rfl (c_220 _) ?_ | refine s_callL rfl rfl (by simp) (c_220 _) rfl ?_
 refine Ea (o_eql rfl rfl) (Ed (Ec (Eb [2, 4, 28] rfl ?_)))
 first | refine Ev rfl ?_ ?_ | refine Eo rfl ?_ ?_
 intro h3
 try rw [nnp] at h3
 try have h3' := right_bd h3
 try have h3' := wants_bd h3
 try have h3' := right_q (by assumption) h3
 refine Ef (Eg (Ea (Ej rfl) (Ea (Er rfl rfl rfl) (s_cut rfl rfl (by simp) rfl rfl (by simp; omega) rfl rfl (Ea (o_bd rfl rfl) (s_opN (o_stnC rfl rfl rfl rfl rfl rfl rfl) (Ea (Ee rfl) (Ed (Ec (Eb [2, 3] rfl (Ek ?_)))))))))))
 refine Ep ?_
 · refine ret_leafA (.inr rfl) rfl rfl (by simp) ?_
   first | (refine (Eq.trans (congrArg (fun p : Mst × Bool => V.tup [.agg p.1.r, .w (.bool p.2)]) (m_fin_no (m := m) ?_)) rfl).symm; clear hs; unfold Mst.finC; clear hq; generalize m.right = r at *; generalize m.beats = n at *; generalize m.beat = b at *; generalize m.done = d at *; first | (simp_all; done) | (simp_all; omega) | (cases r <;> simp_all <;> intros <;> omega)) | (refine (Eq.trans (congrArg (fun p : Mst × Bool => V.tup [.agg p.1.r, .w (.bool p.2)]) (m_fin_yes (m := m) ?_)) rfl).symm; clear hs; unfold Mst.finC; clear hq; generalize m.right = r at *; generalize m.beats = n at *; generalize m.beat = b at *; generalize m.done = d at *; first | (simp_all; done) | (simp_all; omega) | (cases r <;> simp_all <;> intros <;> omega)) | (refine (Eq.trans (congrArg (fun p : Mst × Bool => V.tup [.agg p.1.r, .w (.bool p.2)]) (m_fin_last (m := m) ?_)) (by simp [Mst.r, List.map_drop, take_map_len])).symm; clear hs; unfold Mst.finC; clear hq; generalize m.right = r at *; generalize m.beats = n at *; generalize m.beat = b at *; generalize m.done = d at *; first | (simp_all; done) | (simp_all; omega) | (cases r <;> simp_all <;> intros <;> omega))
 intro h3
 try rw [nnp] at h3
 try have h3' := right_bd h3
 try have h3' := wants_bd h3
 try have h3' := right_q (by assumption) h3
 refine Ey (Ec (Eb [2, 4] rfl (Ef (Eg (Ea (o_ldnC rfl rfl rfl) (s_opN (o_stnC rfl rfl rfl rfl rfl rfl rfl) (Ea (Ee rfl) (Ed (Ec (Eb [2, 3] rfl (Ek ?_)))))))))))
 · refine ret_leafA (.inr rfl) rfl rfl (by simp) ?_
   first | (refine (Eq.trans (congrArg (fun p : Mst × Bool => V.tup [.agg p.1.r, .w (.bool p.2)]) (m_fin_no (m := m) ?_)) rfl).symm; clear hs; unfold Mst.finC; clear hq; generalize m.right = r at *; generalize m.beats = n at *; generalize m.beat = b at *; generalize m.done = d at *; first | (simp_all; done) | (simp_all; omega) | (cases r <;> simp_all <;> intros <;> omega)) | (refine (Eq.trans (congrArg (fun p : Mst × Bool => V.tup [.agg p.1.r, .w (.bool p.2)]) (m_fin_yes (m := m) ?_)) rfl).symm; clear hs; unfold Mst.finC; clear hq; generalize m.right = r at *; generalize m.beats = n at *; generalize m.beat = b at *; generalize m.done = d at *; first | (simp_all; done) | (simp_all; omega) | (cases r <;> simp_all <;> intros <;> omega)) | (refine (Eq.trans (congrArg (fun p : Mst × Bool => V.tup [.agg p.1.r, .w (.bool p.2)]) (m_fin_last (m := m) ?_)) (by simp [Mst.r, List.map_drop, take_map_len])).symm; clear hs; unfold Mst.finC; clear hq; generalize m.right = r at *; generalize m.beats = n at *; generalize m.beat = b at *; generalize m.done = d at *; first | (simp_all; done) | (simp_all; omega) | (cases r <;> simp_all <;> intros <;> omega))
 intro h1
 try rw [nnp] at h1
 try have h1' := right_bd h1
 try have h1' := wants_bd h1
 try have h1' := right_q (by assumption) h1
 refine Eu rfl (Eu rfl (Eu rfl (Eu rfl (Eu rfl (Ea (o_pickT rfl rfl) (Ed (Ec (Eb [1, 2, 4, 16] rfl (s_condT rfl (Ef (Eg ?_)))))))))))
 refine Ea (o_ldnC rfl rfl rfl) (s_opN (o_stnC rfl rfl rfl rfl rfl rfl rfl) (Ea (Ee rfl) (Ed (Ec (Eb [2, 3] rfl (Ek (Ep ?_)))))))
 · refine ret_leafA (.inr rfl) rfl rfl (by simp) ?_
   first | (refine (Eq.trans (congrArg (fun p : Mst × Bool => V.tup [.agg p.1.r, .w (.bool p.2)]) (m_fin_no (m := m) ?_)) rfl).symm; clear hs; unfold Mst.finC; clear hq; generalize m.right = r at *; generalize m.beats = n at *; generalize m.beat = b at *; generalize m.done = d at *; first | (simp_all; done) | (simp_all; omega) | (cases r <;> simp_all <;> intros <;> omega)) | (refine (Eq.trans (congrArg (fun p : Mst × Bool => V.tup [.agg p.1.r, .w (.bool p.2)]) (m_fin_yes (m := m) ?_)) rfl).symm; clear hs; unfold Mst.finC; clear hq; generalize m.right = r at *; generalize m.beats = n at *; generalize m.beat = b at *; generalize m.done = d at *; first | (simp_all; done) | (simp_all; omega) | (cases r <;> simp_all <;> intros <;> omega)) | (refine (Eq.trans (congrArg (fun p : Mst × Bool => V.tup [.agg p.1.r, .w (.bool p.2)]) (m_fin_last (m := m) ?_)) (by simp [Mst.r, List.map_drop, take_map_len])).symm; clear hs; unfold Mst.finC; clear hq; generalize m.right = r at *; generalize m.beats = n at *; generalize m.beat = b at *; generalize m.done = d at *; first | (simp_all; done) | (simp_all; omega) | (cases r <;> simp_all <;> intros <;> omega))
end Go.Proofs.Ytdialnejieoelaa.AL
