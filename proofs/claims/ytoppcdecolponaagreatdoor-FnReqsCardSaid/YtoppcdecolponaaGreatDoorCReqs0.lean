/- What functions do with plain data, each by the form of its code. Printed by program. -/
import Derived.Test.YtoppcdecolponaaGreatDoorWa3
import Derived.Test.YtoppcdecolponaaGreatDoorIrReqs
namespace Go.Proofs.YtoppcdecolponaaGreatDoor.AL
open Go
set_option linter.unusedVariables false
set_option linter.unusedSimpArgs false
set_option maxRecDepth 4096
theorem c_230 (a b c : Int) : CV prg 230 [.w (.int .i64 a), .w (.int .i64 b), .w (.int .i64 c)] (fun res => res = .w (.bool (inB a b c))) := by
 refine cv_in g230 (Eb [0, 1, 2] rfl (Ef (Eg (Ea (Ee rfl) (Ed (Ec (Eb [0, 1, 2] rfl (Ef (Eg (Ea (Ee rfl) (Ea (Ee rfl) ?_)))))))))))
 refine Ea (o_geq rfl rfl) (Ea (Ee rfl) ?_)
 first | refine s_gDT rfl ?_ ?_ | refine s_gB rfl ?_ ?_
 intro h1
 try rw [nnp] at h1
 refine Ea (Ee rfl) (Ev rfl (Ea (Ee rfl) (Ev rfl (Ea (o_leq rfl rfl) (Ea (Er rfl rfl) (Ea (Ee rfl) (Ed (Ec (Eb [6] rfl (Ej (Eo rfl rfl ?_)))))))))))
 rotate_left
 intro h1
 try rw [nnp] at h1
 refine Eh rfl (Eh rfl (Eh rfl (Ea (En rfl rfl) (Ea (Ee rfl) (Ed (Ec (Eb [6] rfl (Ej (Eo rfl rfl ?_)))))))))
 rotate_left
 all_goals
  simp_all [inB] <;> omega
theorem c_103 (a b c : Int) : CV prg 103 [.w (.int .i64 a), .w (.int .i64 b), .w (.int .i64 c)] (fun res => res = .w (.bool (inB a b c))) := by
 refine cv_in g103 (Eb [0, 1, 2] rfl (Ef (Eg (Ea (Ee rfl) (Ed (Ec (Eb [0, 1, 2] rfl (Ef (Eg (Ea (Ee rfl) (Ea (Ee rfl) ?_)))))))))))
 refine Ea (o_leq rfl rfl) (Ea (Ee rfl) ?_)
 first | refine s_gDT rfl ?_ ?_ | refine s_gB rfl ?_ ?_
 intro h1
 try rw [nnp] at h1
 refine Ea (Ee rfl) (Ev rfl (Ea (Ee rfl) (Ev rfl (Ea (o_leq rfl rfl) (Ea (Er rfl rfl) (Ea (Ee rfl) (Ed (Ec (Eb [6] rfl (Ej (Eo rfl rfl ?_)))))))))))
 rotate_left
 intro h1
 try rw [nnp] at h1
 refine Eh rfl (Eh rfl (Eh rfl (Ea (En rfl rfl) (Ea (Ee rfl) (Ed (Ec (Eb [6] rfl (Ej (Eo rfl rfl ?_)))))))))
 rotate_left
 all_goals
  simp_all [inB] <;> omega
def Conf.small (x : Conf) : Prop := x.masters.length ≤ 1048576
def Conf.sz (x : Conf) : Nat := x.masters.length
theorem Conf.small_of {x : Conf} (h : x.sz ≤ 1048576) : x.small := by unfold Conf.small; unfold Conf.sz at h; omega
def Done.beq (x y : Done) : Bool := ((x.cycle == y.cycle) && ((x.who == y.who) && ((x.write == y.write) && ((x.addr == y.addr) && ((x.size == y.size) && ((x.value == y.value) && ((x.resp == y.resp) && true)))))))
theorem Done.of_beq {x y : Done} (h : Done.beq x y = true) : x = y := by
 cases x; cases y; simp_all [Done.beq]
theorem Done.no_beq {x y : Done} (h : Done.beq x y = false) : x ≠ y := by
 rintro rfl; simp [Done.beq] at h
theorem Done.beq_dec (x y : Done) : Done.beq x y = decide (x = y) := by
 cases h : Done.beq x y
 · exact (decide_eq_false (Done.no_beq h)).symm
 · exact (decide_eq_true (Done.of_beq h)).symm
def folOk (p : Done × Done) : Bool := (p.1.write == p.2.write) && decide (p.1.addr = p.2.addr) && decide (p.1.size = p.2.size) && !(p.1.write && decide (p.1.resp = 0) && decide (p.1.value ≠ p.2.value))
def follows (l w : List Done) : Bool := decide (l.length ≤ w.length) && (l.zip w).all folOk
def Req.small (x : Req) : Prop := x.data.length ≤ 1048576
def Req.sz (x : Req) : Nat := x.data.length
theorem Req.small_of {x : Req} (h : x.sz ≤ 1048576) : x.small := by unfold Req.small; unfold Req.sz at h; omega
def Mst.small (x : Mst) : Prop := x.queue.length ≤ 1048576 ∧ (∀ y, y ∈ x.queue → Req.small y)
def Mst.sz (x : Mst) : Nat := x.queue.length + sumL Req.sz x.queue
theorem Mst.small_of {x : Mst} (h : x.sz ≤ 1048576) : x.small := ⟨by unfold Mst.sz at h; omega, fun y hy => Req.small_of (by have := sumL_mem Req.sz hy; unfold Mst.sz at h; omega)⟩
theorem c_240 (xs ys : List Int) (hl : xs.length ≤ 1048576) : CV prg 240 [.sl 1 (xs.map iR), .sl 1 (ys.map iR)] (fun res => res = .w (.bool (decide (xs = ys)))) := by
 refine cv_in g240 (Eb [0, 1] rfl (Ef (Eg (Ea (Ee rfl) (Ed (Ec (Eb [0, 1] rfl (Ef (Ef (Eg (Ea (Ee rfl) ?_)))))))))))
 first | refine Ea (o_lenM rfl) ?_ | refine Ea (o_len rfl) ?_
 refine Ea (Ee rfl) ?_
 first | refine Ea (o_lenM rfl) ?_ | refine Ea (o_len rfl) ?_
 refine Ea (o_neq rfl rfl) (Ed (Ec (Eb [0, 1, 10] rfl ?_)))
 first | refine Em rfl ?_ ?_ | refine Ek rfl ?_ ?_
 intro h1
 try rw [nnp] at h1
 refine Ef (Eg (Ea (Ee rfl) (Ed (Ec (Eb [4] rfl (Ej (Eu (Eo rfl rfl ?_))))))))
 rotate_left
 intro h1
 try rw [nnp] at h1
 refine Et (Ec (Eb [0, 1] rfl (Ef (Ef (Eg (Ea (Ee rfl) (Ed (Ec (Eb [0, 1, 5] rfl (Fb (S_loop0 (ι := Nat) (fun i => i ≤ xs.length ∧ xs.take i = ys.take i ∧ xs.length = ys.length) (fun i => [(5, .w (.int .i64 (i : Int)))]) (fun i => xs.length - i) 0 ⟨by simp, by simp, by omega⟩ rfl ⟨rfl, trivial⟩ (fun _ _ => rfl) rfl ?_)))))))))))
 intro i hi
 refine Eb [0, 1, 5] rfl (Ef (Ef (Eg (Ea (Ee rfl) (Ea (Ee rfl) ?_)))))
 first | refine Ea (o_lenM rfl) ?_ | refine Ea (o_len rfl) ?_
 refine Ea (o_lss rfl rfl) (Ed (Ec (Eb [0, 1, 5, 14] rfl ?_)))
 first | refine Em rfl ?_ ?_ | refine Ek rfl ?_ ?_
 intro h2
 try rw [nnp] at h2
 refine Et (Ec (Eb [0, 1, 5] rfl (Ef (Fb (Ef (Eg (Ea (Ee rfl) (Ea (Ee rfl) (s_iaM rfl rfl (by omega) ?_)))))))))
 intro y3 e3
 try simp only [Int.toNat_natCast, Int.toNat_zero] at e3
 refine Ea (o_ld rfl rfl) (Ea (Ee rfl) (Ea (Ee rfl) (s_iaM rfl rfl (by omega) ?_)))
 intro y4 e4
 try simp only [Int.toNat_natCast, Int.toNat_zero] at e4
 refine Ea (o_ld rfl rfl) (Ea (o_neq rfl rfl) (Ed (Ec (Eb [0, 1, 5, 25] rfl ?_))))
 first | refine Em rfl ?_ ?_ | refine Ek rfl ?_ ?_
 intro h5
 try rw [nnp] at h5
 refine Ef (Eg (Ea (Ee rfl) (Ed (Ec (Eb [4] rfl (Ej (q_blkR (Eu (q_loopR (q_blkR (Eu ?_)))))))))))
 refine Eo rfl rfl ?_
 rotate_left
 intro h5
 try rw [nnp] at h5
 refine Et (q_blkN (Ec (Eb [0, 1, 5] rfl (Eg (Ea (Ee rfl) ?_)))))
 first | refine Ea (o_addn rfl rfl (by omega)) ?_ | refine Ea (o_add rfl rfl) ?_
 refine Ea (Ee rfl) (Ed (q_loopN ?_))
 · exact ⟨i + 1, ⟨by omega, eq_take (by assumption) (by assumption) hi.2.1 (by assumption), hi.2.2⟩, by omega, hasOf ⟨rfl, trivial⟩ rfl⟩
 intro h2
 try rw [nnp] at h2
 refine s_exit (q_seqX (q_loopX (q_blkH (Ec (Eb [] rfl (Ef (Eg (Ea (Ee rfl) (Ed (Ec (Eb [4] rfl ?_)))))))))))
 refine Ej (Eo rfl rfl ?_)
 rotate_left
 all_goals
  first | exact (decide_eq_false (ne_at (by assumption) (by assumption) (by assumption))).symm | exact (decide_eq_true (eq_end hi.2.1 (by omega) hi.2.2)).symm | exact (decide_eq_false (fun e => by subst e; simp_all)).symm
theorem c_264 (xs ys : List Int) (hl : xs.length ≤ 1048576) : CV prg 264 [.sl 1 (xs.map iR), .sl 1 (ys.map iR)] (fun res => res = .w (.bool (decide (xs = ys)))) := by
 refine cv_in g264 (Eb [0, 1] rfl (Ef (Eg (Ea (Ee rfl) (Ed (Ec (Eb [0, 1] rfl (Ef (Ef (Eg (Ea (Ee rfl) ?_)))))))))))
 first | refine Ea (o_lenM rfl) ?_ | refine Ea (o_len rfl) ?_
 refine Ea (Ee rfl) ?_
 first | refine Ea (o_lenM rfl) ?_ | refine Ea (o_len rfl) ?_
 refine Ea (o_neq rfl rfl) (Ed (Ec (Eb [0, 1, 10] rfl ?_)))
 first | refine Em rfl ?_ ?_ | refine Ek rfl ?_ ?_
 intro h1
 try rw [nnp] at h1
 refine Ef (Eg (Ea (Ee rfl) (Ed (Ec (Eb [4] rfl (Ej (Eu (Eo rfl rfl ?_))))))))
 rotate_left
 intro h1
 try rw [nnp] at h1
 refine Et (Ec (Eb [0, 1] rfl (Ef (Ef (Eg (Ea (Ee rfl) ?_))))))
 first | refine Ea (o_lenM rfl) ?_ | refine Ea (o_len rfl) ?_
 refine Ea (Ee rfl) (Ed (Ec (Eb [0, 1, 12, 13] rfl (Fb (S_loop0 (ι := Nat) (fun i => i ≤ xs.length ∧ xs.take i = ys.take i ∧ xs.length = ys.length) (fun i => [(13, .w (.int .i64 (i : Int)))]) (fun i => xs.length - i) 0 ⟨by simp, by simp, by omega⟩ rfl ⟨rfl, trivial⟩ (fun _ _ => rfl) rfl ?_)))))
 intro i hi
 refine Eb [0, 1, 12, 13] rfl (Ef (Eg (Ea (o_lss rfl rfl) (Ed (Ec (Eb [0, 1, 12, 13, 14] rfl (Ef ?_)))))))
 first | refine Em rfl ?_ ?_ | refine Ek rfl ?_ ?_
 intro h2
 try rw [nnp] at h2
 refine Et (Ec (Eb [0, 1, 12, 13] rfl (Ef (Fb (Ef (Eg (Ea (Ee rfl) (Ea (Ee rfl) (Ed (Ec (Eb [0, 1, 5, 12, 13] rfl ?_)))))))))))
 refine Ef (Eg (Ea (Ee rfl) (Ea (Ee rfl) (s_iaM rfl rfl (by omega) ?_))))
 intro y3 e3
 try simp only [Int.toNat_natCast, Int.toNat_zero] at e3
 refine Ea (o_ld rfl rfl) (Ea (Ee rfl) (Ea (Ee rfl) (s_iaM rfl rfl (by omega) ?_)))
 intro y4 e4
 try simp only [Int.toNat_natCast, Int.toNat_zero] at e4
 refine Ea (o_ld rfl rfl) (Ea (o_neq rfl rfl) (Ed (Ec (Eb [0, 1, 12, 13, 24] rfl ?_))))
 first | refine Em rfl ?_ ?_ | refine Ek rfl ?_ ?_
 intro h5
 try rw [nnp] at h5
 refine Ef (Eg (Ea (Ee rfl) (Ed (Ec (Eb [4] rfl (Ej (q_blkR (Eu (q_loopR (q_blkR (Eu ?_)))))))))))
 refine Eo rfl rfl ?_
 rotate_left
 intro h5
 try rw [nnp] at h5
 refine Et (q_blkN (Ec (Eb [0, 1, 12, 13] rfl (Eg ?_))))
 first | refine Ea (o_addn rfl rfl (by omega)) ?_ | refine Ea (o_add rfl rfl) ?_
 refine Ea (Ee rfl) (Ed (q_loopN ?_))
 · exact ⟨i + 1, ⟨by omega, eq_take (by assumption) (by assumption) hi.2.1 (by assumption), hi.2.2⟩, by omega, hasOf ⟨rfl, trivial⟩ rfl⟩
 intro h2
 try rw [nnp] at h2
 refine s_exit (q_seqX (q_loopX (q_blkH (Ec (Eb [] rfl (Ef (Eg (Ea (Ee rfl) (Ed (Ec (Eb [4] rfl ?_)))))))))))
 refine Ej (Eo rfl rfl ?_)
 rotate_left
 all_goals
  first | exact (decide_eq_false (ne_at (by assumption) (by assumption) (by assumption))).symm | exact (decide_eq_true (eq_end hi.2.1 (by omega) hi.2.2)).symm | exact (decide_eq_false (fun e => by subst e; simp_all)).symm
theorem c_71 (x y : Req) (hs : x.small) : CV prg 71 [.agg x.r, .agg y.r] (fun res => res = .w (.bool (decide (x = y)))) := by
 refine cv_in g71 (Eb [0, 1] rfl (Ef (Eg (Ea (o_box rfl rfl rfl) (Ea (o_box rfl rfl rfl) (Ea (Ee rfl) (Ed (Ec (Eb [2, 3] rfl (Ef (Eg ?_)))))))))))
 refine Ea (Ep rfl) (Ea (Ey rfl rfl rfl) (Ea (Ep rfl) (Ea (Ey rfl rfl rfl) (Ea (o_eqb rfl rfl) (Ea (Ee rfl) ?_)))))
 refine s_gB rfl ?_ ?_
 intro h1
 try rw [nnp] at h1
 refine Ea (Ep rfl) (Ev rfl (Ea (Ey rfl rfl rfl) (Ev rfl (Ea (Ep rfl) (Ev rfl (Ea (Ey rfl rfl rfl) (Ev rfl (Ea (o_eql rfl rfl) (Ea (Er rfl rfl) (Ea (Ee rfl) ?_))))))))))
 first | refine s_gDT rfl ?_ ?_ | refine s_gB rfl ?_ ?_
 intro h2
 try rw [nnp] at h2
 refine Ea (Ep rfl) (Fd (is := [2, 3, 17, 18]) rfl (Ev rfl (Ea (Ey rfl rfl rfl) (Ev rfl (Ea (Ep rfl) (Ev rfl (Ea (Ey rfl rfl rfl) (Ev rfl (Ea (o_eql rfl rfl) (Ea (Er rfl rfl) (Ea (Ee rfl) ?_)))))))))))
 first | refine s_gDT rfl ?_ ?_ | refine s_gB rfl ?_ ?_
 intro h3
 try rw [nnp] at h3
 refine Ea (Ep rfl) (Ev rfl (Ea (Ey rfl rfl rfl) (Ev rfl (Ea (Ep rfl) (Ev rfl (Ea (Ey rfl rfl rfl) (Ev rfl (Ea (o_eql rfl rfl) (Ea (Er rfl rfl) (Ea (Ee rfl) ?_))))))))))
 first | refine s_gDT rfl ?_ ?_ | refine s_gB rfl ?_ ?_
 intro h4
 try rw [nnp] at h4
 refine Ea (Ep rfl) (Fd (is := [2, 3, 31, 32]) rfl (Ev rfl (Ea (Ey rfl rfl rfl) (Ev rfl (Ea (Ep rfl) (Ev rfl (Ea (Ey rfl rfl rfl) (Ev rfl (Ea (o_eqb rfl rfl) (Ea (Er rfl rfl) (Ea (Ee rfl) ?_)))))))))))
 refine s_gB rfl ?_ ?_
 intro h5
 try rw [nnp] at h5
 refine Ea (Ep rfl) (Ev rfl (Ea (Ey rfl rfl rfl) (Ev rfl (Ea (Ep rfl) (Ev rfl (Ea (Ey rfl rfl rfl) (Ev rfl ?_)))))))
 first | refine Ew rfl rfl (c_264 _ _ hs) ?_ | refine Fa rfl rfl (by simp) (c_264 _ _ hs) rfl ?_
 refine Ea (Er rfl rfl) (Ea (Ee rfl) (Ed (Ec (Eb [4] rfl (Ej (Eo rfl rfl ?_))))))
 rotate_left
 intro h5
 try rw [nnp] at h5
 refine Eh rfl (Eh rfl (Eh rfl (Eh rfl (Eh rfl (Ea (En rfl rfl) (Ea (Ee rfl) (Ed (Ec (Eb [4] rfl (Ej (Eo rfl rfl ?_)))))))))))
 rotate_left
 intro h4
 try rw [nnp] at h4
 refine Eh rfl (Fd (is := [2, 3, 31, 32]) rfl (Eh rfl (Eh rfl (Eh rfl (Eh rfl (Ea (En rfl rfl) (Ea (Ee rfl) (Eh rfl (Eh rfl (Eh rfl (Eh rfl ?_)))))))))))
 refine Eh rfl (Ea (En rfl rfl) (Ea (Ee rfl) (Ed (Ec (Eb [4] rfl (Ej (Eo rfl rfl ?_)))))))
 rotate_left
 intro h3
 try rw [nnp] at h3
 refine Eh rfl (Eh rfl (Eh rfl (Eh rfl (Eh rfl (Ea (En rfl rfl) (Ea (Ee rfl) (Eh rfl (Fd (is := [2, 3, 31, 32]) rfl (Eh rfl (Eh rfl (Eh rfl ?_)))))))))))
 refine Eh rfl (Ea (En rfl rfl) (Ea (Ee rfl) (Eh rfl (Eh rfl (Eh rfl (Eh rfl (Eh rfl (Ea (En rfl rfl) (Ea (Ee rfl) (Ed (Ec ?_)))))))))))
 refine Eb [4] rfl (Ej (Eo rfl rfl ?_))
 rotate_left
 intro h2
 try rw [nnp] at h2
 refine Eh rfl (Fd (is := [2, 3, 17, 18]) rfl (Eh rfl (Eh rfl (Eh rfl (Eh rfl (Ea (En rfl rfl) (Ea (Ee rfl) (Eh rfl (Eh rfl (Eh rfl (Eh rfl ?_)))))))))))
 refine Eh rfl (Ea (En rfl rfl) (Ea (Ee rfl) (Eh rfl (Fd (is := [2, 3, 31, 32]) rfl (Eh rfl (Eh rfl (Eh rfl (Eh rfl (Ea (En rfl rfl) (Ea (Ee rfl) (Eh rfl ?_)))))))))))
 refine Eh rfl (Eh rfl (Eh rfl (Eh rfl (Ea (En rfl rfl) (Ea (Ee rfl) (Ed (Ec (Eb [4] rfl (Ej (Eo rfl rfl ?_))))))))))
 rotate_left
 intro h1
 try rw [nnp] at h1
 refine Eh rfl (Eh rfl (Eh rfl (Eh rfl (Eh rfl (Ea (En rfl rfl) (Ea (Ee rfl) (Eh rfl (Fd (is := [2, 3, 17, 18]) rfl (Eh rfl (Eh rfl (Eh rfl ?_)))))))))))
 refine Eh rfl (Ea (En rfl rfl) (Ea (Ee rfl) (Eh rfl (Eh rfl (Eh rfl (Eh rfl (Eh rfl (Ea (En rfl rfl) (Ea (Ee rfl) (Eh rfl (Fd (is := [2, 3, 31, 32]) rfl ?_)))))))))))
 refine Eh rfl (Eh rfl (Eh rfl (Eh rfl (Ea (En rfl rfl) (Ea (Ee rfl) (Eh rfl (Eh rfl (Eh rfl (Eh rfl (Eh rfl (Ea (En rfl rfl) ?_)))))))))))
 refine Ea (Ee rfl) (Ed (Ec (Eb [4] rfl (Ej (Eo rfl rfl ?_)))))
 rotate_left
 all_goals
  cases x; cases y; simp_all [bbeq]
theorem c_211 (x y : Req) (hs : x.small) : CV prg 211 [.agg x.r, .agg y.r] (fun res => res = .w (.bool (decide (x = y)))) := by
 refine cv_in g211 (Eb [0, 1] rfl (Ef (Eg (Ea (o_box rfl rfl rfl) (Ea (o_box rfl rfl rfl) (Ea (Ee rfl) (Ed (Ec (Eb [2, 3] rfl (Ef (Eg ?_)))))))))))
 refine Ea (Ep rfl) (Ea (Ey rfl rfl rfl) (Ea (Ep rfl) (Ea (Ey rfl rfl rfl) (Ea (o_eqb rfl rfl) (Ea (Ee rfl) ?_)))))
 refine s_gB rfl ?_ ?_
 intro h1
 try rw [nnp] at h1
 refine Ea (Ep rfl) (Ev rfl (Ea (Ey rfl rfl rfl) (Ev rfl (Ea (Ep rfl) (Ev rfl (Ea (Ey rfl rfl rfl) (Ev rfl (Ea (o_eql rfl rfl) (Ea (Er rfl rfl) (Ea (Ee rfl) ?_))))))))))
 first | refine s_gDT rfl ?_ ?_ | refine s_gB rfl ?_ ?_
 intro h2
 try rw [nnp] at h2
 refine Ea (Ep rfl) (Fd (is := [2, 3, 17, 18]) rfl (Ev rfl (Ea (Ey rfl rfl rfl) (Ev rfl (Ea (Ep rfl) (Ev rfl (Ea (Ey rfl rfl rfl) (Ev rfl (Ea (o_eql rfl rfl) (Ea (Er rfl rfl) (Ea (Ee rfl) ?_)))))))))))
 first | refine s_gDT rfl ?_ ?_ | refine s_gB rfl ?_ ?_
 intro h3
 try rw [nnp] at h3
 refine Ea (Ep rfl) (Ev rfl (Ea (Ey rfl rfl rfl) (Ev rfl (Ea (Ep rfl) (Ev rfl (Ea (Ey rfl rfl rfl) (Ev rfl (Ea (o_eql rfl rfl) (Ea (Er rfl rfl) (Ea (Ee rfl) ?_))))))))))
 first | refine s_gDT rfl ?_ ?_ | refine s_gB rfl ?_ ?_
 intro h4
 try rw [nnp] at h4
 refine Ea (Ep rfl) (Fd (is := [2, 3, 31, 32]) rfl (Ev rfl (Ea (Ey rfl rfl rfl) (Ev rfl (Ea (Ep rfl) (Ev rfl (Ea (Ey rfl rfl rfl) (Ev rfl (Ea (o_eqb rfl rfl) (Ea (Er rfl rfl) (Ea (Ee rfl) ?_)))))))))))
 refine s_gB rfl ?_ ?_
 intro h5
 try rw [nnp] at h5
 refine Ea (Ep rfl) (Ev rfl (Ea (Ey rfl rfl rfl) (Ev rfl (Ea (Ep rfl) (Ev rfl (Ea (Ey rfl rfl rfl) (Ev rfl ?_)))))))
 first | refine Ew rfl rfl (c_240 _ _ hs) ?_ | refine Fa rfl rfl (by simp) (c_240 _ _ hs) rfl ?_
 refine Ea (Er rfl rfl) (Ea (Ee rfl) (Ed (Ec (Eb [4] rfl (Ej (Eo rfl rfl ?_))))))
 rotate_left
 intro h5
 try rw [nnp] at h5
 refine Eh rfl (Eh rfl (Eh rfl (Eh rfl (Eh rfl (Ea (En rfl rfl) (Ea (Ee rfl) (Ed (Ec (Eb [4] rfl (Ej (Eo rfl rfl ?_)))))))))))
 rotate_left
 intro h4
 try rw [nnp] at h4
 refine Eh rfl (Fd (is := [2, 3, 31, 32]) rfl (Eh rfl (Eh rfl (Eh rfl (Eh rfl (Ea (En rfl rfl) (Ea (Ee rfl) (Eh rfl (Eh rfl (Eh rfl (Eh rfl ?_)))))))))))
 refine Eh rfl (Ea (En rfl rfl) (Ea (Ee rfl) (Ed (Ec (Eb [4] rfl (Ej (Eo rfl rfl ?_)))))))
 rotate_left
 intro h3
 try rw [nnp] at h3
 refine Eh rfl (Eh rfl (Eh rfl (Eh rfl (Eh rfl (Ea (En rfl rfl) (Ea (Ee rfl) (Eh rfl (Fd (is := [2, 3, 31, 32]) rfl (Eh rfl (Eh rfl (Eh rfl ?_)))))))))))
 refine Eh rfl (Ea (En rfl rfl) (Ea (Ee rfl) (Eh rfl (Eh rfl (Eh rfl (Eh rfl (Eh rfl (Ea (En rfl rfl) (Ea (Ee rfl) (Ed (Ec ?_)))))))))))
 refine Eb [4] rfl (Ej (Eo rfl rfl ?_))
 rotate_left
 intro h2
 try rw [nnp] at h2
 refine Eh rfl (Fd (is := [2, 3, 17, 18]) rfl (Eh rfl (Eh rfl (Eh rfl (Eh rfl (Ea (En rfl rfl) (Ea (Ee rfl) (Eh rfl (Eh rfl (Eh rfl (Eh rfl ?_)))))))))))
 refine Eh rfl (Ea (En rfl rfl) (Ea (Ee rfl) (Eh rfl (Fd (is := [2, 3, 31, 32]) rfl (Eh rfl (Eh rfl (Eh rfl (Eh rfl (Ea (En rfl rfl) (Ea (Ee rfl) (Eh rfl ?_)))))))))))
 refine Eh rfl (Eh rfl (Eh rfl (Eh rfl (Ea (En rfl rfl) (Ea (Ee rfl) (Ed (Ec (Eb [4] rfl (Ej (Eo rfl rfl ?_))))))))))
 rotate_left
 intro h1
 try rw [nnp] at h1
 refine Eh rfl (Eh rfl (Eh rfl (Eh rfl (Eh rfl (Ea (En rfl rfl) (Ea (Ee rfl) (Eh rfl (Fd (is := [2, 3, 17, 18]) rfl (Eh rfl (Eh rfl (Eh rfl ?_)))))))))))
 refine Eh rfl (Ea (En rfl rfl) (Ea (Ee rfl) (Eh rfl (Eh rfl (Eh rfl (Eh rfl (Eh rfl (Ea (En rfl rfl) (Ea (Ee rfl) (Eh rfl (Fd (is := [2, 3, 31, 32]) rfl ?_)))))))))))
 refine Eh rfl (Eh rfl (Eh rfl (Eh rfl (Ea (En rfl rfl) (Ea (Ee rfl) (Eh rfl (Eh rfl (Eh rfl (Eh rfl (Eh rfl (Ea (En rfl rfl) ?_)))))))))))
 refine Ea (Ee rfl) (Ed (Ec (Eb [4] rfl (Ej (Eo rfl rfl ?_)))))
 rotate_left
 all_goals
  cases x; cases y; simp_all [bbeq]
def roundStep (c : Conf) (s : Int) (i : Nat) : Int := IntKind.wrap .i64 (s + IntKind.wrap .i64 (c.turn i * c.slot))
def Conf.round (c : Conf) : Int := if c.ok then (List.range c.masters.length).foldl (roundStep c) (IntKind.wrap .i64 (c.cost * c.masters.length)) else 0
def Conf.bound (c : Conf) (beats : Int) : Int := if c.ok && inB beats 1 8 then
 IntKind.wrap .i64 (IntKind.wrap .i64 (IntKind.wrap .i64 (2 * IntKind.wrap .i64 (IntKind.wrap .i64 (beats * IntKind.wrap .i64 (IntKind.wrap .i64 (IntKind.wrap .i64 (2 * c.round) + c.maxSplit) + c.cost)) + c.caps)) + IntKind.wrap .i64 (2 * c.slot)) + 10) else 0
def Wrr.back (w : Wrr) (c : Conf) (who : Int) : Wrr := if w.ok c && decide (who = w.pos) then { w with credit := min (IntKind.wrap .i64 (w.credit + 1)) (c.turn who) } else w
def Post.small (x : Post) : Prop := x.req.small
def Post.sz (x : Post) : Nat := x.req.sz
theorem Post.small_of {x : Post} (h : x.sz ≤ 1048576) : x.small := Req.small_of (by unfold Post.sz at h; omega)
def Script.small (x : Script) : Prop := x.posts.length ≤ 1048576 ∧ (∀ y, y ∈ x.posts → Post.small y) ∧ x.waits.length ≤ 1048576 ∧ x.says.length ≤ 1048576
def Script.sz (x : Script) : Nat := x.posts.length + sumL Post.sz x.posts + x.waits.length + x.says.length
theorem Script.small_of {x : Script} (h : x.sz ≤ 1048576) : x.small := ⟨by unfold Script.sz at h; omega, fun y hy => Post.small_of (by have := sumL_mem Post.sz hy; unfold Script.sz at h; omega), by unfold Script.sz at h; omega, by unfold Script.sz at h; omega⟩
def Dev.small (x : Dev) : Prop := x.regs.length ≤ 1048576 ∧ x.fifo.length ≤ 1048576
def Dev.sz (x : Dev) : Nat := x.regs.length + x.fifo.length
theorem Dev.small_of {x : Dev} (h : x.sz ≤ 1048576) : x.small := ⟨by unfold Dev.sz at h; omega, by unfold Dev.sz at h; omega⟩
def Model.small (x : Model) : Prop := x.ram.length ≤ 1048576 ∧ x.dev.small
def Model.sz (x : Model) : Nat := x.ram.length + x.dev.sz
theorem Model.small_of {x : Model} (h : x.sz ≤ 1048576) : x.small := ⟨by unfold Model.sz at h; omega, Dev.small_of (by unfold Model.sz at h; omega)⟩
def Bus.small (x : Bus) : Prop := x.conf.small ∧ x.ms.length ≤ 1048576 ∧ (∀ y, y ∈ x.ms → Mst.small y) ∧ x.buckets.length ≤ 1048576 ∧ x.splits.length ≤ 1048576 ∧ x.model.small ∧ x.log.length ≤ 1048576
def Bus.sz (x : Bus) : Nat := x.conf.sz + x.ms.length + sumL Mst.sz x.ms + x.buckets.length + x.splits.length + x.model.sz + x.log.length
theorem Bus.small_of {x : Bus} (h : x.sz ≤ 1048576) : x.small := ⟨Conf.small_of (by unfold Bus.sz at h; omega), by unfold Bus.sz at h; omega, fun y hy => Mst.small_of (by have := sumL_mem Mst.sz hy; unfold Bus.sz at h; omega), by unfold Bus.sz at h; omega, by unfold Bus.sz at h; omega, Model.small_of (by unfold Bus.sz at h; omega), by unfold Bus.sz at h; omega⟩
def MConf.beq (x y : MConf) : Bool := ((x.weight == y.weight) && ((x.prio == y.prio) && ((x.every == y.every) && ((x.cap == y.cap) && true))))
theorem MConf.of_beq {x y : MConf} (h : MConf.beq x y = true) : x = y := by
 cases x; cases y; simp_all [MConf.beq]
theorem MConf.no_beq {x y : MConf} (h : MConf.beq x y = false) : x ≠ y := by
 rintro rfl; simp [MConf.beq] at h
theorem MConf.beq_dec (x y : MConf) : MConf.beq x y = decide (x = y) := by
 cases h : MConf.beq x y
 · exact (decide_eq_false (MConf.no_beq h)).symm
 · exact (decide_eq_true (MConf.of_beq h)).symm
def Bucket.beq (x y : Bucket) : Bool := ((x.tokens == y.tokens) && ((x.count == y.count) && true))
theorem Bucket.of_beq {x y : Bucket} (h : Bucket.beq x y = true) : x = y := by
 cases x; cases y; simp_all [Bucket.beq]
theorem Bucket.no_beq {x y : Bucket} (h : Bucket.beq x y = false) : x ≠ y := by
 rintro rfl; simp [Bucket.beq] at h
theorem Bucket.beq_dec (x y : Bucket) : Bucket.beq x y = decide (x = y) := by
 cases h : Bucket.beq x y
 · exact (decide_eq_false (Bucket.no_beq h)).symm
 · exact (decide_eq_true (Bucket.of_beq h)).symm
def Beat.beq (x y : Beat) : Bool := ((x.live == y.live) && ((x.who == y.who) && ((x.num == y.num) && ((x.first == y.first) && ((x.via == y.via) && ((x.left == y.left) && ((x.resp == y.resp) && ((x.second == y.second) && true))))))))
theorem Beat.of_beq {x y : Beat} (h : Beat.beq x y = true) : x = y := by
 cases x; cases y; simp_all [Beat.beq]
theorem Beat.no_beq {x y : Beat} (h : Beat.beq x y = false) : x ≠ y := by
 rintro rfl; simp [Beat.beq] at h
theorem Beat.beq_dec (x y : Beat) : Beat.beq x y = decide (x = y) := by
 cases h : Beat.beq x y
 · exact (decide_eq_false (Beat.no_beq h)).symm
 · exact (decide_eq_true (Beat.of_beq h)).symm
def Wrr.beq (x y : Wrr) : Bool := ((x.pos == y.pos) && ((x.credit == y.credit) && true))
theorem Wrr.of_beq {x y : Wrr} (h : Wrr.beq x y = true) : x = y := by
 cases x; cases y; simp_all [Wrr.beq]
theorem Wrr.no_beq {x y : Wrr} (h : Wrr.beq x y = false) : x ≠ y := by
 rintro rfl; simp [Wrr.beq] at h
theorem Wrr.beq_dec (x y : Wrr) : Wrr.beq x y = decide (x = y) := by
 cases h : Wrr.beq x y
 · exact (decide_eq_false (Wrr.no_beq h)).symm
 · exact (decide_eq_true (Wrr.of_beq h)).symm
structure Bus.parts (x y : Bus) : Prop where
 conf : x.conf = y.conf
 now : x.now = y.now
 ms : x.ms = y.ms
 arb : x.arb = y.arb
 buckets : x.buckets = y.buckets
 splits : x.splits = y.splits
 holder : x.holder = y.holder
 kept : x.kept = y.kept
 last : x.last = y.last
 addr : x.addr = y.addr
 data : x.data = y.data
 model : x.model = y.model
 picks : x.picks = y.picks
 log : x.log = y.log
def bytes (size : Int) : Int := if inB size 0 2 then (if size = 0 then 1 else if size = 1 then 2 else 4) else 0
def limit (size : Int) : Int := if inB size 0 2 then (if size = 0 then 256 else if size = 1 then 65536 else 4294967296) else 0
def beatsN (b : Int) : Int := if b = 0 then 1 else if b = 3 then 8 else 4
def beats (b : Int) : Int := if inB b 0 3 then beatsN b else 0
theorem in3 {x : Int} (h : inB x 0 2 = true) : x = 0 ∨ x = 1 ∨ x = 2 := by have := inB_t h; omega
theorem in4 {x : Int} (h : inB x 0 3 = true) : x = 0 ∨ x = 1 ∨ x = 2 ∨ x = 3 := by have := inB_t h; omega
theorem bytes_leaf {x : Int} (h : inB x 0 2 = true) : IntKind.wrap .i64 (1 * 2 ^ (min x.toNat IntKind.i64.bits)) = bytes x := by
 unfold bytes; rw [if_pos h]; rcases in3 h with rfl | rfl | rfl <;> decide
theorem bytes_pos {x : Int} (h : inB x 0 2 = true) : bytes x = 1 ∨ bytes x = 2 ∨ bytes x = 4 := by
 unfold bytes; rw [if_pos h]; rcases in3 h with rfl | rfl | rfl <;> simp
theorem bytes_no {x : Int} (h : inB x 0 2 = false) : bytes x = 0 := by unfold bytes; rw [if_neg (by simp [h])]
theorem bytes_z {x : Int} : bytes x = 0 ∧ inB x 0 2 = false ∨ inB x 0 2 = true ∧ (bytes x = 1 ∨ bytes x = 2 ∨ bytes x = 4) := by
 cases h : inB x 0 2 with
 | false => exact .inl ⟨bytes_no h, rfl⟩
 | true => exact .inr ⟨rfl, bytes_pos h⟩
theorem limit_leaf {x : Int} (h : ¬ bytes x = 0) : IntKind.wrap .i64 (1 * 2 ^ (min (IntKind.wrap .i64 (8 * bytes x)).toNat IntKind.i64.bits)) = limit x := by
 rcases bytes_z (x := x) with ⟨h1, _⟩ | ⟨h1, _⟩
 · exact absurd h1 h
 · unfold limit bytes; rw [if_pos h1, if_pos h1]; rcases in3 h1 with rfl | rfl | rfl <;> decide
theorem limit_no {x : Int} (h : bytes x = 0) : limit x = 0 := by
 rcases bytes_z (x := x) with ⟨_, h1⟩ | ⟨_, h1⟩
 · unfold limit; rw [if_neg (by simp [h1])]
 · omega
theorem limit_bd (x : Int) : 0 ≤ limit x ∧ limit x ≤ 4294967296 := by
 unfold limit
 split
 · rename_i h; rcases in3 h with rfl | rfl | rfl <;> simp
 · simp
theorem beats_row {b : Int} {t : IntKind} (h : inB b 0 3 = true) : [[V.w (.int .i64 1)], [V.w (.int .i64 4)], [V.w (.int .i64 4)], [V.w (.int .i64 8)]][b.toNat]? = some [V.w (.int .i64 (beatsN b))] := by
 rcases in4 h with rfl | rfl | rfl | rfl <;> rfl
theorem beats_bd (b : Int) : 0 ≤ beats b ∧ beats b ≤ 8 := by
 unfold beats
 split
 · rename_i h; rcases in4 h with rfl | rfl | rfl | rfl <;> simp [beatsN]
 · simp
def aligned (a size : Int) : Bool := inB size 0 2 && decide (0 ≤ a) && decide (a.tmod (bytes size) = 0)
def nextA (a size burst : Int) : Int :=
 if aligned a size && decide (a < 512) && decide (beats burst ≠ 0) then
  (if burst = 2 ∧ (a + bytes size).tmod (4 * bytes size) = 0 then a + bytes size - 4 * bytes size else a + bytes size)
 else -1
theorem c_33 (size : Int) : CV prg 33 [.w (.int .i64 size)] (fun res => res = .w (.int .i64 (bytes size))) := by
 refine cv_in g33 (Eb [0] rfl (Ef (Eg (Ea (Ee rfl) (Ed (Ec (Eb [0] rfl (Ef (Ef (Eg (Ea (Ee rfl) ?_)))))))))))
 refine Ew rfl rfl (c_103 ..) (Ea (o_not rfl) (Ed (Ec (Eb [0, 5] rfl ?_))))
 first | refine Em rfl ?_ ?_ | refine s_condN rfl ?_ ?_ | refine s_condNB rfl ?_ ?_ | refine Ek rfl ?_ ?_
 intro h1
 try rw [nnp] at h1
 try have h1' := inB_t h1
 refine Ef (Eg (Ea (Ee rfl) (Ed (Ec (Eb [2] rfl (Ej (Eu (ret_leafIR rfl rfl ?_))))))))
 rotate_left
 intro h1
 try rw [nnp] at h1
 try have h1' := inB_t h1
 refine Et (Ec (Eb [0] rfl (Ef (Eg (Ea (Ee rfl) (Ea (o_shl rfl rfl (by omega)) (Ea (Ee rfl) (Ed (Ec (Eb [2] rfl (Ej ?_)))))))))))
 refine ret_leafIR rfl rfl ?_
 rotate_left
 all_goals
  first | exact bytes_leaf (by assumption) | exact (bytes_no (by assumption)).symm
theorem c_183 (size : Int) : CV prg 183 [.w (.int .i64 size)] (fun res => res = .w (.int .i64 (bytes size))) := by
 refine cv_in g183 (Eb [0] rfl (Ef (Eg (Ea (Ee rfl) (Ed (Ec (Eb [0] rfl (Ef (Ef (Eg (Ea (Ee rfl) ?_)))))))))))
 refine Ew rfl rfl (c_230 ..) (Ea (o_not rfl) (Ed (Ec (Eb [0, 5] rfl ?_))))
 first | refine Em rfl ?_ ?_ | refine s_condN rfl ?_ ?_ | refine s_condNB rfl ?_ ?_ | refine Ek rfl ?_ ?_
 intro h1
 try rw [nnp] at h1
 try have h1' := inB_t h1
 refine Ef (Eg (Ea (Ee rfl) (Ed (Ec (Eb [2] rfl (Ej (Eu (ret_leafIR rfl rfl ?_))))))))
 rotate_left
 intro h1
 try rw [nnp] at h1
 try have h1' := inB_t h1
 refine Et (Ec (Eb [0] rfl (Ef (Eg (Ea (Ee rfl) (Ea (o_shl rfl rfl (by omega)) (Ea (Ee rfl) (Ed (Ec (Eb [2] rfl (Ej ?_)))))))))))
 refine ret_leafIR rfl rfl ?_
 rotate_left
 all_goals
  first | exact bytes_leaf (by assumption) | exact (bytes_no (by assumption)).symm
theorem c_22 (b : Int) : CV prg 22 [.w (.int .i64 b)] (fun res => res = .w (.int .i64 (beats b))) := by
 refine cv_in g22 (Eb [0] rfl (Ef (Eg (Ea (Ee rfl) (Ed (Ec (Eb [0] rfl (Ef (Ef (Eg (Ea (Ee rfl) ?_)))))))))))
 refine Ew rfl rfl (c_103 ..) (Ea (o_not rfl) (Ed (Ec (Eb [0, 5] rfl ?_))))
 first | refine Em rfl ?_ ?_ | refine s_condN rfl ?_ ?_ | refine s_condNB rfl ?_ ?_ | refine Ek rfl ?_ ?_
 intro h1
 try rw [nnp] at h1
 try have h1' := inB_t h1
 refine Ef (Eg (Ea (Ee rfl) (Ed (Ec (Eb [2] rfl (Ej (Eu (ret_leafIR rfl rfl ?_))))))))
 rotate_left
 intro h1
 try rw [nnp] at h1
 try have h1' := inB_t h1
 refine Et (Ec (Eb [0] rfl (Ef (Eg (Ea (o_bs rfl rfl rfl rfl) (Ea (Ee rfl) (Ea (o_iaL rfl rfl rfl rfl (by simp; omega)) (Ea (o_ldA rfl rfl rfl (beats_row (t := .i64) (by assumption)) rfl) (Ea (Ee rfl) (Ed (Ec ?_)))))))))))
 refine Eb [2] rfl (Ej (ret_leafIR rfl rfl ?_))
 rotate_left
 all_goals
  simp_all [beats]
theorem c_173 (b : Int) : CV prg 173 [.w (.int .i64 b)] (fun res => res = .w (.int .i64 (beats b))) := by
 refine cv_in g173 (Eb [0] rfl (Ef (Eg (Ea (Ee rfl) (Ed (Ec (Eb [0] rfl (Ef (Ef (Eg (Ea (Ee rfl) ?_)))))))))))
 refine Ew rfl rfl (c_230 ..) (Ea (o_not rfl) (Ed (Ec (Eb [0, 5] rfl ?_))))
 first | refine Em rfl ?_ ?_ | refine s_condN rfl ?_ ?_ | refine s_condNB rfl ?_ ?_ | refine Ek rfl ?_ ?_
 intro h1
 try rw [nnp] at h1
 try have h1' := inB_t h1
 refine Ef (Eg (Ea (Ee rfl) (Ed (Ec (Eb [2] rfl (Ej (Eu (ret_leafIR rfl rfl ?_))))))))
 rotate_left
 intro h1
 try rw [nnp] at h1
 try have h1' := inB_t h1
 refine Et (Ec (Eb [0] rfl (Ef (Eg (Ea (o_bs rfl rfl rfl rfl) (Ea (Ee rfl) (Ea (o_iaL rfl rfl rfl rfl (by simp; omega)) (Ea (o_ldA rfl rfl rfl (beats_row (t := .i64) (by assumption)) rfl) (Ea (Ee rfl) (Ed (Ec ?_)))))))))))
 refine Eb [2] rfl (Ej (ret_leafIR rfl rfl ?_))
 rotate_left
 all_goals
  simp_all [beats]
theorem c_51 (size : Int) : CV prg 51 [.w (.int .i64 size)] (fun res => res = .w (.int .i64 (limit size))) := by
 have hz := bytes_z (x := size)
 refine cv_in g51 (Eb [0] rfl (Ef (Eg (Ea (Ee rfl) (Ed (Ec (Eb [0] rfl (Ef (Ef (Eg (Ea (Ee rfl) ?_)))))))))))
 refine Ew rfl rfl (c_33 ..) (Ea (o_eql rfl rfl) (Ed (Ec (Eb [0, 5] rfl ?_))))
 first | refine Em rfl ?_ ?_ | refine Ek rfl ?_ ?_
 intro h1
 try rw [nnp] at h1
 refine Ef (Eg (Ea (Ee rfl) (Ed (Ec (Eb [2] rfl (Ej (Eu (ret_leafIR rfl rfl ?_))))))))
 rotate_left
 intro h1
 try rw [nnp] at h1
 refine Et (Ec (Eb [0] rfl (Ef (Eg (Ea (Ee rfl) (Ew rfl rfl (c_33 ..) (Ea (o_mul rfl rfl) (Ea (o_shl rfl rfl (by rw [wrap_in _ (by omega)]; omega)) (Ea (Ee rfl) (Ed (Ec ?_)))))))))))
 refine Eb [2] rfl (Ej (ret_leafIR rfl rfl ?_))
 rotate_left
 all_goals
  first | exact limit_leaf (by assumption) | exact (limit_no (by assumption)).symm
theorem c_201 (size : Int) : CV prg 201 [.w (.int .i64 size)] (fun res => res = .w (.int .i64 (limit size))) := by
 have hz := bytes_z (x := size)
 refine cv_in g201 (Eb [0] rfl (Ef (Eg (Ea (Ee rfl) (Ed (Ec (Eb [0] rfl (Ef (Ef (Eg (Ea (Ee rfl) ?_)))))))))))
 refine Ew rfl rfl (c_183 ..) (Ea (o_eql rfl rfl) (Ed (Ec (Eb [0, 5] rfl ?_))))
 first | refine Em rfl ?_ ?_ | refine Ek rfl ?_ ?_
 intro h1
 try rw [nnp] at h1
 refine Ef (Eg (Ea (Ee rfl) (Ed (Ec (Eb [2] rfl (Ej (Eu (ret_leafIR rfl rfl ?_))))))))
 rotate_left
 intro h1
 try rw [nnp] at h1
 refine Et (Ec (Eb [0] rfl (Ef (Eg (Ea (Ee rfl) (Ew rfl rfl (c_183 ..) (Ea (o_mul rfl rfl) (Ea (o_shl rfl rfl (by rw [wrap_in _ (by omega)]; omega)) (Ea (Ee rfl) (Ed (Ec ?_)))))))))))
 refine Eb [2] rfl (Ej (ret_leafIR rfl rfl ?_))
 rotate_left
 all_goals
  first | exact limit_leaf (by assumption) | exact (limit_no (by assumption)).symm
theorem c_92 (v size : Int) : CV prg 92 [.w (.int .i64 v), .w (.int .i64 size)] (fun res => res = .w (.bool (inB v 0 (limit size - 1)))) := by
 have hz := limit_bd size
 refine cv_in g92 (Eb [0, 1] rfl (Ef (Eg (Ea (Ee rfl) (Ed (Ec (Eb [0, 1] rfl (Ef (Eg (Ea (Ee rfl) (Ea (Ee rfl) ?_)))))))))))
 refine Ew rfl rfl (c_51 ..) ?_
 first | refine Ea (o_subn rfl rfl (by omega)) ?_ | refine Ea (o_sub rfl rfl) ?_
 refine Ew rfl rfl (c_103 ..) (Ea (Ee rfl) (Ed (Ec (Eb [4] rfl (Ej (Eo rfl rfl ?_))))))
 rotate_left
 all_goals
  rfl
theorem c_21 (a size : Int) : CV prg 21 [.w (.int .i64 a), .w (.int .i64 size)] (fun res => res = .w (.bool (aligned a size))) := by
 have hz := bytes_z (x := size)
 refine cv_in g21 (Eb [0, 1] rfl (Ef (Eg (Ea (Ee rfl) (Ed (Ec (Eb [0, 1] rfl (Ef (Eg (Ea (Ee rfl) (Ew rfl rfl (c_103 ..) ?_)))))))))))
 refine Ea (Ee rfl) ?_
 first | refine s_gDT rfl ?_ ?_ | refine s_gNDT rfl ?_ ?_ | refine s_gNT rfl ?_ ?_ | refine s_gB rfl ?_ ?_
 intro h1
 try rw [nnp] at h1
 try (have h1' := hz; rw [h1] at h1'; simp at h1')
 refine Ea (Ee rfl) (Ev rfl (Ea (o_geq rfl rfl) (Ea (Er rfl rfl) (Ea (Ee rfl) ?_))))
 first | refine s_gDT rfl ?_ ?_ | refine s_gB rfl ?_ ?_
 intro h2
 try rw [nnp] at h2
 try (have h2' := hz; rw [h2] at h2'; simp at h2')
 refine Ea (Ee rfl) (Ev rfl (Ea (Ee rfl) (Ev rfl (Ew rfl rfl (c_33 ..) (Ev rfl ?_)))))
 first | refine Ea (o_rem rfl rfl (by decide)) ?_ | refine Ea (o_rem rfl rfl (by omega)) ?_
 refine Ev rfl (Ea (o_eql rfl rfl) (Ea (Er rfl rfl) (Ea (Ee rfl) (Ed (Ec (Eb [4] rfl (Ej (Eo rfl rfl ?_))))))))
 rotate_left
 intro h2
 try rw [nnp] at h2
 try (have h2' := hz; rw [h2] at h2'; simp at h2')
 refine Eh rfl (Eh rfl (Eh rfl (Eh rfl (Eh rfl (Ea (En rfl rfl) (Ea (Ee rfl) (Ed (Ec (Eb [4] rfl (Ej (Eo rfl rfl ?_)))))))))))
 rotate_left
 intro h1
 try rw [nnp] at h1
 try (have h1' := hz; rw [h1] at h1'; simp at h1')
 refine Eh rfl (Eh rfl (Ea (En rfl rfl) (Ea (Ee rfl) (Eh rfl (Eh rfl (Eh rfl (Eh rfl (Eh rfl (Ea (En rfl rfl) (Ea (Ee rfl) (Ed ?_)))))))))))
 refine Ec (Eb [4] rfl (Ej (Eo rfl rfl ?_)))
 rotate_left
 all_goals
  first | (simp_all [aligned]; done) | (simp_all [aligned] <;> omega)
theorem c_172 (a size : Int) : CV prg 172 [.w (.int .i64 a), .w (.int .i64 size)] (fun res => res = .w (.bool (aligned a size))) := by
 have hz := bytes_z (x := size)
 refine cv_in g172 (Eb [0, 1] rfl (Ef (Eg (Ea (Ee rfl) (Ed (Ec (Eb [0, 1] rfl (Ef (Eg (Ea (Ee rfl) (Ew rfl rfl (c_183 ..) ?_)))))))))))
 refine Ea (o_gtr rfl rfl) (Ea (Ee rfl) ?_)
 first | refine s_gDT rfl ?_ ?_ | refine s_gB rfl ?_ ?_
 intro h1
 try rw [nnp] at h1
 refine Ea (Ee rfl) (Ev rfl (Ea (o_geq rfl rfl) (Ea (Er rfl rfl) (Ea (Ee rfl) ?_))))
 first | refine s_gDT rfl ?_ ?_ | refine s_gB rfl ?_ ?_
 intro h2
 try rw [nnp] at h2
 refine Ea (Ee rfl) (Ev rfl (Ea (Ee rfl) (Ev rfl (Ew rfl rfl (c_183 ..) (Ev rfl ?_)))))
 first | refine Ea (o_rem rfl rfl (by decide)) ?_ | refine Ea (o_rem rfl rfl (by omega)) ?_
 refine Ev rfl (Ea (o_eql rfl rfl) (Ea (Er rfl rfl) (Ea (Ee rfl) (Ed (Ec (Eb [4] rfl (Ej (Eo rfl rfl ?_))))))))
 rotate_left
 intro h2
 try rw [nnp] at h2
 refine Eh rfl (Eh rfl (Eh rfl (Eh rfl (Eh rfl (Ea (En rfl rfl) (Ea (Ee rfl) (Ed (Ec (Eb [4] rfl (Ej (Eo rfl rfl ?_)))))))))))
 rotate_left
 intro h1
 try rw [nnp] at h1
 refine Eh rfl (Eh rfl (Ea (En rfl rfl) (Ea (Ee rfl) (Eh rfl (Eh rfl (Eh rfl (Eh rfl (Eh rfl (Ea (En rfl rfl) (Ea (Ee rfl) (Ed ?_)))))))))))
 refine Ec (Eb [4] rfl (Ej (Eo rfl rfl ?_)))
 rotate_left
 all_goals
  first | (rcases hz with ⟨h8, h9⟩ | ⟨h8, h9⟩ <;> simp_all [aligned]; done) | (rcases hz with ⟨h8, h9⟩ | ⟨h8, h9⟩ <;> simp_all [aligned] <;> omega)
theorem aligned_t {a s : Int} (h : aligned a s = true) : inB s 0 2 = true ∧ 0 ≤ a ∧ (bytes s = 1 ∨ bytes s = 2 ∨ bytes s = 4) := by
 simp only [aligned, Bool.and_eq_true, decide_eq_true_eq] at h
 exact ⟨h.1.1, h.1.2, bytes_pos h.1.1⟩
theorem c_60 (a size burst : Int) : CV prg 60 [.w (.int .i64 a), .w (.int .i64 size), .w (.int .i64 burst)] (fun res => res = .w (.int .i64 (nextA a size burst))) := by
 refine cv_in g60 (Eb [0, 1, 2] rfl (Ef (Eg (Ea (Ee rfl) (Ed (Ec (Eb [0, 1, 2] rfl (Ef (Ef (Eg (Ea (Ee rfl) ?_)))))))))))
 refine Ea (Ee rfl) (Ew rfl rfl (c_21 ..) (Ea (o_not rfl) (Ea (Ee rfl) ?_)))
 first | refine s_gDF rfl ?_ ?_ | refine s_gNDF rfl ?_ ?_ | refine s_gNF rfl ?_ ?_ | refine s_gB rfl ?_ ?_
 intro h1
 try rw [nnp] at h1
 try have h1' := aligned_t h1
 try have h1' := inB_t h1
 try have h1' := inB_f h1
 refine Ea (Ee rfl) (Ev rfl (Ea (o_geq rfl rfl) (Ea (En rfl rfl) (Ea (Ee rfl) ?_))))
 first | refine s_gDF rfl ?_ ?_ | refine s_gB rfl ?_ ?_
 intro h2
 try rw [nnp] at h2
 try have h2' := aligned_t h2
 try have h2' := inB_t h2
 try have h2' := inB_f h2
 refine Ea (Ee rfl) (Ev rfl (Ew rfl rfl (c_22 ..) (Ev rfl (Ea (o_eql rfl rfl) (Ea (En rfl rfl) (Ed (Ec (Eb [0, 1, 2, 21] rfl ?_))))))))
 first | refine Em rfl ?_ ?_ | refine Ek rfl ?_ ?_
 intro h3
 try rw [nnp] at h3
 try have h3' := aligned_t h3
 try have h3' := inB_t h3
 try have h3' := inB_f h3
 refine Ef (Eg (Ea (Ee rfl) (Ed (Ec (Eb [6] rfl (Ej (Eu (ret_leafIR rfl rfl ?_))))))))
 rotate_left
 intro h3
 try rw [nnp] at h3
 try have h3' := aligned_t h3
 try have h3' := inB_t h3
 try have h3' := inB_f h3
 refine Et (Ec (Eb [0, 1, 2] rfl (Ef (Eg (Ea (Ee rfl) (Ea (Ee rfl) (Ew rfl rfl (c_33 ..) ?_)))))))
 first | refine Ea (o_addn rfl rfl (by omega)) ?_ | refine Ea (o_add rfl rfl) ?_
 refine Ea (Ee rfl) (Ew rfl rfl (c_33 ..) ?_)
 first | refine Ea (o_muln rfl rfl (by omega)) ?_ | refine Ea (o_mul rfl rfl) ?_
 refine Ea (Ee rfl) (Ea (Ee rfl) (Ed (Ec (Eb [2, 7, 8] rfl (Ef (Ef (Eg (Ea (Ee rfl) (Ea (o_eql rfl rfl) (Ea (Ee rfl) ?_))))))))))
 first | refine s_gDT rfl ?_ ?_ | refine s_gB rfl ?_ ?_
 intro h4
 try rw [nnp] at h4
 try have h4' := aligned_t h4
 try have h4' := inB_t h4
 try have h4' := inB_f h4
 refine Ea (Ee rfl) (Ev rfl (Ea (Ee rfl) (Ev rfl ?_)))
 first | refine Ea (o_rem rfl rfl (by decide)) ?_ | refine Ea (o_rem rfl rfl (by omega)) ?_
 refine Ev rfl (Ea (o_eql rfl rfl) (Ea (Er rfl rfl) (Ed (Ec (Eb [7, 8, 36] rfl ?_)))))
 first | refine Em rfl ?_ ?_ | refine Ek rfl ?_ ?_
 intro h5
 try rw [nnp] at h5
 try have h5' := aligned_t h5
 try have h5' := inB_t h5
 try have h5' := inB_f h5
 refine Eg (Ea (Ee rfl) (Ea (Ee rfl) ?_))
 first | refine Ea (o_subn rfl rfl (by omega)) ?_ | refine Ea (o_sub rfl rfl) ?_
 refine Ea (Ee rfl) (Ed (Ec (Eb [7] rfl (Ef (Eg (Ea (Ee rfl) (Ea (Ee rfl) (Ed (Ec (Eb [6] rfl (Ej ?_)))))))))))
 refine ret_leafIR rfl rfl ?_
 rotate_left
 intro h5
 try rw [nnp] at h5
 try have h5' := aligned_t h5
 try have h5' := inB_t h5
 try have h5' := inB_f h5
 refine Et (Ec (Eb [7] rfl (Ef (Eg (Ea (Ee rfl) (Ea (Ee rfl) (Ed (Ec (Eb [6] rfl (Ej (ret_leafIR rfl rfl ?_)))))))))))
 rotate_left
 intro h4
 try rw [nnp] at h4
 try have h4' := aligned_t h4
 try have h4' := inB_t h4
 try have h4' := inB_f h4
 refine Eh rfl (Eh rfl (Eh rfl (Eh rfl (Ea (En rfl rfl) (Ed (Ec (Eb [7, 8, 36] rfl (s_condF rfl (Et (Ec (Eb [7] rfl ?_)))))))))))
 refine Ef (Eg (Ea (Ee rfl) (Ea (Ee rfl) (Ed (Ec (Eb [6] rfl (Ej (ret_leafIR rfl rfl ?_))))))))
 rotate_left
 intro h2
 try rw [nnp] at h2
 try have h2' := aligned_t h2
 try have h2' := inB_t h2
 try have h2' := inB_f h2
 refine Eh rfl (Eh rfl (Eh rfl (Ea (Er rfl rfl) (Ed (Ec (Eb [0, 1, 2, 21] rfl (s_condT rfl (Ef (Eg (Ea (Ee rfl) (Ed ?_)))))))))))
 refine Ec (Eb [6] rfl (Ej (Eu (ret_leafIR rfl rfl ?_))))
 rotate_left
 intro h1
 try rw [nnp] at h1
 try have h1' := aligned_t h1
 try have h1' := inB_t h1
 try have h1' := inB_f h1
 refine Eh rfl (Eh rfl (Ea (Er rfl rfl) (Ea (Ee rfl) (Eh rfl (Eh rfl (Eh rfl (Ea (Er rfl rfl) (Ed (Ec (Eb [0, 1, 2, 21] rfl (s_condT rfl ?_)))))))))))
 refine Ef (Eg (Ea (Ee rfl) (Ed (Ec (Eb [6] rfl (Ej (Eu (ret_leafIR rfl rfl ?_))))))))
 rotate_left
 all_goals
  first | (simp_all [nextA]; done) | (simp_all [nextA] <;> omega)
theorem c_205 (a size burst : Int) : CV prg 205 [.w (.int .i64 a), .w (.int .i64 size), .w (.int .i64 burst)] (fun res => res = .w (.int .i64 (nextA a size burst))) := by
 refine cv_in g205 (Eb [0, 1, 2] rfl (Ef (Eg (Ea (Ee rfl) (Ed (Ec (Eb [0, 1, 2] rfl (Ef (Eg (Ea (Ee rfl) (Ew rfl rfl (c_183 ..) ?_)))))))))))
 refine Ea (Ee rfl) (Ed (Ec (Eb [0, 1, 2, 7] rfl (Ef (Ef (Eg (Ea (Ee rfl) (Ea (Ee rfl) (Ew rfl rfl (c_172 ..) (Ea (o_not rfl) (Ea (Ee rfl) ?_)))))))))))
 first | refine s_gDF rfl ?_ ?_ | refine s_gNDF rfl ?_ ?_ | refine s_gNF rfl ?_ ?_ | refine s_gB rfl ?_ ?_
 intro h1
 try rw [nnp] at h1
 try have h1' := aligned_t h1
 try have h1' := inB_t h1
 try have h1' := inB_f h1
 refine Ea (Ee rfl) (Ev rfl (Ew rfl rfl (c_230 ..) (Ev rfl (Ea (o_not rfl) (Ea (En rfl rfl) (Ea (Ee rfl) ?_))))))
 first | refine s_gDF rfl ?_ ?_ | refine s_gNDF rfl ?_ ?_ | refine s_gNF rfl ?_ ?_ | refine s_gB rfl ?_ ?_
 intro h2
 try rw [nnp] at h2
 try have h2' := aligned_t h2
 try have h2' := inB_t h2
 try have h2' := inB_f h2
 refine Ea (Ee rfl) (Ev rfl (Ew rfl rfl (c_173 ..) (Ev rfl (Ea (o_eql rfl rfl) (Ea (En rfl rfl) (Ed (Ec (Eb [0, 2, 7, 23] rfl ?_))))))))
 first | refine Em rfl ?_ ?_ | refine Ek rfl ?_ ?_
 intro h3
 try rw [nnp] at h3
 try have h3' := aligned_t h3
 try have h3' := inB_t h3
 try have h3' := inB_f h3
 refine Ef (Eg (Ea (Ee rfl) (Ed (Ec (Eb [6] rfl (Ej (Eu (ret_leafIR rfl rfl ?_))))))))
 rotate_left
 intro h3
 try rw [nnp] at h3
 try have h3' := aligned_t h3
 try have h3' := inB_t h3
 try have h3' := inB_f h3
 refine Et (Ec (Eb [0, 2, 7] rfl (Ef (Ef (Eg (Ea (Ee rfl) (Ea (o_eql rfl rfl) (Ea (Ee rfl) ?_))))))))
 first | refine s_gDT rfl ?_ ?_ | refine s_gB rfl ?_ ?_
 intro h4
 try rw [nnp] at h4
 try have h4' := aligned_t h4
 try have h4' := inB_t h4
 try have h4' := inB_f h4
 refine Ea (Ee rfl) (Ev rfl (Ea (Ee rfl) (Ev rfl ?_)))
 first | refine Ea (o_addn rfl rfl (by omega)) ?_ | refine Ea (o_add rfl rfl) ?_
 refine Ev rfl (Ea (Ee rfl) (Ev rfl ?_))
 first | refine Ea (o_muln rfl rfl (by omega)) ?_ | refine Ea (o_mul rfl rfl) ?_
 refine Ev rfl ?_
 first | refine Ea (o_rem rfl rfl (by decide)) ?_ | refine Ea (o_rem rfl rfl (by omega)) ?_
 refine Ev rfl (Ea (o_eql rfl rfl) (Ea (Er rfl rfl) (Ed (Ec (Eb [0, 7, 34] rfl ?_)))))
 first | refine Em rfl ?_ ?_ | refine Ek rfl ?_ ?_
 intro h5
 try rw [nnp] at h5
 try have h5' := aligned_t h5
 try have h5' := inB_t h5
 try have h5' := inB_f h5
 refine Ef (Eg (Ea (Ee rfl) (Ea (Ee rfl) ?_)))
 first | refine Ea (o_addn rfl rfl (by omega)) ?_ | refine Ea (o_add rfl rfl) ?_
 refine Ea (Ee rfl) ?_
 first | refine Ea (o_muln rfl rfl (by omega)) ?_ | refine Ea (o_mul rfl rfl) ?_
 first | refine Ea (o_subn rfl rfl (by omega)) ?_ | refine Ea (o_sub rfl rfl) ?_
 refine Ea (Ee rfl) (Ed (Ec (Eb [6] rfl (Ej (Eu (ret_leafIR rfl rfl ?_))))))
 rotate_left
 intro h5
 try rw [nnp] at h5
 try have h5' := aligned_t h5
 try have h5' := inB_t h5
 try have h5' := inB_f h5
 refine Et (Ec (Eb [0, 7] rfl (Ef (Eg (Ea (Ee rfl) (Ea (Ee rfl) ?_))))))
 first | refine Ea (o_addn rfl rfl (by omega)) ?_ | refine Ea (o_add rfl rfl) ?_
 refine Ea (Ee rfl) (Ed (Ec (Eb [6] rfl (Ej (ret_leafIR rfl rfl ?_)))))
 rotate_left
 intro h4
 try rw [nnp] at h4
 try have h4' := aligned_t h4
 try have h4' := inB_t h4
 try have h4' := inB_f h4
 iterate 7 refine Eh rfl ?_
 refine Ea (En rfl rfl) (Ed (Ec (Eb [0, 7, 34] rfl (s_condF rfl (Et (Ec (Eb [0, 7] rfl (Ef (Eg (Ea (Ee rfl) (Ea (Ee rfl) ?_)))))))))))
 first | refine Ea (o_addn rfl rfl (by omega)) ?_ | refine Ea (o_add rfl rfl) ?_
 refine Ea (Ee rfl) (Ed (Ec (Eb [6] rfl (Ej (ret_leafIR rfl rfl ?_)))))
 rotate_left
 intro h2
 try rw [nnp] at h2
 try have h2' := aligned_t h2
 try have h2' := inB_t h2
 try have h2' := inB_f h2
 refine Eh rfl (Eh rfl (Eh rfl (Ea (Er rfl rfl) (Ed (Ec (Eb [0, 2, 7, 23] rfl (s_condT rfl (Ef (Eg (Ea (Ee rfl) (Ed ?_)))))))))))
 refine Ec (Eb [6] rfl (Ej (Eu (ret_leafIR rfl rfl ?_))))
 rotate_left
 intro h1
 try rw [nnp] at h1
 try have h1' := aligned_t h1
 try have h1' := inB_t h1
 try have h1' := inB_f h1
 refine Eh rfl (Eh rfl (Eh rfl (Ea (Er rfl rfl) (Ea (Ee rfl) (Eh rfl (Eh rfl (Eh rfl (Ea (Er rfl rfl) (Ed (Ec (Eb [0, 2, 7, 23] rfl ?_)))))))))))
 refine s_condT rfl (Ef (Eg (Ea (Ee rfl) (Ed (Ec (Eb [6] rfl (Ej (Eu (ret_leafIR rfl rfl ?_)))))))))
 rotate_left
 all_goals
  first | (simp_all [nextA]; done) | (simp_all [nextA] <;> omega)
def bl (s b : Int) : Nat → Int → Option (List Int)
 | 0, _ => some []
 | n + 1, a => if nextA a s b < 0 then none else (bl s b n (nextA a s b)).map (a :: ·)
def burstL (a s b : Int) : List Int := (bl s b (beats b).toNat a).getD []
theorem bl_step {s b a c : Int} {n i : Nat} {pre : List Int} (h : bl s b n a = (bl s b (n - i) c).map (pre ++ ·)) (hi : i < n) (hn : ¬ nextA c s b < 0) : bl s b n a = (bl s b (n - (i + 1)) (nextA c s b)).map ((pre ++ [c]) ++ ·) := by
 rw [h]
 have e : n - i = (n - (i + 1)) + 1 := by omega
 rw [e, bl, if_neg hn]
 cases bl s b (n - (i + 1)) (nextA c s b) <;> simp
theorem bl_none {s b a c : Int} {i : Nat} {pre : List Int} (h : bl s b (beats b).toNat a = (bl s b ((beats b).toNat - i) c).map (pre ++ ·)) (hi : i < (beats b).toNat) (hn : nextA c s b < 0) : burstL a s b = [] := by
 unfold burstL
 rw [h]
 have e : (beats b).toNat - i = ((beats b).toNat - (i + 1)) + 1 := by omega
 rw [e, bl, if_pos hn]; rfl
theorem bl_end {s b a c : Int} {i : Nat} {pre : List Int} (h : bl s b (beats b).toNat a = (bl s b ((beats b).toNat - i) c).map (pre ++ ·)) (hi : (beats b).toNat ≤ i) : burstL a s b = pre := by
 unfold burstL
 rw [h, show (beats b).toNat - i = 0 by omega, bl]; simp
theorem bl_len (s b : Int) : ∀ (n : Nat) (a : Int) l, bl s b n a = some l → l.length = n
 | 0, a, l, h => by simp [bl] at h; subst h; rfl
 | n + 1, a, l, h => by
   simp only [bl] at h
   split at h
   · cases h
   · cases e : bl s b n (nextA a s b) with
     | none => rw [e] at h; cases h
     | some r => rw [e] at h; cases h; simp [bl_len s b n _ r e]
theorem burstL_len (a s b : Int) : (burstL a s b).length = 0 ∨ (burstL a s b).length = (beats b).toNat := by
 unfold burstL
 cases e : bl s b (beats b).toNat a with
 | none => exact .inl rfl
 | some l => exact .inr (bl_len s b _ _ _ e)
theorem burstL_le (a s b : Int) : (burstL a s b).length ≤ 8 := by
 have h1 := burstL_len a s b
 have h2 := beats_bd b
 omega
theorem iR_app (pre : List Int) (c : Int) : (pre ++ [c]).map iR = pre.map iR ++ [[V.w (.int .i64 c)]] := by rw [List.map_append]; rfl
theorem c_29 (a s b : Int) : CV prg 29 [.w (.int .i64 a), .w (.int .i64 s), .w (.int .i64 b)] (fun res => res = .sl 1 ((burstL a s b).map iR)) := by
 have hb := beats_bd b
 refine cv_in g29 (Eb [0, 1, 2] rfl (Ef (Eg (Ea (Ee rfl) (Ed (Ec (Eb [0, 1, 2] rfl (Ef (Eg (Ea (o_bs rfl rfl rfl rfl) (Ea (Ee rfl) ?_)))))))))))
 refine Ed (Ec (Eb [0, 1, 2, 7] rfl (Ef (Ef (Eg (Ea (Ee rfl) (Ew rfl rfl (c_22 ..) (Ea (Ee rfl) (Ed (Ec (Eb [0, 1, 2, 7, 11, 12] rfl ?_)))))))))))
 refine Fb (S_loop (ι := (Nat × List Int × Int)) (fun p => p.1 ≤ (beats b).toNat ∧ p.2.1.length = p.1 ∧ bl s b (beats b).toNat a = (bl s b ((beats b).toNat - p.1) p.2.2).map (p.2.1 ++ ·)) (fun p => [(12, .w (.int .i64 (p.1 : Int))), (7, .ls 0 (p.2.1.map iR).length), (0, .w (.int .i64 p.2.2))]) (fun p => [.arr 1 (p.2.1.map iR)]) (fun p => (beats b).toNat - p.1) 1 (0, [], a) ⟨by simp, rfl, by simp⟩ rfl (hasOf ⟨rfl, rfl, rfl, trivial⟩ rfl) rfl (fun _ _ => rfl) (fun _ _ => ⟨rfl, rfl⟩) ?_)
 rintro ⟨i, pre, c⟩ hi
 obtain ⟨hi1, hi2, hi3⟩ := hi
 simp only at hi1 hi2 hi3
 refine Eb [0, 1, 2, 7, 11, 12] rfl ?_
 dsimp only
 refine Ef (Eg (Ea (o_lss rfl rfl) (Ed (Ec (Eb [0, 1, 2, 7, 11, 12, 13] rfl (Ef ?_))))))
 first | refine Em rfl ?_ ?_ | refine Ek rfl ?_ ?_
 intro h1
 try rw [nnp] at h1
 refine Et (Ec (Eb [0, 1, 2, 7, 11, 12] rfl (Ef (Fb (Ef (Eg (Ea (Ee rfl) (Ea (Ee rfl) (Ea (Ee rfl) (Ew rfl rfl (c_60 ..) (Ea (Ee rfl) ?_)))))))))))
 refine Ed (Ec (Eb [0, 1, 2, 7, 8, 11, 12] rfl (Ef (Ef (Eg (Ea (Ee rfl) (Ea (o_lss rfl rfl) (Ed (Ec (Eb [0, 1, 2, 7, 8, 11, 12, 19] rfl ?_))))))))))
 first | refine Em rfl ?_ ?_ | refine Ek rfl ?_ ?_
 intro h2
 try rw [nnp] at h2
 refine Ef (Eg (Ea (Ee rfl) (Ed (Ec (Eb [6] rfl (Ej (Eu (q_blkR (Eu (q_loopR (q_blkR ?_)))))))))))
 refine Eu ?_
 · first | (refine ret_leafW (.inr rfl) rfl rfl (.nil 1 _) ?_; rw [bl_none hi3 (by omega) (by assumption)]; rfl; done) | (refine ret_leafA (.inr rfl) rfl rfl rfl ?_; rw [bl_end hi3 (by omega)]; done) | (refine ret_leafA (.inr rfl) rfl rfl rfl ?_; rw [bl_none hi3 (by omega) (by omega)]; rfl; done)
 intro h2
 try rw [nnp] at h2
 refine Et (Ec (Eb [0, 1, 2, 7, 8, 11, 12] rfl (Ef (Eg (Ea (Ee rfl) (Ea (Ee rfl) (Ea (o_bs rfl rfl rfl rfl) ?_)))))))
 first | refine Ea (o_appL rfl rfl rfl rfl rfl rfl rfl (by simp [roomy]; omega)) ?_ | refine Ea (o_app rfl rfl rfl rfl rfl (by simp [roomy]; omega)) ?_
 refine Ea (Ee rfl) (Ed (Ec (Eb [1, 2, 7, 8, 11, 12] rfl (Eg (Ea (Ee rfl) (Ea (Ee rfl) (Ed (q_blkN (Ec (Eb [0, 1, 2, 7, 11, 12] rfl (Eg ?_)))))))))))
 first | refine Ea (o_addn rfl rfl (by omega)) ?_ | refine Ea (o_add rfl rfl) ?_
 refine Ea (Ee rfl) (Ed (q_loopN ?_))
 · refine ⟨(i + 1, pre ++ [c], nextA c s b), ⟨by simp only; omega, by simp only [List.length_append, List.length_cons, List.length_nil]; omega, bl_step hi3 (by omega) (by assumption)⟩, by simp only; omega, hasOf ⟨rfl, ?_, rfl, trivial⟩ ?_⟩
   · rw [iR_app]; rfl
   · simp only; rw [iR_app]; rfl
 intro h1
 try rw [nnp] at h1
 refine s_exit (q_seqX (q_loopX (q_blkH (Ec (Eb [7] rfl (Ef (Eg (Ea (Ee rfl) (Ea (Ee rfl) (Ed (Ec ?_)))))))))))
 refine Eb [6] rfl (Ej ?_)
 · first | (refine ret_leafW (.inr rfl) rfl rfl (.nil 1 _) ?_; rw [bl_none hi3 (by omega) (by assumption)]; rfl; done) | (refine ret_leafA (.inr rfl) rfl rfl rfl ?_; rw [bl_end hi3 (by omega)]; done) | (refine ret_leafA (.inr rfl) rfl rfl rfl ?_; rw [bl_none hi3 (by omega) (by omega)]; rfl; done)
theorem c_179 (a s b : Int) : CV prg 179 [.w (.int .i64 a), .w (.int .i64 s), .w (.int .i64 b)] (fun res => res = .sl 1 ((burstL a s b).map iR)) := by
 have hb := beats_bd b
 refine cv_in g179 (Eb [0, 1, 2] rfl (Ef (Eg (Ea (Ee rfl) (Ed (Ec (Eb [0, 1, 2] rfl (Ef (Eg (Ea (o_bs rfl rfl rfl rfl) (Ea (Ee rfl) ?_)))))))))))
 refine Ed (Ec (Eb [0, 1, 2, 7] rfl (Ef (Fb (S_loop (ι := (List Int × Int)) (fun p => p.1.length ≤ (beats b).toNat ∧ bl s b (beats b).toNat a = (bl s b ((beats b).toNat - p.1.length) p.2).map (p.1 ++ ·)) (fun p => [(7, .ls 0 (p.1.map iR).length), (0, .w (.int .i64 p.2))]) (fun p => [.arr 1 (p.1.map iR)]) (fun p => (beats b).toNat - p.1.length) 1 ([], a) ⟨by simp, by simp⟩ rfl (hasOf ⟨rfl, rfl, trivial⟩ rfl) rfl (fun _ _ => rfl) (fun _ _ => ⟨rfl, rfl⟩) ?_)))))
 rintro ⟨pre, c⟩ hi
 obtain ⟨hi1, hi3⟩ := hi
 simp only at hi1 hi3
 have hml : (pre.map iR).length = pre.length := List.length_map ..
 refine Eb [0, 1, 2, 7] rfl ?_
 dsimp only
 refine Ef (Ef (Eg (Ea (Ee rfl) (Ea (o_lenL rfl rfl rfl) (Ea (Ee rfl) (Ew rfl rfl (c_173 ..) (Ea (o_lss rfl rfl) (Ea (Ee rfl) ?_))))))))
 first | refine s_gDT rfl ?_ ?_ | refine s_gB rfl ?_ ?_
 intro h1
 try rw [nnp] at h1
 refine Ea (Ee rfl) (Ev rfl (Ea (Ee rfl) (Ev rfl (Ea (Ee rfl) (Ev rfl (Ew rfl rfl (c_205 ..) (Ev rfl (Ea (o_geq rfl rfl) (Ea (Er rfl rfl) (Ed (Ec ?_)))))))))))
 refine Eb [0, 1, 2, 7, 15, 16, 17, 18, 19, 20] rfl ?_
 first | refine Em rfl ?_ ?_ | refine Ek rfl ?_ ?_
 intro h2
 try rw [nnp] at h2
 refine Et (Ec (Eb [0, 1, 2, 7, 15, 16, 17, 18, 19] rfl (Fb (Ef (Eg (Ea (Ee rfl) (Ea (Ee rfl) (Ea (o_bs rfl rfl rfl rfl) ?_))))))))
 first | refine Ea (o_appL rfl rfl rfl rfl rfl rfl rfl (by simp [roomy]; omega)) ?_ | refine Ea (o_app rfl rfl rfl rfl rfl (by simp [roomy]; omega)) ?_
 refine Ea (Ee rfl) (Ed (Ec (Eb [0, 1, 2, 7, 15, 16, 17, 18, 19] rfl (Eg (Ea (Ee rfl) (Ea (Ee rfl) (Ea (Ee rfl) (Ew rfl rfl (c_205 ..) (Ea (Ee rfl) (Ed (q_blkN ?_)))))))))))
 refine q_loopN ?_
 · refine ⟨(pre ++ [c], nextA c s b), ⟨by simp only [List.length_append, List.length_cons, List.length_nil]; omega, by simp only [List.length_append, List.length_cons, List.length_nil]; exact bl_step hi3 (by omega) (by omega)⟩, by simp only [List.length_append, List.length_cons, List.length_nil]; omega, hasOf ⟨?_, rfl, trivial⟩ ?_⟩
   · rw [iR_app]; rfl
   · simp only; rw [iR_app]; rfl
 intro h2
 try rw [nnp] at h2
 refine s_exit (q_seqX (q_loopX (q_blkH (Ec (Eb [2, 7] rfl (Ef (Ef (Eg (Ea (Ee rfl) (Ea (o_lenL rfl rfl rfl) (Ea (Ee rfl) ?_)))))))))))
 refine Ew rfl rfl (c_173 ..) (Ea (o_lss rfl rfl) (Ed (Ec (Eb [7, 33] rfl ?_))))
 first | refine Em rfl ?_ ?_ | refine Ek rfl ?_ ?_
 intro h3
 try rw [nnp] at h3
 refine Ef (Eg (Ea (o_bs rfl rfl rfl rfl) (Ea (Ee rfl) (Ed (Ec (Eb [6] rfl (Ej (Eu ?_))))))))
 · first | (refine ret_leafW (.inr rfl) rfl rfl (.nil 1 _) ?_; rw [bl_none hi3 (by omega) (by assumption)]; rfl; done) | (refine ret_leafA (.inr rfl) rfl rfl rfl ?_; rw [bl_end hi3 (by omega)]; done) | (refine ret_leafA (.inr rfl) rfl rfl rfl ?_; rw [bl_none hi3 (by omega) (by omega)]; rfl; done)
 intro h3
 try rw [nnp] at h3
 refine Et (Ec (Eb [7] rfl (Ef (Eg (Ea (Ee rfl) (Ea (Ee rfl) (Ed (Ec (Eb [6] rfl (Ej ?_))))))))))
 · first | (refine ret_leafW (.inr rfl) rfl rfl (.nil 1 _) ?_; rw [bl_none hi3 (by omega) (by assumption)]; rfl; done) | (refine ret_leafA (.inr rfl) rfl rfl rfl ?_; rw [bl_end hi3 (by omega)]; done) | (refine ret_leafA (.inr rfl) rfl rfl rfl ?_; rw [bl_none hi3 (by omega) (by omega)]; rfl; done)
 intro h1
 try rw [nnp] at h1
 refine Eh rfl (Eh rfl (Eh rfl (Eh rfl (Eh rfl (Ea (En rfl rfl) (Ed (Ec (Eb [0, 1, 2, 7, 15, 16, 17, 18, 19, 20] rfl (s_condF rfl (s_exit (q_seqX ?_)))))))))))
 refine q_loopX (q_blkH (Ec (Eb [2, 7] rfl (Ef (Ef (Eg (Ea (Ee rfl) (Ea (o_lenL rfl rfl rfl) (Ea (Ee rfl) (Ew rfl rfl (c_173 ..) (Ea (o_lss rfl rfl) ?_)))))))))))
 refine Ed (Ec (Eb [7, 33] rfl ?_))
 first | refine Em rfl ?_ ?_ | refine Ek rfl ?_ ?_
 intro h4
 try rw [nnp] at h4
 refine Ef (Eg (Ea (o_bs rfl rfl rfl rfl) (Ea (Ee rfl) (Ed (Ec (Eb [6] rfl (Ej (Eu ?_))))))))
 · first | (refine ret_leafW (.inr rfl) rfl rfl (.nil 1 _) ?_; rw [bl_none hi3 (by omega) (by assumption)]; rfl; done) | (refine ret_leafA (.inr rfl) rfl rfl rfl ?_; rw [bl_end hi3 (by omega)]; done) | (refine ret_leafA (.inr rfl) rfl rfl rfl ?_; rw [bl_none hi3 (by omega) (by omega)]; rfl; done)
 intro h4
 try rw [nnp] at h4
 refine Et (Ec (Eb [7] rfl (Ef (Eg (Ea (Ee rfl) (Ea (Ee rfl) (Ed (Ec (Eb [6] rfl (Ej ?_))))))))))
 · first | (refine ret_leafW (.inr rfl) rfl rfl (.nil 1 _) ?_; rw [bl_none hi3 (by omega) (by assumption)]; rfl; done) | (refine ret_leafA (.inr rfl) rfl rfl rfl ?_; rw [bl_end hi3 (by omega)]; done) | (refine ret_leafA (.inr rfl) rfl rfl rfl ?_; rw [bl_none hi3 (by omega) (by omega)]; rfl; done)
def onPage (l : List Int) (x : Int) : Bool := decide (IntKind.wrap .i64 (x.tdiv 64) = IntKind.wrap .i64 (((l[0]?).getD 0).tdiv 64))
theorem page_no {l : List Int} {x y : Int} (h0 : l[0]? = some y) (h : ¬ IntKind.wrap .i64 (x.tdiv 64) = IntKind.wrap .i64 (y.tdiv 64)) : onPage l x = false := by unfold onPage; rw [h0]; exact decide_eq_false h
theorem page_is {l : List Int} {x y : Int} (h0 : l[0]? = some y) (h : IntKind.wrap .i64 (x.tdiv 64) = IntKind.wrap .i64 (y.tdiv 64)) : onPage l x = true := by unfold onPage; rw [h0]; exact decide_eq_true h
def burstOk (a s b : Int) : Bool := (burstL a s b).all (onPage (burstL a s b)) && decide (0 < (burstL a s b).length)
theorem c_30 (a s b : Int) : CV prg 30 [.w (.int .i64 a), .w (.int .i64 s), .w (.int .i64 b)] (fun res => res = .w (.bool (burstOk a s b))) := by
 have hlen := burstL_le a s b
 refine cv_in g30 (Eb [0, 1, 2] rfl (Ef (Eg (Ea (Ee rfl) (Ed (Ec (Eb [0, 1, 2] rfl (Ef (Eg (Ea (Ee rfl) (Ea (Ee rfl) ?_)))))))))))
 refine Ea (Ee rfl) (Ew rfl rfl (c_29 ..) (Ea (Ee rfl) (Ed (Ec (Eb [7] rfl (Ef (Ef (Eg (Ea (Ee rfl) ?_)))))))))
 first | refine Ea (o_lenM rfl) ?_ | refine Ea (o_len rfl) ?_ | refine Ea (o_lenL rfl rfl rfl) ?_ | refine Ea (o_lenN rfl) ?_
 refine Ea (Ee rfl) (Ed (Ec (Eb [7, 14, 15, 16] rfl (Fb (S_loop0 (ι := Nat) (fun i => i ≤ (burstL a s b).length ∧ ((burstL a s b).take i).all (onPage (burstL a s b)) = true) (fun i => [(16, .w (.int .i64 (i : Int)))]) (fun i => (burstL a s b).length - i) 0 (by simp) rfl ⟨rfl, trivial⟩ (fun _ _ => rfl) rfl ?_)))))
 intro i hi
 refine Eb [7, 14, 15, 16] rfl (Ef (Eg (Ea (o_lss rfl rfl) (Ed (Ec (Eb [7, 14, 15, 16, 17] rfl (Ef ?_)))))))
 first | refine Em rfl ?_ ?_ | refine Ek rfl ?_ ?_
 intro h1
 try rw [nnp] at h1
 refine Et (Ec (Eb [7, 14, 15, 16] rfl (Ef (Fb (Ef (Eg (s_iaM rfl rfl (by omega) ?_)))))))
 intro y2 e2
 try simp only [Int.toNat_natCast, Int.toNat_zero] at e2
 refine Ea (o_ld rfl rfl) (Ea (Ee rfl) (Ed (Ec (Eb [7, 9, 14, 15, 16] rfl (Ef (Eg (Ea (Ee rfl) ?_)))))))
 first | refine Ea (o_quo rfl rfl (by decide)) ?_ | refine Ea (o_quo rfl rfl (by omega)) ?_
 refine Ea (Ee rfl) (s_iaM rfl rfl (by omega) ?_)
 intro y3 e3
 try simp only [Int.toNat_natCast, Int.toNat_zero] at e3
 refine Ea (o_ld rfl rfl) ?_
 first | refine Ea (o_quo rfl rfl (by decide)) ?_ | refine Ea (o_quo rfl rfl (by omega)) ?_
 refine Ea (o_neq rfl rfl) (Ed (Ec (Eb [7, 14, 15, 16, 26] rfl ?_)))
 first | refine Em rfl ?_ ?_ | refine Ek rfl ?_ ?_
 intro h4
 try rw [nnp] at h4
 refine Ef (Eg (Ea (Ee rfl) (Ed (Ec (Eb [6] rfl (Ej (q_blkR (Eu (q_loopR (q_blkR (Eu ?_)))))))))))
 refine Eo rfl rfl ?_
 rotate_left
 intro h4
 try rw [nnp] at h4
 refine Et (q_blkN (Ec (Eb [7, 14, 15, 16] rfl (Eg ?_))))
 first | refine Ea (o_addn rfl rfl (by omega)) ?_ | refine Ea (o_add rfl rfl) ?_
 refine Ea (Ee rfl) (Ed (q_loopN ?_))
 · exact ⟨i + 1, ⟨by omega, all_take (by assumption : (burstL a s b)[i]? = some _) hi.2 (page_is (by assumption : (burstL a s b)[0]? = some _) (by assumption))⟩, by omega, hasOf ⟨rfl, trivial⟩ rfl⟩
 intro h1
 try rw [nnp] at h1
 refine s_exit (q_seqX (q_loopX (q_blkH (Ec (Eb [7] rfl (Ef (Eg (Ea (Ee rfl) ?_))))))))
 first | refine Ea (o_lenM rfl) ?_ | refine Ea (o_len rfl) ?_ | refine Ea (o_lenL rfl rfl rfl) ?_ | refine Ea (o_lenN rfl) ?_
 refine Ea (o_gtr rfl rfl) (Ea (Ee rfl) (Ed (Ec (Eb [6] rfl (Ej (Eo rfl rfl ?_))))))
 rotate_left
 all_goals
  first | (unfold burstOk; rw [all_no (by assumption : (burstL a s b)[i]? = some _) (page_no (by assumption : (burstL a s b)[0]? = some _) (by assumption))]; rfl; done) | (unfold burstOk; rw [all_end hi.2 (by omega)]; simp; done)
theorem c_180 (a s b : Int) : CV prg 180 [.w (.int .i64 a), .w (.int .i64 s), .w (.int .i64 b)] (fun res => res = .w (.bool (burstOk a s b))) := by
 have hlen := burstL_le a s b
 refine cv_in g180 (Eb [0, 1, 2] rfl (Ef (Eg (Ea (Ee rfl) (Ed (Ec (Eb [0, 1, 2] rfl (Ef (Eg (Ea (Ee rfl) (Ea (Ee rfl) ?_)))))))))))
 refine Ea (Ee rfl) (Ew rfl rfl (c_179 ..) (Ea (Ee rfl) (Ed (Ec (Eb [7] rfl (Ef (Ef (Eg (Ea (Ee rfl) (Ed (Ec ?_)))))))))))
 refine Eb [7, 8] rfl (Fb (S_loop0 (ι := Nat) (fun i => i ≤ (burstL a s b).length ∧ ((burstL a s b).take i).all (onPage (burstL a s b)) = true) (fun i => [(8, .w (.int .i64 (i : Int)))]) (fun i => (burstL a s b).length - i) 0 (by simp) rfl ⟨rfl, trivial⟩ (fun _ _ => rfl) rfl ?_))
 intro i hi
 refine Eb [7, 8] rfl (Ef (Ef (Eg (Ea (Ee rfl) (Ea (Ee rfl) ?_)))))
 first | refine Ea (o_lenM rfl) ?_ | refine Ea (o_len rfl) ?_ | refine Ea (o_lenL rfl rfl rfl) ?_ | refine Ea (o_lenN rfl) ?_
 refine Ea (o_lss rfl rfl) (Ed (Ec (Eb [7, 8, 16] rfl ?_)))
 first | refine Em rfl ?_ ?_ | refine Ek rfl ?_ ?_
 intro h1
 try rw [nnp] at h1
 refine Et (Ec (Eb [7, 8] rfl (Ef (Fb (Ef (Eg (Ea (Ee rfl) (Ea (Ee rfl) (s_iaM rfl rfl (by omega) ?_)))))))))
 intro y2 e2
 try simp only [Int.toNat_natCast, Int.toNat_zero] at e2
 refine Ea (o_ld rfl rfl) ?_
 first | refine Ea (o_quo rfl rfl (by decide)) ?_ | refine Ea (o_quo rfl rfl (by omega)) ?_
 refine Ea (Ee rfl) (s_iaM rfl rfl (by omega) ?_)
 intro y3 e3
 try simp only [Int.toNat_natCast, Int.toNat_zero] at e3
 refine Ea (o_ld rfl rfl) ?_
 first | refine Ea (o_quo rfl rfl (by decide)) ?_ | refine Ea (o_quo rfl rfl (by omega)) ?_
 refine Ea (o_neq rfl rfl) (Ed (Ec (Eb [7, 8, 28] rfl ?_)))
 first | refine Em rfl ?_ ?_ | refine Ek rfl ?_ ?_
 intro h4
 try rw [nnp] at h4
 refine Ef (Eg (Ea (Ee rfl) (Ed (Ec (Eb [6] rfl (Ej (q_blkR (Eu (q_loopR (q_blkR (Eu ?_)))))))))))
 refine Eo rfl rfl ?_
 rotate_left
 intro h4
 try rw [nnp] at h4
 refine Et (q_blkN (Ec (Eb [7, 8] rfl (Eg (Ea (Ee rfl) ?_)))))
 first | refine Ea (o_addn rfl rfl (by omega)) ?_ | refine Ea (o_add rfl rfl) ?_
 refine Ea (Ee rfl) (Ed (q_loopN ?_))
 · exact ⟨i + 1, ⟨by omega, all_take (by assumption : (burstL a s b)[i]? = some _) hi.2 (page_is (by assumption : (burstL a s b)[0]? = some _) (by assumption))⟩, by omega, hasOf ⟨rfl, trivial⟩ rfl⟩
 intro h1
 try rw [nnp] at h1
 refine s_exit (q_seqX (q_loopX (q_blkH (Ec (Eb [7] rfl (Ef (Eg (Ea (Ee rfl) ?_))))))))
 first | refine Ea (o_lenM rfl) ?_ | refine Ea (o_len rfl) ?_ | refine Ea (o_lenL rfl rfl rfl) ?_ | refine Ea (o_lenN rfl) ?_
 refine Ea (o_gtr rfl rfl) (Ea (Ee rfl) (Ed (Ec (Eb [6] rfl (Ej (Eo rfl rfl ?_))))))
 rotate_left
 all_goals
  first | (unfold burstOk; rw [all_no (by assumption : (burstL a s b)[i]? = some _) (page_no (by assumption : (burstL a s b)[0]? = some _) (by assumption))]; rfl; done) | (unfold burstOk; rw [all_end hi.2 (by omega)]; simp; done)
theorem c_266 (xs : List Int) (hl : xs.length ≤ 140737488355328) (f : Nat) (caps : List V) (hc : caps.all (V.fzV 5) = true) (p : Int → Bool) (h : ∀ y, y ∈ xs → CV prg f (.w (.int .i64 y) :: caps) (fun v => v = .w (.bool (p y)))) : CV prg 266 [.sl 1 (xs.map iR), .fn f caps] (fun res => res = .w (.int .i64 (idxOf p xs))) := by
 refine cv_in g266 (Eb [0, 1] rfl (Ef (Eg (Ea (Ee rfl) (Ed (Ec (Eb [0, 1] rfl (Ef (Ef (Eg (Ea (Ee rfl) ?_)))))))))))
 first | refine Ea (o_lenM rfl) ?_ | refine Ea (o_len rfl) ?_
 refine Ea (Ee rfl) (Ed (Ec (Eb [0, 1, 7, 8] rfl (Fb (S_loop0 (ι := Nat) (fun i => i ≤ xs.length ∧ (xs.take i).any p = false) (fun i => [(8, .w (.int .i64 (i : Int)))]) (fun i => xs.length - i) 0 (by simp) rfl ⟨rfl, trivial⟩ (fun _ _ => rfl) rfl ?_)))))
 intro i hi
 refine Eb [0, 1, 7, 8] rfl (Ef (Eg (Ea (o_lss rfl rfl) (Ed (Ec (Eb [0, 1, 7, 8, 9] rfl (Ef ?_)))))))
 first | refine Em rfl ?_ ?_ | refine Ek rfl ?_ ?_
 intro h1
 try rw [nnp] at h1
 refine Et (Ec (Eb [0, 1, 7, 8] rfl (Ef (Fb (Ef (Eg (Ea (Ee rfl) (Ea (Ee rfl) (Ed (Ec (Eb [0, 1, 5, 7, 8] rfl ?_)))))))))))
 refine Ef (Eg (Ea (Ee rfl) (Ea (Ee rfl) (Ea (Ee rfl) (s_iaM rfl rfl (by simp at *; omega) ?_)))))
 intro y2 e2
 try simp only [Int.toNat_natCast, Int.toNat_zero] at e2
 refine Ea (o_ld rfl rfl) (s_calli rfl rfl (fz1 rfl hc) (h _ (List.mem_of_getElem? (by assumption))) (Ed (Ec (Eb [0, 1, 5, 7, 8, 16] rfl ?_))))
 first | refine Em rfl ?_ ?_ | refine s_condN rfl ?_ ?_ | refine s_condNB rfl ?_ ?_ | refine Ek rfl ?_ ?_
 intro h3
 try rw [nnp] at h3
 refine Ef (Eg (Ea (Ee rfl) (Ea (Ee rfl) (Ed (Ec (Eb [4] rfl (Ej (q_blkR (Eu (q_loopR (q_blkR ?_)))))))))))
 refine Eu (ret_leafIR rfl rfl ?_)
 rotate_left
 intro h3
 try rw [nnp] at h3
 refine Et (q_blkN (Ec (Eb [0, 1, 7, 8] rfl (Eg ?_))))
 first | refine Ea (o_addn rfl rfl (by omega)) ?_ | refine Ea (o_add rfl rfl) ?_
 refine Ea (Ee rfl) (Ed (q_loopN ?_))
 · exact ⟨i + 1, ⟨by omega, any_take (by assumption) hi.2 (by assumption)⟩, by omega, hasOf ⟨rfl, trivial⟩ rfl⟩
 intro h1
 try rw [nnp] at h1
 refine s_exit (q_seqX (q_loopX (q_blkH (Ec (Eb [] rfl (Ef (Eg (Ea (Ee rfl) (Ed (Ec (Eb [4] rfl ?_)))))))))))
 refine Ej (ret_leafIR rfl rfl ?_)
 rotate_left
 all_goals
  first | exact (idxOf_at (by assumption) hi.2 (by assumption)).symm | exact (idxOf_no (any_end hi.2 (by omega))).symm
theorem c_257 (xs : List Int) (hl : xs.length ≤ 140737488355328) (f : Nat) (caps : List V) (hc : caps.all (V.fzV 5) = true) (p : Int → Bool) (h : ∀ y, y ∈ xs → CV prg f (.w (.int .i64 y) :: caps) (fun v => v = .w (.bool (p y)))) : CV prg 257 [.sl 1 (xs.map iR), .fn f caps] (fun res => res = .w (.bool (xs.any p))) := by
 refine cv_in g257 (Eb [0, 1] rfl (Ef (Eg (Ea (Ee rfl) (Ed (Ec (Eb [0, 1] rfl (Ef (Eg (Ea (Ee rfl) (Ea (Ee rfl) ?_)))))))))))
 refine Ew rfl (fz2 rfl hc) (c_266 _ (by assumption) _ _ hc _ h) (Ea (o_geq rfl rfl) (Ea (Ee rfl) (Ed (Ec (Eb [4] rfl (Ej (Eo rfl rfl ?_)))))))
 rotate_left
 all_goals
  exact idxOf_any p xs
def Req.ok (x : Req) : Bool := burstOk x.addr x.size x.burst && decide ((x.data.length : Int) = if x.write then beats x.burst else 0) && x.data.all fun v => inB v 0 (limit x.size - 1)
theorem data_not (l : Int) (xs : List Int) : (!xs.any (fun v => !inB v 0 l)) = xs.all (fun v => inB v 0 l) := by
 induction xs with
 | nil => rfl
 | cons m xs ih => simp only [List.any_cons, List.all_cons, Bool.not_or, Bool.not_not, ih]
theorem Req.ok_len {x : Req} (h : x.ok = true) : x.data.length ≤ 8 := by
 simp only [Req.ok, Bool.and_eq_true, decide_eq_true_eq] at h
 have := beats_bd x.burst
 have h2 := h.1.2
 split at h2 <;> omega
theorem c_67 (d : Int) (x : Req) : CV prg 67 [.w (.int .i64 d), .rp x.r 0] (fun res => res = .w (.bool (!inB d 0 (limit x.size - 1)))) := by
 refine cv_in g67 (Eb [0, 1] rfl (Ef (Eg (Ea (Ee rfl) (Ed (Ec (Eb [0, 1] rfl (Ef (Eg (Ea (Ee rfl) (Ea (o_fa rfl) ?_)))))))))))
 refine Ea (o_ld rfl rfl) ?_
 first | refine Ew rfl rfl (c_92 ..) ?_ | refine Fa rfl rfl (by simp) (c_92 ..) rfl ?_
 refine Ea (o_not rfl) (Ea (Ee rfl) (Ed (Ec (Eb [3] rfl (Ej (Eo rfl rfl ?_))))))
 rotate_left
 all_goals
  rfl
theorem c_66 (x : Req) (hs : x.small) : CV prg 66 [.agg x.r] (fun res => res = .w (.bool x.ok)) := by
 have hd : x.data.length ≤ 1048576 := hs
 refine cv_in g66 (Eb [0] rfl (Ef (Eg (Ea (o_box rfl rfl rfl) (Ea (Ee rfl) (Ed (Ec (Eb [1] rfl (Ef (Eg (Ea (Ee rfl) ?_)))))))))))
 refine Ed (Ec (Eb [1, 3] rfl (Ef (Ef (Eg (Ea (Ep rfl) (Ea (Ey rfl rfl rfl) (Ed (Ec (Eb [1, 3, 5] rfl ?_))))))))))
 first | refine Em rfl ?_ ?_ | refine s_condN rfl ?_ ?_ | refine s_condNB rfl ?_ ?_ | refine Ek rfl ?_ ?_
 intro h1
 try rw [nnp] at h1
 refine Eg (Ea (Ep rfl) (Ea (Ey rfl rfl rfl) ?_))
 first | refine Ew rfl rfl (c_22 ..) ?_ | refine Fa rfl rfl (by simp) (c_22 ..) rfl ?_
 refine Ea (Ee rfl) (Ed (Ec (Eb [1, 3] rfl (Ef (Eg (Ea (Ep rfl) (Ea (Ey rfl rfl rfl) (Ea (Ep rfl) (Ea (Ey rfl rfl rfl) (Ea (Ep rfl) (Ea (Ey rfl rfl rfl) ?_)))))))))))
 first | refine Ew rfl rfl (c_30 ..) ?_ | refine Fa rfl rfl (by simp) (c_30 ..) rfl ?_
 refine Ea (Ee rfl) ?_
 first | refine s_gDT rfl ?_ ?_ | refine s_gNDT rfl ?_ ?_ | refine s_gNT rfl ?_ ?_ | refine s_gB rfl ?_ ?_
 intro h2
 try rw [nnp] at h2
 refine Ea (Ep rfl) (Ev rfl (Ea (Ey rfl rfl rfl) (Ev rfl ?_)))
 first | refine Ea (o_lenM rfl) ?_ | refine Ea (o_len rfl) ?_ | refine Ea (o_lenL rfl rfl rfl) ?_ | refine Ea (o_lenN rfl) ?_
 refine Ev rfl (Ea (Ee rfl) (Ev rfl (Ea (o_eql rfl rfl) (Ea (Er rfl rfl) (Fd (is := [1, 22]) rfl (Ea (Ee rfl) ?_))))))
 first | refine s_gDT rfl ?_ ?_ | refine s_gB rfl ?_ ?_
 intro h3
 try rw [nnp] at h3
 refine Ea (Ep rfl) (Ev rfl (Ea (Ey rfl rfl rfl) (Ev rfl (Ea (o_fn rfl) (Ev rfl (Fa rfl rfl (by simp) (c_257 _ (by omega) _ _ rfl (fun d => !inB d 0 (limit x.size - 1)) (fun y _ => c_67 y x)) rfl (Ev rfl (Ea (o_not rfl) (Ea (Er rfl rfl) (Ea (Ee rfl) (Ed ?_)))))))))))
 refine Ec (Eb [2] rfl (Ej (Eo rfl rfl ?_)))
 rotate_left
 intro h3
 try rw [nnp] at h3
 refine Eh rfl (Eh rfl (Eh rfl (Eh rfl (Eh rfl (Ea (En rfl rfl) (Ea (Ee rfl) (Ed (Ec (Eb [2] rfl (Ej (Eo rfl rfl ?_)))))))))))
 rotate_left
 intro h2
 try rw [nnp] at h2
 refine Eh rfl (Eh rfl (Eh rfl (Eh rfl (Eh rfl (Ea (En rfl rfl) (Fd (is := [1, 22]) rfl (Ea (Ee rfl) (Eh rfl (Eh rfl (Eh rfl (Eh rfl ?_)))))))))))
 refine Eh rfl (Ea (En rfl rfl) (Ea (Ee rfl) (Ed (Ec (Eb [2] rfl (Ej (Eo rfl rfl ?_)))))))
 rotate_left
 intro h1
 try rw [nnp] at h1
 refine Et (Ec (Eb [1, 3] rfl (Ef (Eg (Ea (Ep rfl) (Ea (Ey rfl rfl rfl) (Ea (Ep rfl) (Ea (Ey rfl rfl rfl) (Ea (Ep rfl) (Ea (Ey rfl rfl rfl) ?_))))))))))
 first | refine Ew rfl rfl (c_30 ..) ?_ | refine Fa rfl rfl (by simp) (c_30 ..) rfl ?_
 refine Ea (Ee rfl) ?_
 first | refine s_gDT rfl ?_ ?_ | refine s_gNDT rfl ?_ ?_ | refine s_gNT rfl ?_ ?_ | refine s_gB rfl ?_ ?_
 intro h4
 try rw [nnp] at h4
 refine Ea (Ep rfl) (Ev rfl (Ea (Ey rfl rfl rfl) (Ev rfl ?_)))
 first | refine Ea (o_lenM rfl) ?_ | refine Ea (o_len rfl) ?_ | refine Ea (o_lenL rfl rfl rfl) ?_ | refine Ea (o_lenN rfl) ?_
 refine Ev rfl (Ea (Ee rfl) (Ev rfl (Ea (o_eql rfl rfl) (Ea (Er rfl rfl) (Fd (is := [1, 22]) rfl (Ea (Ee rfl) ?_))))))
 first | refine s_gDT rfl ?_ ?_ | refine s_gB rfl ?_ ?_
 intro h5
 try rw [nnp] at h5
 refine Ea (Ep rfl) (Ev rfl (Ea (Ey rfl rfl rfl) (Ev rfl (Ea (o_fn rfl) (Ev rfl (Fa rfl rfl (by simp) (c_257 _ (by omega) _ _ rfl (fun d => !inB d 0 (limit x.size - 1)) (fun y _ => c_67 y x)) rfl (Ev rfl (Ea (o_not rfl) (Ea (Er rfl rfl) (Ea (Ee rfl) (Ed ?_)))))))))))
 refine Ec (Eb [2] rfl (Ej (Eo rfl rfl ?_)))
 rotate_left
 intro h5
 try rw [nnp] at h5
 refine Eh rfl (Eh rfl (Eh rfl (Eh rfl (Eh rfl (Ea (En rfl rfl) (Ea (Ee rfl) (Ed (Ec (Eb [2] rfl (Ej (Eo rfl rfl ?_)))))))))))
 rotate_left
 intro h4
 try rw [nnp] at h4
 refine Eh rfl (Eh rfl (Eh rfl (Eh rfl (Eh rfl (Ea (En rfl rfl) (Fd (is := [1, 22]) rfl (Ea (Ee rfl) (Eh rfl (Eh rfl (Eh rfl (Eh rfl ?_)))))))))))
 refine Eh rfl (Ea (En rfl rfl) (Ea (Ee rfl) (Ed (Ec (Eb [2] rfl (Ej (Eo rfl rfl ?_)))))))
 rotate_left
 all_goals
  first | (rw [data_not]; simp_all [Req.ok]; done) | (simp_all [Req.ok]; done)
theorem c_207 (x : Req) (hs : x.small) : CV prg 207 [.agg x.r] (fun res => res = .w (.bool x.ok)) := by
 have hd : x.data.length ≤ 1048576 := hs
 have hz := limit_bd x.size
 refine cv_in g207 (Eb [0] rfl (Ef (Eg (Ea (o_box rfl rfl rfl) (Ea (Ee rfl) (Ed (Ec (Eb [1] rfl (Ef (Ef (Eg ?_)))))))))))
 refine Ea (Ep rfl) (Ea (Ey rfl rfl rfl) (Ea (Ep rfl) (Ea (Ey rfl rfl rfl) (Ea (Ep rfl) (Ea (Ey rfl rfl rfl) ?_)))))
 first | refine Ew rfl rfl (c_180 ..) ?_ | refine Fa rfl rfl (by simp) (c_180 ..) rfl ?_
 refine Ea (o_not rfl) (Ed (Ec (Eb [1, 11] rfl ?_)))
 first | refine Em rfl ?_ ?_ | refine s_condN rfl ?_ ?_ | refine s_condNB rfl ?_ ?_ | refine Ek rfl ?_ ?_
 intro h1
 try rw [nnp] at h1
 refine Ef (Eg (Ea (Ee rfl) (Ed (Ec (Eb [2] rfl (Ej (Eu (Eo rfl rfl ?_))))))))
 rotate_left
 intro h1
 try rw [nnp] at h1
 refine Et (Ec (Eb [1] rfl (Ef (Ef (Eg (Ea (Ee rfl) (Ed (Ec (Eb [1, 3] rfl (Fb (S_loop0 (ι := Nat) (fun i => i ≤ x.data.length ∧ (x.data.take i).all (fun v => inB v 0 (limit x.size - 1)) = true) (fun i => [(3, .w (.int .i64 (i : Int)))]) (fun i => x.data.length - i) 0 (by simp) rfl ⟨rfl, trivial⟩ (fun _ _ => rfl) rfl ?_)))))))))))
 intro i hi
 refine Eb [1, 3] rfl (Ef (Ef (Eg (Ea (Ee rfl) (Ea (Ep rfl) (Ea (Ey rfl rfl rfl) ?_))))))
 first | refine Ea (o_lenM rfl) ?_ | refine Ea (o_len rfl) ?_ | refine Ea (o_lenL rfl rfl rfl) ?_ | refine Ea (o_lenN rfl) ?_
 refine Ea (o_lss rfl rfl) (Ed (Ec (Eb [1, 3, 16] rfl ?_)))
 first | refine Em rfl ?_ ?_ | refine Ek rfl ?_ ?_
 intro h2
 try rw [nnp] at h2
 refine Et (Ec (Eb [1, 3] rfl (Ef (Fb (Ef (Eg (Ea (Ep rfl) (Ea (Ey rfl rfl rfl) (Ea (Ee rfl) (s_iaM rfl rfl (by omega) ?_))))))))))
 intro y3 e3
 try simp only [Int.toNat_natCast, Int.toNat_zero] at e3
 refine Ea (o_ld rfl rfl) (Ea (Ep rfl) (Ea (Ey rfl rfl rfl) ?_))
 first | refine Ew rfl rfl (c_201 ..) ?_ | refine Fa rfl rfl (by simp) (c_201 ..) rfl ?_
 first | refine Ea (o_subn rfl rfl (by omega)) ?_ | refine Ea (o_sub rfl rfl) ?_
 first | refine Ew rfl rfl (c_230 ..) ?_ | refine Fa rfl rfl (by simp) (c_230 ..) rfl ?_
 refine Ea (o_not rfl) (Ed (Ec (Eb [1, 3, 29] rfl ?_)))
 first | refine Em rfl ?_ ?_ | refine s_condN rfl ?_ ?_ | refine s_condNB rfl ?_ ?_ | refine Ek rfl ?_ ?_
 intro h4
 try rw [nnp] at h4
 refine Ef (Eg (Ea (Ee rfl) (Ed (Ec (Eb [2] rfl (Ej (q_blkR (Eu (q_loopR (q_blkR (Eu ?_)))))))))))
 refine Eo rfl rfl ?_
 rotate_left
 intro h4
 try rw [nnp] at h4
 refine Et (q_blkN (Ec (Eb [1, 3] rfl (Eg (Ea (Ee rfl) ?_)))))
 first | refine Ea (o_addn rfl rfl (by omega)) ?_ | refine Ea (o_add rfl rfl) ?_
 refine Ea (Ee rfl) (Ed (q_loopN ?_))
 · exact ⟨i + 1, ⟨by omega, all_take (by assumption) hi.2 (by assumption)⟩, by omega, hasOf ⟨rfl, trivial⟩ rfl⟩
 intro h2
 try rw [nnp] at h2
 refine s_exit (q_seqX (q_loopX (q_blkH (Ec (Eb [1] rfl (Ef (Eg (Ea (Ep rfl) (Ea (Ey rfl rfl rfl) ?_)))))))))
 first | refine Ea (o_lenM rfl) ?_ | refine Ea (o_len rfl) ?_ | refine Ea (o_lenL rfl rfl rfl) ?_ | refine Ea (o_lenN rfl) ?_
 refine Ea (o_eql rfl rfl) (Ea (Ee rfl) ?_)
 first | refine s_gDT rfl ?_ ?_ | refine s_gB rfl ?_ ?_
 intro h5
 try rw [nnp] at h5
 refine Ea (Ep rfl) (Ev rfl (Ea (Ey rfl rfl rfl) (Ev rfl (Ea (o_not rfl) (Ea (Er rfl rfl) (Ea (Ee rfl) ?_))))))
 first | refine s_gDF rfl ?_ ?_ | refine s_gNDF rfl ?_ ?_ | refine s_gNF rfl ?_ ?_ | refine s_gB rfl ?_ ?_
 intro h6
 try rw [nnp] at h6
 refine Ea (Ep rfl) (Ev rfl (Ea (Ey rfl rfl rfl) (Ev rfl ?_)))
 first | refine Ea (o_lenM rfl) ?_ | refine Ea (o_len rfl) ?_ | refine Ea (o_lenL rfl rfl rfl) ?_ | refine Ea (o_lenN rfl) ?_
 refine Ev rfl (Ea (Ep rfl) (Fd (is := [1, 39, 42, 43]) rfl (Ev rfl (Ea (Ey rfl rfl rfl) (Ev rfl ?_)))))
 first | refine Ew rfl rfl (c_173 ..) ?_ | refine Fa rfl rfl (by simp) (c_173 ..) rfl ?_
 refine Ev rfl (Ea (o_eql rfl rfl) (Ev rfl (Ea (Ee rfl) ?_)))
 first | refine s_gDT rfl ?_ ?_ | refine s_gB rfl ?_ ?_
 intro h7
 try rw [nnp] at h7
 refine Ea (Ep rfl) (Ev rfl (Ea (Ey rfl rfl rfl) (Ev rfl (Ea (Er rfl rfl) (Ea (En rfl rfl) (Ea (Ee rfl) (Ed (Ec (Eb [2] rfl (Ej (Eo rfl rfl ?_)))))))))))
 rotate_left
 intro h7
 try rw [nnp] at h7
 refine Eh rfl (Eh rfl (Ev rfl (Ea (En rfl rfl) (Ea (En rfl rfl) (Ea (Ee rfl) (Ed (Ec (Eb [2] rfl (Ej (Eo rfl rfl ?_))))))))))
 rotate_left
 intro h6
 try rw [nnp] at h6
 refine Eh rfl (Eh rfl (Eh rfl (Eh rfl (Fd (is := [1, 39, 42, 43]) rfl (Eh rfl (Eh rfl (Eh rfl (Eh rfl (s_gN rfl (s_gN rfl (Eh rfl ?_)))))))))))
 refine Ea (Er rfl rfl) (Ea (Ee rfl) (Ed (Ec (Eb [2] rfl (Ej (Eo rfl rfl ?_))))))
 rotate_left
 intro h5
 try rw [nnp] at h5
 refine Eh rfl (Eh rfl (Eh rfl (Ea (En rfl rfl) (Ea (Ee rfl) (Ev rfl (Ea (Ep rfl) (Ev rfl (Ea (Ey rfl rfl rfl) (Ev rfl ?_)))))))))
 first | refine Ea (o_lenM rfl) ?_ | refine Ea (o_len rfl) ?_ | refine Ea (o_lenL rfl rfl rfl) ?_ | refine Ea (o_lenN rfl) ?_
 refine Ev rfl (Ea (Ep rfl) (Fd (is := [1, 39, 42, 43]) rfl (Ev rfl (Ea (Ey rfl rfl rfl) (Ev rfl ?_)))))
 first | refine Ew rfl rfl (c_173 ..) ?_ | refine Fa rfl rfl (by simp) (c_173 ..) rfl ?_
 refine Ev rfl (Ea (o_eql rfl rfl) (Ev rfl (Ea (Ee rfl) ?_)))
 first | refine s_gDT rfl ?_ ?_ | refine s_gB rfl ?_ ?_
 intro h8
 try rw [nnp] at h8
 refine Ea (Ep rfl) (Ev rfl (Ea (Ey rfl rfl rfl) (Ev rfl (Ea (Er rfl rfl) (Ea (En rfl rfl) (Ea (Ee rfl) (Ed (Ec (Eb [2] rfl (Ej (Eo rfl rfl ?_)))))))))))
 rotate_left
 intro h8
 try rw [nnp] at h8
 refine Eh rfl (Eh rfl (Ev rfl (Ea (En rfl rfl) (Ea (En rfl rfl) (Ea (Ee rfl) (Ed (Ec (Eb [2] rfl (Ej (Eo rfl rfl ?_))))))))))
 rotate_left
 all_goals
  first | (unfold Req.ok; rw [all_no (by assumption) (by assumption)]; simp; done) | (have ha := all_end hi.2 (by omega); clear hi; cases hw : x.write <;> simp_all [Req.ok]; done) | (have ha := all_end hi.2 (by omega); clear hi; cases hw : x.write <;> simp_all [Req.ok] <;> omega) | (simp_all [Req.ok]; done)
def Mst.beats (m : Mst) : Int := match m.queue[0]? with | some r => AL.beats r.burst | none => 0
def Mst.right (m : Mst) : Bool := decide (m.queue.length ≤ 4) && decide (0 ≤ m.tries) && m.queue.all Req.ok &&
 (if m.queue.length = 0 then decide (m.beat = 0) && decide (m.done = 0) && decide (m.tries = 0) && !m.parted && !m.broken else inB m.done 0 (m.beats - 1) && inB m.beat m.done (min (m.done + 2) m.beats))
theorem Mst.beats_bd (m : Mst) : 0 ≤ m.beats ∧ m.beats ≤ 8 := by
 unfold Mst.beats
 split
 · exact AL.beats_bd _
 · simp
def okAt (c : Conf) (s : Script) (i : Nat) : Bool := match s.posts[i]? with
 | some p => inB p.moment 0 4000 && inB p.who 0 (c.masters.length - 1) && p.req.ok && (match i with
   | 0 => true
   | j + 1 => match s.posts[j]? with
     | some q => decide (q.moment ≤ p.moment)
     | none => true)
 | none => true
def Script.ok (s : Script) (c : Conf) : Bool := c.ok && decide (s.posts.length ≤ 20) && decide (s.waits.length ≤ 20) && decide (s.says.length ≤ 20) && (List.range s.posts.length).all (okAt c s)
def Wrr.hit (w : Wrr) (req : List Bool) (i : Nat) : Bool := (req[((w.pos + ((i : Int) + 1)).tmod req.length).toNat]?).getD false
def Wrr.pick (w : Wrr) (c : Conf) (req : List Bool) : Wrr × Int := if w.ok c && decide (req.length = c.masters.length) then
    (if decide (0 < w.credit) && (req[w.pos.toNat]?).getD false then (⟨w.pos, IntKind.wrap .i64 (w.credit - 1)⟩, w.pos)
     else match (List.range req.length).find? (w.hit req) with
      | some i => (⟨(w.pos + ((i : Int) + 1)).tmod req.length, IntKind.wrap .i64 (c.turn ((w.pos + ((i : Int) + 1)).tmod req.length) - 1)⟩, (w.pos + ((i : Int) + 1)).tmod req.length)
      | none => (⟨w.pos, 0⟩, -1))
 else (w, -1)
def band (a b : Int) : Int := IntKind.wrap .i64 ((BitVec.ofInt 64 a &&& BitVec.ofInt 64 b).toNat : Nat)
def bxor (a b : Int) : Int := IntKind.wrap .i64 ((BitVec.ofInt 64 a ^^^ BitVec.ofInt 64 b).toNat : Nat)
theorem o_band {G : Prg} {q : Bool} {tl : Tl} {L : List LB} {x y a b} (hx : evE tl x = some (.w (.int .i64 a))) (hy : evE tl y = some (.w (.int .i64 b))) : OpV G q (.bin .and x y) tl L (some (.w (.int .i64 (band a b)))) L :=
 o_bin hx hy rfl rfl
theorem o_bxor {G : Prg} {q : Bool} {tl : Tl} {L : List LB} {x y a b} (hx : evE tl x = some (.w (.int .i64 a))) (hy : evE tl y = some (.w (.int .i64 b))) : OpV G q (.bin .xor x y) tl L (some (.w (.int .i64 (bxor a b)))) L :=
 o_bin hx hy rfl rfl
theorem band_bd (a : Int) : 0 ≤ band a 255 ∧ band a 255 ≤ 255 := by
 have h : (BitVec.ofInt 64 a &&& BitVec.ofInt 64 255).toNat ≤ 255 := by
  rw [BitVec.toNat_and]
  exact Nat.le_trans Nat.and_le_right (by decide)
 unfold band
 rw [wrap_in _ (by omega)]
 omega
def cur (code : List Int) (i h : Int) : LB := .cell [.sl 1 (code.map uR), .w (.int .i64 i), .w (.int .i64 h)]
theorem tmod_bd {x n : Int} (hx : 0 ≤ x) (hn : 0 < n) : 0 ≤ x.tmod n ∧ x.tmod n < n := ⟨Int.tmod_nonneg _ hx, Int.tmod_lt_of_pos _ hn⟩
theorem cg_229 (code : List Int) (hc : code.length ≤ 1048576) (i h : Int) (hi : 0 ≤ i ∧ i ≤ code.length) : GV prg 229 [cur code i h] [.cp 0 0] (fun u L1 => (∃ x, u = .w (.int .i64 x) ∧ 0 ≤ x ∧ x ≤ 255) ∧ ∃ (i h : Int), (0 ≤ i ∧ i ≤ code.length) ∧ L1 = [cur code i h]) := by
 refine gv_in g229 (Eb [0] rfl (Ef (Eg (Ea (Ee rfl) (Ed (Ec (Eb [0] rfl (Ef (Eg (Ea (Ee rfl) (Ea (Ee rfl) ?_)))))))))))
 refine Ea (o_nilc rfl) (Ea (Ep rfl) (Ea (Ey rfl rfl rfl) ?_))
 first | refine Ea (o_muln rfl rfl (by omega)) ?_ | refine Ea (o_mul rfl rfl) ?_
 first | refine Ea (o_addn rfl rfl (by omega)) ?_ | refine Ea (o_add rfl rfl) ?_
 refine Ea (o_nilc rfl) (Ea (Ep rfl) (s_opN (o_stC rfl rfl rfl rfl rfl rfl) (Ed (Ec (Eb [0] rfl (Ef (Eg (Ea (Ee rfl) (Ea (o_nilc rfl) (Ea (Ep rfl) (Ea (Ey rfl rfl rfl) ?_)))))))))))
 refine Ea (o_shr rfl rfl (by omega)) (Ea (Ee rfl) (Ea (o_nilc rfl) (Ea (Ep rfl) (Ea (Ey rfl rfl rfl) (Ea (o_shr rfl rfl (by omega)) (Ea (o_bxor rfl rfl) (Ea (o_band rfl rfl) (Ea (Ee rfl) (Ed (Ec (Eb [0, 3] rfl ?_)))))))))))
 refine Ef (Ef (Eg (Ea (Ee rfl) (Ea (o_nilc rfl) (Ea (Ep rfl) (Ea (Ey rfl rfl rfl) (Ea (Ee rfl) (Ea (o_nilc rfl) (Ea (Ep rfl) (Ea (Ey rfl rfl rfl) ?_))))))))))
 first | refine Ea (o_lenM rfl) ?_ | refine Ea (o_len rfl) ?_ | refine Ea (o_lenL rfl rfl rfl) ?_ | refine Ea (o_lenN rfl) ?_
 refine Ea (o_lss rfl rfl) (Ed (Ec (Eb [0, 3, 34] rfl ?_)))
 first | refine Em rfl ?_ ?_ | refine Ek rfl ?_ ?_
 intro h1
 try rw [nnp] at h1
 refine Ef (Eg (Ea (Ee rfl) (Ea (Ee rfl) (Ea (o_nilc rfl) (Ea (Ep rfl) (Ea (Ey rfl rfl rfl) (Ea (Ee rfl) (Ea (o_nilc rfl) (Ea (Ep rfl) (Ea (Ey rfl rfl rfl) (s_iaM rfl rfl (by omega) ?_)))))))))))
 intro y2 e2
 try simp only [Int.toNat_natCast, Int.toNat_zero] at e2
 refine Ea (o_ld rfl rfl) (Ea (o_cvi rfl) ?_)
 first | refine Ea (o_addn rfl rfl (by omega)) ?_ | refine Ea (o_add rfl rfl) ?_
 refine Ea (o_band rfl rfl) (Ea (Ee rfl) (Ed (Ec (Eb [0, 3] rfl (Eg (Ea (Ee rfl) (Ea (Ee rfl) (Ea (o_nilc rfl) (Ea (Ep rfl) (Ea (Ey rfl rfl rfl) ?_))))))))))
 first | refine Ea (o_addn rfl rfl (by omega)) ?_ | refine Ea (o_add rfl rfl) ?_
 refine Ea (o_nilc rfl) (Ea (Ep rfl) (s_opN (o_stC rfl rfl rfl rfl rfl rfl) (Ed (Ec (Eb [3] rfl (Ef (Eg (Ea (Ee rfl) (Ea (Ee rfl) (Ed (Ec ?_)))))))))))
 refine Eb [2] rfl (Ej ?_)
 · refine Ei [] (.inr rfl) rfl rfl rfl rfl (show (List.range 1 ++ []).Nodup by decide) ?_
   exact ⟨⟨_, rfl, band_bd _⟩, _, _, (by omega), rfl⟩
 intro h1
 try rw [nnp] at h1
 refine Et (Ec (Eb [3] rfl (Ef (Eg (Ea (Ee rfl) (Ea (Ee rfl) (Ed (Ec (Eb [2] rfl (Ej ?_))))))))))
 · refine Ei [] (.inr rfl) rfl rfl rfl rfl (show (List.range 1 ++ []).Nodup by decide) ?_
   exact ⟨⟨_, rfl, band_bd _⟩, _, _, (by omega), rfl⟩
theorem cg_228 (code : List Int) (hc : code.length ≤ 1048576) (i h : Int) (hi : 0 ≤ i ∧ i ≤ code.length) (n : Int) : GV prg 228 [cur code i h] [.cp 0 0, .w (.int .i64 n)] (fun u L1 => (∃ x, u = .w (.int .i64 x) ∧ (0 < n → 0 ≤ x ∧ x < n) ∧ (n ≤ 0 → x = 0)) ∧ ∃ (i h : Int), (0 ≤ i ∧ i ≤ code.length) ∧ L1 = [cur code i h]) := by
 refine gv_in g228 (Eb [0, 1] rfl (Ef (Eg (Ea (Ee rfl) (Ed (Ec (Eb [0, 1] rfl (Ef (Ef (Eg (Ea (Ee rfl) ?_)))))))))))
 refine Ea (o_leq rfl rfl) (Ed (Ec (Eb [0, 1, 10] rfl ?_)))
 first | refine Em rfl ?_ ?_ | refine Ek rfl ?_ ?_
 intro h1
 try rw [nnp] at h1
 refine Ef (Eg (Ea (Ee rfl) (Ed (Ec (Eb [4] rfl (Ej (Eu ?_)))))))
 · refine Ei [] (.inr rfl) rfl rfl rfl rfl (show (List.range 1 ++ []).Nodup by decide) ?_
   exact ⟨⟨_, rfl, (by first | (exact ⟨fun _ => tmod_bd (by omega) (by omega), fun _ => by omega⟩) | omega)⟩, _, _, (by omega), rfl⟩
 intro h1
 try rw [nnp] at h1
 refine Et (Ec (Eb [0, 1] rfl (Ef (Ef (Eg (Ea (Ee rfl) (Ea (o_leq rfl rfl) (Ed (Ec (Eb [0, 1, 12] rfl ?_))))))))))
 first | refine Em rfl ?_ ?_ | refine Ek rfl ?_ ?_
 intro h2
 try rw [nnp] at h2
 refine Ef (Eg (Ea (Ee rfl) (Fc [0] rfl rfl rfl rfl (by simp) (.inl rfl) (cg_229 _ hc _ _ hi) ?_)))
 rintro u L1 ⟨⟨x, rfl, hx⟩, i, h, hi, rfl⟩
 refine ⟨_, _, rfl, rfl, ?_⟩
 refine Ea (Ee rfl) ?_
 first | refine Ea (o_rem rfl rfl (by decide)) ?_ | refine Ea (o_rem rfl rfl (by omega)) ?_
 refine Ea (Ee rfl) (Ed (Ec (Eb [4] rfl (Ej (Eu ?_)))))
 · refine Ei [] (.inr rfl) rfl rfl rfl rfl (show (List.range 1 ++ []).Nodup by decide) ?_
   exact ⟨⟨_, rfl, (by first | (exact ⟨fun _ => tmod_bd (by omega) (by omega), fun _ => by omega⟩) | omega)⟩, _, _, (by omega), rfl⟩
 intro h2
 try rw [nnp] at h2
 refine Et (Ec (Eb [0, 1] rfl (Ef (Eg (Ea (Ee rfl) (Fc [0] rfl rfl rfl rfl (by simp) (.inl rfl) (cg_229 _ hc _ _ hi) ?_))))))
 rintro u L1 ⟨⟨x, rfl, hx⟩, i, h, hi, rfl⟩
 refine ⟨_, _, rfl, rfl, ?_⟩
 refine Ea (Ee rfl) (Ed (Ec (Eb [0, 1, 5] rfl (Ef (Eg (Ea (Ee rfl) (Fc [0] rfl rfl rfl rfl (by simp) (.inl rfl) (cg_229 _ hc _ _ hi) ?_)))))))
 rintro u L1 ⟨⟨x, rfl, hx⟩, i, h, hi, rfl⟩
 refine ⟨_, _, rfl, rfl, ?_⟩
 refine Ea (Ee rfl) (Ed (Ec (Eb [0, 1, 5, 6] rfl (Ef (Eg (Ea (Ee rfl) (Fc [0] rfl rfl rfl rfl (by simp) (.inl rfl) (cg_229 _ hc _ _ hi) ?_)))))))
 rintro u L1 ⟨⟨x, rfl, hx⟩, i, h, hi, rfl⟩
 refine ⟨_, _, rfl, rfl, ?_⟩
 refine Ea (Ee rfl) (Ed (Ec (Eb [0, 1, 5, 6, 7] rfl (Ef (Eg (Ea (Ee rfl) (Fc [0] rfl rfl rfl rfl (by simp) (.inl rfl) (cg_229 _ hc _ _ hi) ?_)))))))
 rintro u L1 ⟨⟨x, rfl, hx⟩, i, h, hi, rfl⟩
 refine ⟨_, _, rfl, rfl, ?_⟩
 refine Ea (Ee rfl) (Ed (Ec (Eb [1, 5, 6, 7, 8] rfl (Ef (Eg (Ea (Ee rfl) ?_))))))
 first | refine Ea (o_muln rfl rfl (by omega)) ?_ | refine Ea (o_mul rfl rfl) ?_
 refine Ea (Ee rfl) ?_
 first | refine Ea (o_muln rfl rfl (by omega)) ?_ | refine Ea (o_mul rfl rfl) ?_
 first | refine Ea (o_addn rfl rfl (by omega)) ?_ | refine Ea (o_add rfl rfl) ?_
 refine Ea (Ee rfl) ?_
 first | refine Ea (o_muln rfl rfl (by omega)) ?_ | refine Ea (o_mul rfl rfl) ?_
 first | refine Ea (o_addn rfl rfl (by omega)) ?_ | refine Ea (o_add rfl rfl) ?_
 refine Ea (Ee rfl) ?_
 first | refine Ea (o_addn rfl rfl (by omega)) ?_ | refine Ea (o_add rfl rfl) ?_
 refine Ea (Ee rfl) ?_
 first | refine Ea (o_rem rfl rfl (by decide)) ?_ | refine Ea (o_rem rfl rfl (by omega)) ?_
 refine Ea (Ee rfl) (Ed (Ec (Eb [4] rfl (Ej ?_))))
 · refine Ei [] (.inr rfl) rfl rfl rfl rfl (show (List.range 1 ++ []).Nodup by decide) ?_
   exact ⟨⟨_, rfl, (by first | (exact ⟨fun _ => tmod_bd (by omega) (by omega), fun _ => by omega⟩) | omega)⟩, _, _, (by omega), rfl⟩
theorem cg_233 (code : List Int) (hc : code.length ≤ 1048576) (i h : Int) (hi : 0 ≤ i ∧ i ≤ code.length) (n : Int) : GV prg 233 [cur code i h] [.cp 0 0, .w (.int .i64 n)] (fun u L1 => (∃ b, u = .w (.bool b)) ∧ ∃ (i h : Int), (0 ≤ i ∧ i ≤ code.length) ∧ L1 = [cur code i h]) := by
 refine gv_in g233 (Eb [0, 1] rfl (Ef (Eg (Ea (Ee rfl) (Ed (Ec (Eb [0, 1] rfl (Ef (Eg (Ea (Ee rfl) (Ea (Ee rfl) ?_)))))))))))
 refine Fc [0] rfl rfl rfl rfl (by simp) (.inl rfl) (cg_228 _ hc _ _ hi _) ?_
 rintro u L1 ⟨⟨x, rfl, hx⟩, i, h, hi, rfl⟩
 refine ⟨_, _, rfl, rfl, ?_⟩
 refine Ea (o_eql rfl rfl) (Ea (Ee rfl) (Ed (Ec (Eb [4] rfl (Ej ?_)))))
 · refine Ei [] (.inr rfl) rfl rfl rfl rfl (show (List.range 1 ++ []).Nodup by decide) ?_
   exact ⟨⟨_, rfl⟩, _, _, (by omega), rfl⟩
def unI : List (List V) → Option (List Int)
 | [] => some []
 | [.w (.int .i64 x)] :: l => match unI l with
   | some r => some (x :: r)
   | none => none
 | _ => none
theorem unI_inv : ∀ {l : List (List V)} {r : List Int}, unI l = some r → l = r.map iR
 | [], r, h => by simp [unI] at h; subst h; rfl
 | a :: l, r, h => by
   unfold unI at h
   split at h
   · rename_i h1; cases h1
   · rename_i x l' e
     injection e with e1 e2
     subst e1 e2
     split at h
     · rename_i r' h1; cases h; rw [unI_inv h1]; rfl
     · cases h
   · cases h
theorem words_iR (rows : List (List V)) (xs : List Int) (h : unI rows = some xs) : ∀ lb, lb ∈ [LB.arr 1 rows] → lb.words := by
 intro lb hlb
 rw [List.mem_singleton] at hlb
 subst hlb
 rw [unI_inv h]
 intro r hr v hv
 obtain ⟨y, _, rfl⟩ := List.mem_map.1 hr
 simp [iR] at hv
 exact ⟨_, hv⟩
theorem cg_234 (code : List Int) (hc : code.length ≤ 1048576) (i h : Int) (hi : 0 ≤ i ∧ i ≤ code.length) (rows : List (List V)) (xs : List Int) (hx : unI rows = some xs) (hx0 : 0 < xs.length) (hx1 : xs.length ≤ 1048576) : GV prg 234 [cur code i h, .arr 1 rows] [.cp 0 0, .ls 1 rows.length] (fun u L1 => (∃ x, u = .w (.int .i64 x) ∧ x ∈ xs) ∧ ∃ (i h : Int), (0 ≤ i ∧ i ≤ code.length) ∧ L1 = [cur code i h, .arr 1 rows]) := by
 have hxr := unI_inv hx
 subst hxr
 clear hx
 refine gv_in g234 (Eb [0, 1] rfl (Ef (Eg (Ea (Ee rfl) (Ed (Ec (Eb [0, 1] rfl (Ef (Eg (Ea (Ee rfl) (Ea (Ee rfl) ?_)))))))))))
 refine Ea (Ee rfl) (Ea (o_lenL rfl rfl (by simp)) (Fc [0] rfl rfl rfl rfl (by simp) (.inl rfl) (cg_228 _ hc _ _ hi _) ?_))
 rintro u L1 ⟨⟨x, rfl, hx⟩, i, h, hi, rfl⟩
 refine ⟨_, _, rfl, rfl, ?_⟩
 have hx2 := hx.1 (by simp; omega)
 rw [List.length_map] at hx2
 obtain ⟨y, hy⟩ : ∃ y, xs[x.toNat]? = some y := ⟨_, List.getElem?_eq_getElem (by omega)⟩
 refine Ea (o_iaL rfl rfl (by simp) rfl (by rw [List.length_map]; omega)) ?_
 refine Ea (o_ldA rfl rfl (by simp) (by rw [List.getElem?_map, hy]; rfl) rfl) ?_
 refine Ea (Ee rfl) (Ed (Ec (Eb [4] rfl (Ej ?_))))
 · refine Ei [] (.inr rfl) rfl rfl rfl rfl (show (List.range 2 ++ []).Nodup by decide) ?_
   exact ⟨⟨_, rfl, List.mem_of_getElem? (by assumption)⟩, _, _, (by omega), rfl⟩
theorem c_123 (code : List Int) (hw : code.length ≤ 140737488355328) : CV prg 123 [.sl 1 (code.map uR)] (fun res => res = .w (.bool (decide (1048576 < (code.length : Int))))) := by
 refine cv_in g123 (Eb [0] rfl (Ef (Eg (Ea (Ee rfl) (Ed (Ec (Eb [0] rfl (Ef (Eg (Ea (Ee rfl) ?_))))))))))
 first | refine Ea (o_lenM rfl) ?_ | refine Ea (o_len rfl) ?_
 refine Ea (o_gtr rfl rfl) (Ea (Ee rfl) (Ed (Ec (Eb [2] rfl (Ej (Eo rfl rfl ?_))))))
 rotate_left
 all_goals
  rfl
def Bucket.ok (b : Bucket) (m : MConf) : Bool := if m.prio then inB b.tokens 0 m.cap && decide (0 ≤ b.count) && decide (b.count < m.every) else decide (b.tokens = 0) && decide (b.count = 0)
def Bucket.take (b : Bucket) (m : MConf) : Bucket × Bool := if m.prio && b.ok m && decide (b.tokens ≠ 0) then (⟨b.tokens - 1, b.count⟩, true) else (b, false)
def Bucket.back (b : Bucket) (m : MConf) : Bucket := if m.prio && b.ok m && decide (b.tokens < m.cap) then ⟨b.tokens + 1, b.count⟩ else b
def MConf.most (m : MConf) (n : Int) : Int := if m.prio = true ∧ 1 ≤ m.every ∧ 0 ≤ m.cap ∧ inB n 0 4000 = true then m.cap + n.tdiv m.every + 1 else 0
theorem req5 {z : Int} (h : z = 2 ∨ z = 2 ∨ z = 2 ∨ z = 0 ∨ z = 1) : bytes z = 1 ∨ bytes z = 2 ∨ bytes z = 4 := bytes_pos (by rcases h with h | h | h | h | h <;> subst h <;> rfl)
theorem limit_pos {z : Int} (h : z = 2 ∨ z = 2 ∨ z = 2 ∨ z = 0 ∨ z = 1) : 0 < limit z := by rcases h with h | h | h | h | h <;> subst h <;> decide
theorem cg_237 (code : List Int) (hc : code.length ≤ 1048576) (i h : Int) (hi : 0 ≤ i ∧ i ≤ code.length) : GV prg 237 [cur code i h] [.cp 0 0] (fun u L1 => (∃ x, u = .w (.int .i64 x) ∧ -1 ≤ x ∧ x ≤ 4) ∧ ∃ (i h : Int), (0 ≤ i ∧ i ≤ code.length) ∧ L1 = [cur code i h]) := by
 refine gv_in g237 (Eb [0] rfl (Ef (Eg (Ea (Ee rfl) (Ed (Ec (Eb [0] rfl (Ef (Eg (Ea (Ee rfl) (Fc [0] rfl rfl rfl rfl (by simp) (.inl rfl) (cg_228 _ hc _ _ hi _) ?_)))))))))))
 rintro u L1 ⟨⟨x, rfl, hx⟩, i, h, hi, rfl⟩
 refine ⟨_, _, rfl, rfl, ?_⟩
 first | refine Ea (o_subn rfl rfl (by omega)) ?_ | refine Ea (o_sub rfl rfl) ?_
 refine Ea (Ee rfl) (Ed (Ec (Eb [2] rfl (Ej ?_))))
 · refine Ei [] (.inr rfl) rfl rfl rfl rfl (show (List.range 1 ++ []).Nodup by decide) ?_
   exact ⟨⟨_, rfl, by omega⟩, _, _, (by omega), rfl⟩
theorem cg_241 (code : List Int) (hc : code.length ≤ 1048576) (i h : Int) (hi : 0 ≤ i ∧ i ≤ code.length) : GV prg 241 [cur code i h] [.cp 0 0] (fun u L1 => (∃ x : Req, u = .agg x.r ∧ x.data.length ≤ 8) ∧ ∃ (i h : Int), (0 ≤ i ∧ i ≤ code.length) ∧ L1 = [cur code i h]) := by
 refine gv_inF g241 (Eb [0] rfl (Ef (Eg (Ea (o_new rfl rfl) (Ed (Ec (Eb [0, 2] rfl (Ef (Eg (Ea (Ee rfl) (Fc [0] rfl rfl rfl rfl (by simp) (.inl rfl) (cg_233 _ hc _ _ hi _) ?_)))))))))))
 rintro u L1 ⟨⟨wr, rfl⟩, i, h, hi, rfl⟩
 refine ⟨_, _, rfl, rfl, ?_⟩
 refine Ea (Ee rfl) (Ea (o_bs rfl rfl rfl rfl) (Fc [0, 2] rfl rfl rfl rfl (by simp) (.inl rfl) (cg_234 _ hc _ _ hi _ _ rfl (by simp) (by simp)) ?_))
 rintro u L1 ⟨⟨z, rfl, hz⟩, i, h, hi, rfl⟩
 refine ⟨_, _, rfl, rfl, ?_⟩
 try simp only [List.mem_cons, List.not_mem_nil, or_false] at hz
 have hbz := req5 hz
 have hlz := limit_pos hz
 refine Ea (Ee rfl) (Ea (o_bs rfl rfl rfl rfl) (Fc [0, 3] rfl rfl rfl rfl (by simp) (.inl rfl) (cg_234 _ hc _ _ hi _ _ rfl (by simp) (by simp)) ?_))
 rintro u L1 ⟨⟨bu, rfl, hbu⟩, i, h, hi, rfl⟩
 refine ⟨_, _, rfl, rfl, ?_⟩
 try simp only [List.mem_cons, List.not_mem_nil, or_false] at hbu
 refine Ea (Ee rfl) (Fc [0] rfl rfl rfl rfl (by simp) (.inl rfl) (cg_233 _ hc _ _ hi _) ?_)
 rintro u L1 ⟨⟨lk, rfl⟩, i, h, hi, rfl⟩
 refine ⟨_, _, rfl, rfl, ?_⟩
 refine Ea (o_bd rfl rfl) (Ea (o_new rfl rfl) (s_opN (o_stnC rfl rfl rfl rfl rfl rfl rfl) (Ed (Ec (Eb [0, 2, 3] rfl (Ef (Eg (Ea (Ep rfl) (Ea (Ey rfl rfl rfl) ?_)))))))))
 first | refine Ew rfl rfl (c_183 _) ?_ | refine Fa rfl rfl (by simp) (c_183 _) rfl ?_
 refine Ea (Ee rfl) (Ed (Ec (Eb [0, 2, 3, 4] rfl (Ef (Eg (Ea (Ee rfl) (Ea (Ee rfl) (Fc [0] rfl rfl rfl rfl (by simp) (.inl rfl) (cg_228 _ hc _ _ hi _) ?_))))))))
 rintro u L1 ⟨⟨a1, rfl, ha1⟩, i, h, hi, rfl⟩
 refine ⟨_, _, rfl, rfl, ?_⟩
 refine Ea (Ee rfl) (Fc [0] rfl rfl rfl rfl (by simp) (.inl rfl) (cg_228 _ hc _ _ hi _) ?_)
 rintro u L1 ⟨⟨a2, rfl, ha2⟩, i, h, hi, rfl⟩
 refine ⟨_, _, rfl, rfl, ?_⟩
 refine Ea (Ee rfl) (Fc [0] rfl rfl rfl rfl (by simp) (.inl rfl) (cg_228 _ hc _ _ hi _) ?_)
 rintro u L1 ⟨⟨a3, rfl, ha3⟩, i, h, hi, rfl⟩
 refine ⟨_, _, rfl, rfl, ?_⟩
 first | refine Ea (o_addn rfl rfl (by omega)) ?_ | refine Ea (o_add rfl rfl) ?_
 refine Ea (Ee rfl) (Fc [0] rfl rfl rfl rfl (by simp) (.inl rfl) (cg_228 _ hc _ _ hi _) ?_)
 rintro u L1 ⟨⟨a4, rfl, ha4⟩, i, h, hi, rfl⟩
 refine ⟨_, _, rfl, rfl, ?_⟩
 first | refine Ea (o_addn rfl rfl (by omega)) ?_ | refine Ea (o_add rfl rfl) ?_
 refine Ea (Ee rfl) (Fc [0] rfl rfl rfl rfl (by simp) (.inl rfl) (cg_228 _ hc _ _ hi _) ?_)
 rintro u L1 ⟨⟨a5, rfl, ha5⟩, i, h, hi, rfl⟩
 refine ⟨_, _, rfl, rfl, ?_⟩
 refine Ea (o_bs rfl rfl rfl rfl) (Fd (is := [0, 2, 3, 4, 20, 33]) rfl (Fc [0, 5] rfl rfl rfl rfl (by simp) (.inl rfl) (cg_234 _ hc _ _ hi _ _ rfl (by simp) (by simp)) ?_))
 rintro u L1 ⟨⟨av, rfl, hav⟩, i, h, hi, rfl⟩
 refine ⟨_, _, rfl, rfl, ?_⟩
 try simp only [List.mem_cons, List.not_mem_nil, or_false] at hav
 refine Ea (Ee rfl) ?_
 first | refine Ea (o_quo rfl rfl (by decide)) ?_ | refine Ea (o_quo rfl rfl (by omega)) ?_
 refine Ea (Ee rfl) (Ea (o_mul rfl rfl) (Ea (Ep rfl) (s_opN (o_stC rfl rfl rfl rfl rfl rfl) (Ed (Ec (Eb [0, 2, 3] rfl (Ef (Ef (Eg (Ea (Ep rfl) (Ea (Ey rfl rfl rfl) ?_)))))))))))
 refine Ea (Ep rfl) (Ea (Ey rfl rfl rfl) (Ea (Ep rfl) (Ea (Ey rfl rfl rfl) ?_)))
 first | refine Ew rfl rfl (c_180 _ _ _) ?_ | refine Fa rfl rfl (by simp) (c_180 _ _ _) rfl ?_
 refine Ea (o_not rfl) (Ed (Ec (Eb [0, 2, 3, 47] rfl ?_)))
 first | refine Em rfl ?_ ?_ | refine s_condN rfl ?_ ?_ | refine s_condNB rfl ?_ ?_ | refine Ek rfl ?_ ?_
 intro h1
 try rw [nnp] at h1
 refine Eg (Ea (Ep rfl) (s_opN (o_stC rfl rfl rfl rfl rfl rfl) (Ed (Ec (Eb [0, 2, 3] rfl (Ef (Ef (Eg (Ea (Ee rfl) (Ed (Ec ?_)))))))))))
 refine Eb [0, 2, 3, 5] rfl (Fb (s_nilC 4 5 1 rfl rfl rfl rfl rfl (S_loop (ι := (Int × List Int × Int × Int × Int)) (fun p => 0 ≤ p.1 ∧ (p.2.1.length : Int) = p.1 ∧ p.1 ≤ 8 ∧ 0 ≤ p.2.2.2.1 ∧ p.2.2.2.1 ≤ code.length) (fun p => [(5, .w (.int .i64 p.1))]) (fun p => [cur code p.2.2.2.1 p.2.2.2.2, .cell [.w (.bool false), .w (.int .i64 0), .w (.int .i64 0), .w (.int .i64 0), .w (.bool false), .w (.slice none 0 0)], .arr 1 [[.w (.int .i64 2)], [.w (.int .i64 2)], [.w (.int .i64 2)], [.w (.int .i64 0)], [.w (.int .i64 1)]], .arr 1 [[.w (.int .i64 0)], [.w (.int .i64 0)], [.w (.int .i64 1)], [.w (.int .i64 2)], [.w (.int .i64 3)]], .cell [.w (.bool wr), .w (.int .i64 (IntKind.wrap .i64 (IntKind.wrap .i64 (av.tdiv (bytes z)) * bytes z))), .w (.int .i64 z), .w (.int .i64 p.2.2.1), .w (.bool lk), .ls 6 (p.2.1.map iR).length], .arr 1 [[.w (.int .i64 a1)], [.w (.int .i64 a2)], [.w (.int .i64 (128 + a3))], [.w (.int .i64 (192 + a4))], [.w (.int .i64 a5)]], .arr 1 (p.2.1.map iR)]) (fun p => (8 - p.1).toNat) 7 (0, [], _, i, h) ⟨by simp only; omega, rfl, by simp only; omega, hi⟩ rfl (hasOf ⟨rfl, trivial⟩ rfl) rfl (fun _ _ => rfl) (fun _ _ => ⟨rfl, rfl⟩) ?_)))
 rintro ⟨n, xs, bu, i, h⟩ hp
 obtain ⟨hn0, hn1, hn2, hi⟩ := hp
 simp only at hn0 hn1 hn2 hi
 have hbb := beats_bd bu
 have hml : (xs.map iR).length = xs.length := List.length_map ..
 refine Eb [0, 2, 3, 5] rfl ?_
 dsimp only
 refine Ef (Ef (Eg (Ea (Ee rfl) (Ea (Ep rfl) (Ea (Ey rfl rfl rfl) ?_)))))
 first | refine Ew rfl rfl (c_173 _) ?_ | refine Fa rfl rfl (by simp) (c_173 _) rfl ?_
 refine Ea (o_lss rfl rfl) (Ea (Ee rfl) ?_)
 first | refine s_gDT rfl ?_ ?_ | refine s_gB rfl ?_ ?_
 intro h2
 try rw [nnp] at h2
 refine Ea (Ep rfl) (Ev rfl (Ea (Ey rfl rfl rfl) (Ea (Er rfl rfl) (Ed (Ec (Eb [0, 2, 3, 5, 55, 56, 57] rfl ?_))))))
 first | refine Em rfl ?_ ?_ | refine s_condN rfl ?_ ?_ | refine s_condNB rfl ?_ ?_ | refine Ek rfl ?_ ?_
 intro h3
 try rw [nnp] at h3
 refine Et (Ec (Eb [0, 2, 3, 5, 55, 56] rfl (Ef (Fb (s_rgH [0] rfl (h_op (Ep rfl) rfl (h_op (Ey rfl rfl rfl) rfl (h_op (Ee rfl) rfl (h_op (Ee rfl) rfl (h_op (Ep rfl) rfl (h_op (Ey rfl rfl rfl) rfl ?_)))))))))))
 first | refine h_call rfl rfl (c_201 _) rfl ?_ | refine h_callL rfl rfl (by simp) (c_201 _) rfl rfl ?_
 refine h_op (o_mn rfl) rfl (h_op (Ep rfl) rfl (h_op (Ey rfl rfl rfl) rfl ?_))
 first | refine h_call rfl rfl (c_201 _) rfl ?_ | refine h_callL rfl rfl (by simp) (c_201 _) rfl rfl ?_
 refine h_op (o_bs rfl rfl rfl rfl) rfl (h_callG [0] [7] rfl rfl rfl rfl rfl rfl (by simp) rfl (cg_234 _ hc _ _ hi _ _ rfl (by simp) (by simp)) (words_iR _ _ rfl) ?_)
 rintro u L1 ⟨⟨w0, rfl, hw0⟩, i, h, hi, rfl⟩
 refine ⟨rfl, _, _, _, _, rfl, rfl, rfl, rfl, ?_⟩
 try simp only [List.mem_cons, List.not_mem_nil, or_false] at hw0
 refine h_callG [0] [] rfl rfl rfl rfl rfl rfl (by simp) rfl (cg_228 _ hc _ _ hi _) (by simp) ?_
 rintro u L1 ⟨⟨v, rfl, hv⟩, i, h, hi, rfl⟩
 refine ⟨rfl, _, _, _, _, rfl, rfl, rfl, rfl, ?_⟩
 refine h_op (o_bs rfl rfl rfl rfl) rfl (h_bar rfl (Fd (is := [0, 2, 3, 5, 55, 56, 61, 74]) rfl ?_))
 first | refine Ea (o_appL rfl rfl rfl rfl rfl rfl rfl (by simp [roomy]; omega)) ?_ | refine Ea (o_app rfl rfl rfl rfl rfl (by simp [roomy]; omega)) ?_
 refine Ea (Ep rfl) (s_opN (o_stC rfl rfl rfl rfl rfl rfl) (Ed (q_blkN (Ec (Eb [0, 2, 3, 5, 55, 56] rfl (Eg (Ea (Ee rfl) ?_)))))))
 first | refine Ea (o_addn rfl rfl (by omega)) ?_ | refine Ea (o_add rfl rfl) ?_
 refine Ea (Ee rfl) (Ed (q_loopN ?_))
 · refine ⟨(n + 1, xs ++ [v], bu, i, h), ⟨by simp only; omega, by simp only [List.length_append, List.length_cons, List.length_nil]; omega, by simp only; omega, hi⟩, by simp only; omega, hasOf ⟨rfl, trivial⟩ ?_⟩
   simp only [List.map_append]; rfl
 intro h3
 try rw [nnp] at h3
 refine s_exit (q_seqX (q_loopX (q_blkH (Ec (Eb [2, 3] rfl (Ef (Eg (Ea (o_ldnC rfl rfl rfl) (s_opN (o_stnC rfl rfl rfl rfl rfl rfl rfl) (Ed (Ec ?_)))))))))))
 refine Eb [2] rfl (Ej ?_)
 · refine retF_leaf (.inr rfl) rfl rfl (by simp) rfl ?_
   exact ⟨⟨⟨wr, _, z, bu, lk, xs⟩, rfl, by simp only; omega⟩, _, _, (by omega), rfl⟩
 intro h2
 try rw [nnp] at h2
 refine Eh rfl (Eh rfl (Ea (En rfl rfl) (Ed (Ec (Eb [0, 2, 3, 5, 55, 56, 57] rfl (s_condF rfl (s_exit (q_seqX (q_loopX (q_blkH (Ec ?_)))))))))))
 refine Eb [2, 3] rfl (Ef (Eg (Ea (o_ldnC rfl rfl rfl) (s_opN (o_stnC rfl rfl rfl rfl rfl rfl rfl) (Ed (Ec (Eb [2] rfl (Ej ?_))))))))
 · refine retF_leaf (.inr rfl) rfl rfl (by simp) rfl ?_
   exact ⟨⟨⟨wr, _, z, bu, lk, xs⟩, rfl, by simp only; omega⟩, _, _, (by omega), rfl⟩
 intro h1
 try rw [nnp] at h1
 refine Et (Ec (Eb [0, 2, 3] rfl (Ef (Ef (Eg (Ea (Ee rfl) (Ed (Ec (Eb [0, 2, 3, 5] rfl (Fb (s_nilC 4 5 1 rfl rfl rfl rfl rfl ?_)))))))))))
 refine S_loop (ι := (Int × List Int × Int × Int × Int)) (fun p => 0 ≤ p.1 ∧ (p.2.1.length : Int) = p.1 ∧ p.1 ≤ 8 ∧ 0 ≤ p.2.2.2.1 ∧ p.2.2.2.1 ≤ code.length) (fun p => [(5, .w (.int .i64 p.1))]) (fun p => [cur code p.2.2.2.1 p.2.2.2.2, .cell [.w (.bool false), .w (.int .i64 0), .w (.int .i64 0), .w (.int .i64 0), .w (.bool false), .w (.slice none 0 0)], .arr 1 [[.w (.int .i64 2)], [.w (.int .i64 2)], [.w (.int .i64 2)], [.w (.int .i64 0)], [.w (.int .i64 1)]], .arr 1 [[.w (.int .i64 0)], [.w (.int .i64 0)], [.w (.int .i64 1)], [.w (.int .i64 2)], [.w (.int .i64 3)]], .cell [.w (.bool wr), .w (.int .i64 (IntKind.wrap .i64 (IntKind.wrap .i64 (av.tdiv (bytes z)) * bytes z))), .w (.int .i64 z), .w (.int .i64 p.2.2.1), .w (.bool lk), .ls 6 (p.2.1.map iR).length], .arr 1 [[.w (.int .i64 a1)], [.w (.int .i64 a2)], [.w (.int .i64 (128 + a3))], [.w (.int .i64 (192 + a4))], [.w (.int .i64 a5)]], .arr 1 (p.2.1.map iR)]) (fun p => (8 - p.1).toNat) 7 (0, [], _, i, h) ⟨by simp only; omega, rfl, by simp only; omega, hi⟩ rfl (hasOf ⟨rfl, trivial⟩ rfl) rfl (fun _ _ => rfl) (fun _ _ => ⟨rfl, rfl⟩) ?_
 rintro ⟨n, xs, bu, i, h⟩ hp
 obtain ⟨hn0, hn1, hn2, hi⟩ := hp
 simp only at hn0 hn1 hn2 hi
 have hbb := beats_bd bu
 have hml : (xs.map iR).length = xs.length := List.length_map ..
 refine Eb [0, 2, 3, 5] rfl ?_
 dsimp only
 refine Ef (Ef (Eg (Ea (Ee rfl) (Ea (Ep rfl) (Ea (Ey rfl rfl rfl) ?_)))))
 first | refine Ew rfl rfl (c_173 _) ?_ | refine Fa rfl rfl (by simp) (c_173 _) rfl ?_
 refine Ea (o_lss rfl rfl) (Ea (Ee rfl) ?_)
 first | refine s_gDT rfl ?_ ?_ | refine s_gB rfl ?_ ?_
 intro h4
 try rw [nnp] at h4
 refine Ea (Ep rfl) (Ev rfl (Ea (Ey rfl rfl rfl) (Ea (Er rfl rfl) (Ed (Ec (Eb [0, 2, 3, 5, 55, 56, 57] rfl ?_))))))
 first | refine Em rfl ?_ ?_ | refine s_condN rfl ?_ ?_ | refine s_condNB rfl ?_ ?_ | refine Ek rfl ?_ ?_
 intro h5
 try rw [nnp] at h5
 refine Et (Ec (Eb [0, 2, 3, 5, 55, 56] rfl (Ef (Fb (s_rgH [0] rfl (h_op (Ep rfl) rfl (h_op (Ey rfl rfl rfl) rfl (h_op (Ee rfl) rfl (h_op (Ee rfl) rfl (h_op (Ep rfl) rfl (h_op (Ey rfl rfl rfl) rfl ?_)))))))))))
 first | refine h_call rfl rfl (c_201 _) rfl ?_ | refine h_callL rfl rfl (by simp) (c_201 _) rfl rfl ?_
 refine h_op (o_mn rfl) rfl (h_op (Ep rfl) rfl (h_op (Ey rfl rfl rfl) rfl ?_))
 first | refine h_call rfl rfl (c_201 _) rfl ?_ | refine h_callL rfl rfl (by simp) (c_201 _) rfl rfl ?_
 refine h_op (o_bs rfl rfl rfl rfl) rfl (h_callG [0] [7] rfl rfl rfl rfl rfl rfl (by simp) rfl (cg_234 _ hc _ _ hi _ _ rfl (by simp) (by simp)) (words_iR _ _ rfl) ?_)
 rintro u L1 ⟨⟨w0, rfl, hw0⟩, i, h, hi, rfl⟩
 refine ⟨rfl, _, _, _, _, rfl, rfl, rfl, rfl, ?_⟩
 try simp only [List.mem_cons, List.not_mem_nil, or_false] at hw0
 refine h_callG [0] [] rfl rfl rfl rfl rfl rfl (by simp) rfl (cg_228 _ hc _ _ hi _) (by simp) ?_
 rintro u L1 ⟨⟨v, rfl, hv⟩, i, h, hi, rfl⟩
 refine ⟨rfl, _, _, _, _, rfl, rfl, rfl, rfl, ?_⟩
 refine h_op (o_bs rfl rfl rfl rfl) rfl (h_bar rfl (Fd (is := [0, 2, 3, 5, 55, 56, 61, 74]) rfl ?_))
 first | refine Ea (o_appL rfl rfl rfl rfl rfl rfl rfl (by simp [roomy]; omega)) ?_ | refine Ea (o_app rfl rfl rfl rfl rfl (by simp [roomy]; omega)) ?_
 refine Ea (Ep rfl) (s_opN (o_stC rfl rfl rfl rfl rfl rfl) (Ed (q_blkN (Ec (Eb [0, 2, 3, 5, 55, 56] rfl (Eg (Ea (Ee rfl) ?_)))))))
 first | refine Ea (o_addn rfl rfl (by omega)) ?_ | refine Ea (o_add rfl rfl) ?_
 refine Ea (Ee rfl) (Ed (q_loopN ?_))
 · refine ⟨(n + 1, xs ++ [v], bu, i, h), ⟨by simp only; omega, by simp only [List.length_append, List.length_cons, List.length_nil]; omega, by simp only; omega, hi⟩, by simp only; omega, hasOf ⟨rfl, trivial⟩ ?_⟩
   simp only [List.map_append]; rfl
 intro h5
 try rw [nnp] at h5
 refine s_exit (q_seqX (q_loopX (q_blkH (Ec (Eb [2, 3] rfl (Ef (Eg (Ea (o_ldnC rfl rfl rfl) (s_opN (o_stnC rfl rfl rfl rfl rfl rfl rfl) (Ed (Ec ?_)))))))))))
 refine Eb [2] rfl (Ej ?_)
 · refine retF_leaf (.inr rfl) rfl rfl (by simp) rfl ?_
   exact ⟨⟨⟨wr, _, z, bu, lk, xs⟩, rfl, by simp only; omega⟩, _, _, (by omega), rfl⟩
 intro h4
 try rw [nnp] at h4
 refine Eh rfl (Eh rfl (Ea (En rfl rfl) (Ed (Ec (Eb [0, 2, 3, 5, 55, 56, 57] rfl (s_condF rfl (s_exit (q_seqX (q_loopX (q_blkH (Ec ?_)))))))))))
 refine Eb [2, 3] rfl (Ef (Eg (Ea (o_ldnC rfl rfl rfl) (s_opN (o_stnC rfl rfl rfl rfl rfl rfl rfl) (Ed (Ec (Eb [2] rfl (Ej ?_))))))))
 · refine retF_leaf (.inr rfl) rfl rfl (by simp) rfl ?_
   exact ⟨⟨⟨wr, _, z, bu, lk, xs⟩, rfl, by simp only; omega⟩, _, _, (by omega), rfl⟩
theorem cgo_241 (code : List Int) (hc : code.length ≤ 1048576) (i h : Int) (hi : 0 ≤ i ∧ i ≤ code.length) : GV prg 241 [cur code i h] [.cp 0 0] (fun u L1 => ∃ (x : Req) (i h : Int), u = .agg [.w (.bool x.write), .w (.int .i64 x.addr), .w (.int .i64 x.size), .w (.int .i64 x.burst), .w (.bool x.lock), .ls 1 x.data.length] ∧ x.data.length ≤ 8 ∧ (0 ≤ i ∧ i ≤ code.length) ∧ L1 = [cur code i h, .arr 1 (x.data.map iR)]) := by
 refine gv_in g241 (Eb [0] rfl (Ef (Eg (Ea (o_new rfl rfl) (Ed (Ec (Eb [0, 2] rfl (Ef (Eg (Ea (Ee rfl) (Fc [0] rfl rfl rfl rfl (by simp) (.inl rfl) (cg_233 _ hc _ _ hi _) ?_)))))))))))
 rintro u L1 ⟨⟨wr, rfl⟩, i, h, hi, rfl⟩
 refine ⟨_, _, rfl, rfl, ?_⟩
 refine Ea (Ee rfl) (Ea (o_bs rfl rfl rfl rfl) (Fc [0, 2] rfl rfl rfl rfl (by simp) (.inl rfl) (cg_234 _ hc _ _ hi _ _ rfl (by simp) (by simp)) ?_))
 rintro u L1 ⟨⟨z, rfl, hz⟩, i, h, hi, rfl⟩
 refine ⟨_, _, rfl, rfl, ?_⟩
 try simp only [List.mem_cons, List.not_mem_nil, or_false] at hz
 have hbz := req5 hz
 have hlz := limit_pos hz
 refine Ea (Ee rfl) (Ea (o_bs rfl rfl rfl rfl) (Fc [0, 3] rfl rfl rfl rfl (by simp) (.inl rfl) (cg_234 _ hc _ _ hi _ _ rfl (by simp) (by simp)) ?_))
 rintro u L1 ⟨⟨bu, rfl, hbu⟩, i, h, hi, rfl⟩
 refine ⟨_, _, rfl, rfl, ?_⟩
 try simp only [List.mem_cons, List.not_mem_nil, or_false] at hbu
 refine Ea (Ee rfl) (Fc [0] rfl rfl rfl rfl (by simp) (.inl rfl) (cg_233 _ hc _ _ hi _) ?_)
 rintro u L1 ⟨⟨lk, rfl⟩, i, h, hi, rfl⟩
 refine ⟨_, _, rfl, rfl, ?_⟩
 refine Ea (o_bd rfl rfl) (Ea (o_new rfl rfl) (s_opN (o_stnC rfl rfl rfl rfl rfl rfl rfl) (Ed (Ec (Eb [0, 2, 3] rfl (Ef (Eg (Ea (Ep rfl) (Ea (Ey rfl rfl rfl) ?_)))))))))
 first | refine Ew rfl rfl (c_183 _) ?_ | refine Fa rfl rfl (by simp) (c_183 _) rfl ?_
 refine Ea (Ee rfl) (Ed (Ec (Eb [0, 2, 3, 4] rfl (Ef (Eg (Ea (Ee rfl) (Ea (Ee rfl) (Fc [0] rfl rfl rfl rfl (by simp) (.inl rfl) (cg_228 _ hc _ _ hi _) ?_))))))))
 rintro u L1 ⟨⟨a1, rfl, ha1⟩, i, h, hi, rfl⟩
 refine ⟨_, _, rfl, rfl, ?_⟩
 refine Ea (Ee rfl) (Fc [0] rfl rfl rfl rfl (by simp) (.inl rfl) (cg_228 _ hc _ _ hi _) ?_)
 rintro u L1 ⟨⟨a2, rfl, ha2⟩, i, h, hi, rfl⟩
 refine ⟨_, _, rfl, rfl, ?_⟩
 refine Ea (Ee rfl) (Fc [0] rfl rfl rfl rfl (by simp) (.inl rfl) (cg_228 _ hc _ _ hi _) ?_)
 rintro u L1 ⟨⟨a3, rfl, ha3⟩, i, h, hi, rfl⟩
 refine ⟨_, _, rfl, rfl, ?_⟩
 first | refine Ea (o_addn rfl rfl (by omega)) ?_ | refine Ea (o_add rfl rfl) ?_
 refine Ea (Ee rfl) (Fc [0] rfl rfl rfl rfl (by simp) (.inl rfl) (cg_228 _ hc _ _ hi _) ?_)
 rintro u L1 ⟨⟨a4, rfl, ha4⟩, i, h, hi, rfl⟩
 refine ⟨_, _, rfl, rfl, ?_⟩
 first | refine Ea (o_addn rfl rfl (by omega)) ?_ | refine Ea (o_add rfl rfl) ?_
 refine Ea (Ee rfl) (Fc [0] rfl rfl rfl rfl (by simp) (.inl rfl) (cg_228 _ hc _ _ hi _) ?_)
 rintro u L1 ⟨⟨a5, rfl, ha5⟩, i, h, hi, rfl⟩
 refine ⟨_, _, rfl, rfl, ?_⟩
 refine Ea (o_bs rfl rfl rfl rfl) (Fd (is := [0, 2, 3, 4, 20, 33]) rfl (Fc [0, 5] rfl rfl rfl rfl (by simp) (.inl rfl) (cg_234 _ hc _ _ hi _ _ rfl (by simp) (by simp)) ?_))
 rintro u L1 ⟨⟨av, rfl, hav⟩, i, h, hi, rfl⟩
 refine ⟨_, _, rfl, rfl, ?_⟩
 try simp only [List.mem_cons, List.not_mem_nil, or_false] at hav
 refine Ea (Ee rfl) ?_
 first | refine Ea (o_quo rfl rfl (by decide)) ?_ | refine Ea (o_quo rfl rfl (by omega)) ?_
 refine Ea (Ee rfl) (Ea (o_mul rfl rfl) (Ea (Ep rfl) (s_opN (o_stC rfl rfl rfl rfl rfl rfl) (Ed (Ec (Eb [0, 2, 3] rfl (Ef (Ef (Eg (Ea (Ep rfl) (Ea (Ey rfl rfl rfl) ?_)))))))))))
 refine Ea (Ep rfl) (Ea (Ey rfl rfl rfl) (Ea (Ep rfl) (Ea (Ey rfl rfl rfl) ?_)))
 first | refine Ew rfl rfl (c_180 _ _ _) ?_ | refine Fa rfl rfl (by simp) (c_180 _ _ _) rfl ?_
 refine Ea (o_not rfl) (Ed (Ec (Eb [0, 2, 3, 47] rfl ?_)))
 first | refine Em rfl ?_ ?_ | refine s_condN rfl ?_ ?_ | refine s_condNB rfl ?_ ?_ | refine Ek rfl ?_ ?_
 intro h1
 try rw [nnp] at h1
 refine Eg (Ea (Ep rfl) (s_opN (o_stC rfl rfl rfl rfl rfl rfl) (Ed (Ec (Eb [0, 2, 3] rfl (Ef (Ef (Eg (Ea (Ee rfl) (Ed (Ec ?_)))))))))))
 refine Eb [0, 2, 3, 5] rfl (Fb (s_nilC 4 5 1 rfl rfl rfl rfl rfl (S_loop (ι := (Int × List Int × Int × Int × Int)) (fun p => 0 ≤ p.1 ∧ (p.2.1.length : Int) = p.1 ∧ p.1 ≤ 8 ∧ 0 ≤ p.2.2.2.1 ∧ p.2.2.2.1 ≤ code.length) (fun p => [(5, .w (.int .i64 p.1))]) (fun p => [cur code p.2.2.2.1 p.2.2.2.2, .cell [.w (.bool false), .w (.int .i64 0), .w (.int .i64 0), .w (.int .i64 0), .w (.bool false), .w (.slice none 0 0)], .arr 1 [[.w (.int .i64 2)], [.w (.int .i64 2)], [.w (.int .i64 2)], [.w (.int .i64 0)], [.w (.int .i64 1)]], .arr 1 [[.w (.int .i64 0)], [.w (.int .i64 0)], [.w (.int .i64 1)], [.w (.int .i64 2)], [.w (.int .i64 3)]], .cell [.w (.bool wr), .w (.int .i64 (IntKind.wrap .i64 (IntKind.wrap .i64 (av.tdiv (bytes z)) * bytes z))), .w (.int .i64 z), .w (.int .i64 p.2.2.1), .w (.bool lk), .ls 6 (p.2.1.map iR).length], .arr 1 [[.w (.int .i64 a1)], [.w (.int .i64 a2)], [.w (.int .i64 (128 + a3))], [.w (.int .i64 (192 + a4))], [.w (.int .i64 a5)]], .arr 1 (p.2.1.map iR)]) (fun p => (8 - p.1).toNat) 7 (0, [], _, i, h) ⟨by simp only; omega, rfl, by simp only; omega, hi⟩ rfl (hasOf ⟨rfl, trivial⟩ rfl) rfl (fun _ _ => rfl) (fun _ _ => ⟨rfl, rfl⟩) ?_)))
 rintro ⟨n, xs, bu, i, h⟩ hp
 obtain ⟨hn0, hn1, hn2, hi⟩ := hp
 simp only at hn0 hn1 hn2 hi
 have hbb := beats_bd bu
 have hml : (xs.map iR).length = xs.length := List.length_map ..
 refine Eb [0, 2, 3, 5] rfl ?_
 dsimp only
 refine Ef (Ef (Eg (Ea (Ee rfl) (Ea (Ep rfl) (Ea (Ey rfl rfl rfl) ?_)))))
 first | refine Ew rfl rfl (c_173 _) ?_ | refine Fa rfl rfl (by simp) (c_173 _) rfl ?_
 refine Ea (o_lss rfl rfl) (Ea (Ee rfl) ?_)
 first | refine s_gDT rfl ?_ ?_ | refine s_gB rfl ?_ ?_
 intro h2
 try rw [nnp] at h2
 refine Ea (Ep rfl) (Ev rfl (Ea (Ey rfl rfl rfl) (Ea (Er rfl rfl) (Ed (Ec (Eb [0, 2, 3, 5, 55, 56, 57] rfl ?_))))))
 first | refine Em rfl ?_ ?_ | refine s_condN rfl ?_ ?_ | refine s_condNB rfl ?_ ?_ | refine Ek rfl ?_ ?_
 intro h3
 try rw [nnp] at h3
 refine Et (Ec (Eb [0, 2, 3, 5, 55, 56] rfl (Ef (Fb (s_rgH [0] rfl (h_op (Ep rfl) rfl (h_op (Ey rfl rfl rfl) rfl (h_op (Ee rfl) rfl (h_op (Ee rfl) rfl (h_op (Ep rfl) rfl (h_op (Ey rfl rfl rfl) rfl ?_)))))))))))
 first | refine h_call rfl rfl (c_201 _) rfl ?_ | refine h_callL rfl rfl (by simp) (c_201 _) rfl rfl ?_
 refine h_op (o_mn rfl) rfl (h_op (Ep rfl) rfl (h_op (Ey rfl rfl rfl) rfl ?_))
 first | refine h_call rfl rfl (c_201 _) rfl ?_ | refine h_callL rfl rfl (by simp) (c_201 _) rfl rfl ?_
 refine h_op (o_bs rfl rfl rfl rfl) rfl (h_callG [0] [7] rfl rfl rfl rfl rfl rfl (by simp) rfl (cg_234 _ hc _ _ hi _ _ rfl (by simp) (by simp)) (words_iR _ _ rfl) ?_)
 rintro u L1 ⟨⟨w0, rfl, hw0⟩, i, h, hi, rfl⟩
 refine ⟨rfl, _, _, _, _, rfl, rfl, rfl, rfl, ?_⟩
 try simp only [List.mem_cons, List.not_mem_nil, or_false] at hw0
 refine h_callG [0] [] rfl rfl rfl rfl rfl rfl (by simp) rfl (cg_228 _ hc _ _ hi _) (by simp) ?_
 rintro u L1 ⟨⟨v, rfl, hv⟩, i, h, hi, rfl⟩
 refine ⟨rfl, _, _, _, _, rfl, rfl, rfl, rfl, ?_⟩
 refine h_op (o_bs rfl rfl rfl rfl) rfl (h_bar rfl (Fd (is := [0, 2, 3, 5, 55, 56, 61, 74]) rfl ?_))
 first | refine Ea (o_appL rfl rfl rfl rfl rfl rfl rfl (by simp [roomy]; omega)) ?_ | refine Ea (o_app rfl rfl rfl rfl rfl (by simp [roomy]; omega)) ?_
 refine Ea (Ep rfl) (s_opN (o_stC rfl rfl rfl rfl rfl rfl) (Ed (q_blkN (Ec (Eb [0, 2, 3, 5, 55, 56] rfl (Eg (Ea (Ee rfl) ?_)))))))
 first | refine Ea (o_addn rfl rfl (by omega)) ?_ | refine Ea (o_add rfl rfl) ?_
 refine Ea (Ee rfl) (Ed (q_loopN ?_))
 · refine ⟨(n + 1, xs ++ [v], bu, i, h), ⟨by simp only; omega, by simp only [List.length_append, List.length_cons, List.length_nil]; omega, by simp only; omega, hi⟩, by simp only; omega, hasOf ⟨rfl, trivial⟩ ?_⟩
   simp only [List.map_append]; rfl
 intro h3
 try rw [nnp] at h3
 refine s_exit (q_seqX (q_loopX (q_blkH (Ec (Eb [2, 3] rfl (Ef (Eg (Ea (o_ldnC rfl rfl rfl) (s_opN (o_stnC rfl rfl rfl rfl rfl rfl rfl) (Ed (Ec ?_)))))))))))
 refine Eb [2] rfl (Ej ?_)
 · refine Ei [6] (.inr rfl) rfl rfl rfl rfl (show (List.range 1 ++ [6]).Nodup by decide) ?_
   exact ⟨⟨wr, IntKind.wrap .i64 (IntKind.wrap .i64 (av.tdiv (bytes z)) * bytes z), z, bu, lk, xs⟩, _, _, (by simp), (by simp only; omega), (by omega), rfl⟩
 intro h2
 try rw [nnp] at h2
 refine Eh rfl (Eh rfl (Ea (En rfl rfl) (Ed (Ec (Eb [0, 2, 3, 5, 55, 56, 57] rfl (s_condF rfl (s_exit (q_seqX (q_loopX (q_blkH (Ec ?_)))))))))))
 refine Eb [2, 3] rfl (Ef (Eg (Ea (o_ldnC rfl rfl rfl) (s_opN (o_stnC rfl rfl rfl rfl rfl rfl rfl) (Ed (Ec (Eb [2] rfl (Ej ?_))))))))
 · refine Ei [6] (.inr rfl) rfl rfl rfl rfl (show (List.range 1 ++ [6]).Nodup by decide) ?_
   exact ⟨⟨wr, IntKind.wrap .i64 (IntKind.wrap .i64 (av.tdiv (bytes z)) * bytes z), z, bu, lk, xs⟩, _, _, (by simp), (by simp only; omega), (by omega), rfl⟩
 intro h1
 try rw [nnp] at h1
 refine Et (Ec (Eb [0, 2, 3] rfl (Ef (Ef (Eg (Ea (Ee rfl) (Ed (Ec (Eb [0, 2, 3, 5] rfl (Fb (s_nilC 4 5 1 rfl rfl rfl rfl rfl ?_)))))))))))
 refine S_loop (ι := (Int × List Int × Int × Int × Int)) (fun p => 0 ≤ p.1 ∧ (p.2.1.length : Int) = p.1 ∧ p.1 ≤ 8 ∧ 0 ≤ p.2.2.2.1 ∧ p.2.2.2.1 ≤ code.length) (fun p => [(5, .w (.int .i64 p.1))]) (fun p => [cur code p.2.2.2.1 p.2.2.2.2, .cell [.w (.bool false), .w (.int .i64 0), .w (.int .i64 0), .w (.int .i64 0), .w (.bool false), .w (.slice none 0 0)], .arr 1 [[.w (.int .i64 2)], [.w (.int .i64 2)], [.w (.int .i64 2)], [.w (.int .i64 0)], [.w (.int .i64 1)]], .arr 1 [[.w (.int .i64 0)], [.w (.int .i64 0)], [.w (.int .i64 1)], [.w (.int .i64 2)], [.w (.int .i64 3)]], .cell [.w (.bool wr), .w (.int .i64 (IntKind.wrap .i64 (IntKind.wrap .i64 (av.tdiv (bytes z)) * bytes z))), .w (.int .i64 z), .w (.int .i64 p.2.2.1), .w (.bool lk), .ls 6 (p.2.1.map iR).length], .arr 1 [[.w (.int .i64 a1)], [.w (.int .i64 a2)], [.w (.int .i64 (128 + a3))], [.w (.int .i64 (192 + a4))], [.w (.int .i64 a5)]], .arr 1 (p.2.1.map iR)]) (fun p => (8 - p.1).toNat) 7 (0, [], _, i, h) ⟨by simp only; omega, rfl, by simp only; omega, hi⟩ rfl (hasOf ⟨rfl, trivial⟩ rfl) rfl (fun _ _ => rfl) (fun _ _ => ⟨rfl, rfl⟩) ?_
 rintro ⟨n, xs, bu, i, h⟩ hp
 obtain ⟨hn0, hn1, hn2, hi⟩ := hp
 simp only at hn0 hn1 hn2 hi
 have hbb := beats_bd bu
 have hml : (xs.map iR).length = xs.length := List.length_map ..
 refine Eb [0, 2, 3, 5] rfl ?_
 dsimp only
 refine Ef (Ef (Eg (Ea (Ee rfl) (Ea (Ep rfl) (Ea (Ey rfl rfl rfl) ?_)))))
 first | refine Ew rfl rfl (c_173 _) ?_ | refine Fa rfl rfl (by simp) (c_173 _) rfl ?_
 refine Ea (o_lss rfl rfl) (Ea (Ee rfl) ?_)
 first | refine s_gDT rfl ?_ ?_ | refine s_gB rfl ?_ ?_
 intro h4
 try rw [nnp] at h4
 refine Ea (Ep rfl) (Ev rfl (Ea (Ey rfl rfl rfl) (Ea (Er rfl rfl) (Ed (Ec (Eb [0, 2, 3, 5, 55, 56, 57] rfl ?_))))))
 first | refine Em rfl ?_ ?_ | refine s_condN rfl ?_ ?_ | refine s_condNB rfl ?_ ?_ | refine Ek rfl ?_ ?_
 intro h5
 try rw [nnp] at h5
 refine Et (Ec (Eb [0, 2, 3, 5, 55, 56] rfl (Ef (Fb (s_rgH [0] rfl (h_op (Ep rfl) rfl (h_op (Ey rfl rfl rfl) rfl (h_op (Ee rfl) rfl (h_op (Ee rfl) rfl (h_op (Ep rfl) rfl (h_op (Ey rfl rfl rfl) rfl ?_)))))))))))
 first | refine h_call rfl rfl (c_201 _) rfl ?_ | refine h_callL rfl rfl (by simp) (c_201 _) rfl rfl ?_
 refine h_op (o_mn rfl) rfl (h_op (Ep rfl) rfl (h_op (Ey rfl rfl rfl) rfl ?_))
 first | refine h_call rfl rfl (c_201 _) rfl ?_ | refine h_callL rfl rfl (by simp) (c_201 _) rfl rfl ?_
 refine h_op (o_bs rfl rfl rfl rfl) rfl (h_callG [0] [7] rfl rfl rfl rfl rfl rfl (by simp) rfl (cg_234 _ hc _ _ hi _ _ rfl (by simp) (by simp)) (words_iR _ _ rfl) ?_)
 rintro u L1 ⟨⟨w0, rfl, hw0⟩, i, h, hi, rfl⟩
 refine ⟨rfl, _, _, _, _, rfl, rfl, rfl, rfl, ?_⟩
 try simp only [List.mem_cons, List.not_mem_nil, or_false] at hw0
 refine h_callG [0] [] rfl rfl rfl rfl rfl rfl (by simp) rfl (cg_228 _ hc _ _ hi _) (by simp) ?_
 rintro u L1 ⟨⟨v, rfl, hv⟩, i, h, hi, rfl⟩
 refine ⟨rfl, _, _, _, _, rfl, rfl, rfl, rfl, ?_⟩
 refine h_op (o_bs rfl rfl rfl rfl) rfl (h_bar rfl (Fd (is := [0, 2, 3, 5, 55, 56, 61, 74]) rfl ?_))
 first | refine Ea (o_appL rfl rfl rfl rfl rfl rfl rfl (by simp [roomy]; omega)) ?_ | refine Ea (o_app rfl rfl rfl rfl rfl (by simp [roomy]; omega)) ?_
 refine Ea (Ep rfl) (s_opN (o_stC rfl rfl rfl rfl rfl rfl) (Ed (q_blkN (Ec (Eb [0, 2, 3, 5, 55, 56] rfl (Eg (Ea (Ee rfl) ?_)))))))
 first | refine Ea (o_addn rfl rfl (by omega)) ?_ | refine Ea (o_add rfl rfl) ?_
 refine Ea (Ee rfl) (Ed (q_loopN ?_))
 · refine ⟨(n + 1, xs ++ [v], bu, i, h), ⟨by simp only; omega, by simp only [List.length_append, List.length_cons, List.length_nil]; omega, by simp only; omega, hi⟩, by simp only; omega, hasOf ⟨rfl, trivial⟩ ?_⟩
   simp only [List.map_append]; rfl
 intro h5
 try rw [nnp] at h5
 refine s_exit (q_seqX (q_loopX (q_blkH (Ec (Eb [2, 3] rfl (Ef (Eg (Ea (o_ldnC rfl rfl rfl) (s_opN (o_stnC rfl rfl rfl rfl rfl rfl rfl) (Ed (Ec ?_)))))))))))
 refine Eb [2] rfl (Ej ?_)
 · refine Ei [6] (.inr rfl) rfl rfl rfl rfl (show (List.range 1 ++ [6]).Nodup by decide) ?_
   exact ⟨⟨wr, IntKind.wrap .i64 (IntKind.wrap .i64 (av.tdiv (bytes z)) * bytes z), z, bu, lk, xs⟩, _, _, (by simp), (by simp only; omega), (by omega), rfl⟩
 intro h4
 try rw [nnp] at h4
 refine Eh rfl (Eh rfl (Ea (En rfl rfl) (Ed (Ec (Eb [0, 2, 3, 5, 55, 56, 57] rfl (s_condF rfl (s_exit (q_seqX (q_loopX (q_blkH (Ec ?_)))))))))))
 refine Eb [2, 3] rfl (Ef (Eg (Ea (o_ldnC rfl rfl rfl) (s_opN (o_stnC rfl rfl rfl rfl rfl rfl rfl) (Ed (Ec (Eb [2] rfl (Ej ?_))))))))
 · refine Ei [6] (.inr rfl) rfl rfl rfl rfl (show (List.range 1 ++ [6]).Nodup by decide) ?_
   exact ⟨⟨wr, IntKind.wrap .i64 (IntKind.wrap .i64 (av.tdiv (bytes z)) * bytes z), z, bu, lk, xs⟩, _, _, (by simp), (by simp only; omega), (by omega), rfl⟩
theorem cg_239 (code : List Int) (hc : code.length ≤ 1048576) (i h : Int) (hi : 0 ≤ i ∧ i ≤ code.length) : GV prg 239 [cur code i h] [.cp 0 0] (fun u L1 => (∃ x : Req, u = .agg x.r ∧ x.data.length ≤ 16) ∧ ∃ (i h : Int), (0 ≤ i ∧ i ≤ code.length) ∧ L1 = [cur code i h]) := by
 refine gv_inF g239 (Eb [0] rfl (Ef (Eg (Ea (o_new rfl rfl) (Ed (Ec (Eb [0, 2] rfl (Ef (Eg (Ea (Ee rfl) (Fc [0] rfl rfl rfl rfl (by simp) (.inl rfl) (cgo_241 _ hc _ _ hi) ?_)))))))))))
 rintro u L1 ⟨z, i, h, rfl, hz, hi, rfl⟩
 refine ⟨_, _, rfl, rfl, ?_⟩
 refine Ea (o_new rfl rfl) (s_opN (o_stnC rfl rfl rfl rfl rfl rfl rfl) (Ed (Ec (Eb [0, 2, 3] rfl (Ef (Ef (Eg (Ea (Ee rfl) (Fc [0] rfl rfl rfl rfl (by simp) (.inl rfl) (cg_228 _ hc _ _ hi _) ?_)))))))))
 rintro u L1 ⟨⟨x, rfl, hx⟩, i, h, hi, rfl⟩
 refine ⟨_, _, rfl, rfl, ?_⟩
 refine Ed (Ec (Eb [0, 2, 3, 7] rfl (Fb (Ef (Eg (Ea (o_eql rfl rfl) (Ea (Ee rfl) (Ed (Ec (Eb [0, 2, 3, 7, 8] rfl ?_))))))))))
 first | refine Em rfl ?_ ?_ | refine Ek rfl ?_ ?_
 intro h1
 try rw [nnp] at h1
 refine Eg (Ea (Ee rfl) (Ea (o_bs rfl rfl rfl rfl) (Fc [0, 4] rfl rfl rfl rfl (by simp) (.inl rfl) (cg_234 _ hc _ _ hi _ _ rfl (by simp) (by simp)) ?_)))
 rintro u L1 ⟨⟨x, rfl, hx⟩, i, h, hi, rfl⟩
 refine ⟨_, _, rfl, rfl, ?_⟩
 try simp only [List.mem_cons, List.not_mem_nil, or_false] at hx
 refine Ea (Ep rfl) (s_opN (o_stC rfl rfl rfl rfl rfl rfl) (Ed (q_blkN (Ec (Eb [2, 3] rfl (Ef (Eg (Ea (o_ldnC rfl rfl rfl) (s_opN (o_stnC rfl rfl rfl rfl rfl rfl rfl) (Ed (Ec ?_)))))))))))
 refine Eb [2] rfl (Ej ?_)
 · refine retF_leaf (.inr rfl) rfl rfl (by simp) rfl ?_
   first | exact ⟨⟨⟨z.write, z.addr, z.size, z.burst, z.lock, z.data⟩, rfl, by simp only; omega⟩, _, _, (by omega), rfl⟩ | exact ⟨⟨⟨z.write, x, z.size, z.burst, z.lock, z.data⟩, rfl, by simp only; omega⟩, _, _, (by omega), rfl⟩ | exact ⟨⟨⟨(!z.write), z.addr, z.size, z.burst, z.lock, z.data⟩, rfl, by simp only; omega⟩, _, _, (by omega), rfl⟩ | exact ⟨⟨⟨z.write, z.addr, x, z.burst, z.lock, z.data⟩, rfl, by simp only; omega⟩, _, _, (by omega), rfl⟩ | exact ⟨⟨⟨z.write, z.addr, z.size, x, z.lock, z.data⟩, rfl, by simp only; omega⟩, _, _, (by omega), rfl⟩ | exact ⟨⟨⟨z.write, z.addr, z.size, z.burst, z.lock, z.data ++ [1]⟩, (by simp only [Req.r, List.map_append]; rfl), by simp only [List.length_append, List.length_cons, List.length_nil]; omega⟩, _, _, (by omega), rfl⟩
 intro h1
 try rw [nnp] at h1
 refine Ef (Eg (Ea (o_eql rfl rfl) (Ea (Ee rfl) (Ed (Ec (Eb [0, 2, 3, 7, 14] rfl ?_))))))
 first | refine Em rfl ?_ ?_ | refine Ek rfl ?_ ?_
 intro h2
 try rw [nnp] at h2
 refine Eg (Ea (Ep rfl) (Ea (Ey rfl rfl rfl) (Ea (o_not rfl) (Ea (Ep rfl) (s_opN (o_stC rfl rfl rfl rfl rfl rfl) (Ed (q_blkN (Ec (Eb [2, 3] rfl (Ef (Eg ?_)))))))))))
 refine Ea (o_ldnC rfl rfl rfl) (s_opN (o_stnC rfl rfl rfl rfl rfl rfl rfl) (Ed (Ec (Eb [2] rfl (Ej ?_)))))
 · refine retF_leaf (.inr rfl) rfl rfl (by simp) rfl ?_
   first | exact ⟨⟨⟨z.write, z.addr, z.size, z.burst, z.lock, z.data⟩, rfl, by simp only; omega⟩, _, _, (by omega), rfl⟩ | exact ⟨⟨⟨z.write, x, z.size, z.burst, z.lock, z.data⟩, rfl, by simp only; omega⟩, _, _, (by omega), rfl⟩ | exact ⟨⟨⟨(!z.write), z.addr, z.size, z.burst, z.lock, z.data⟩, rfl, by simp only; omega⟩, _, _, (by omega), rfl⟩ | exact ⟨⟨⟨z.write, z.addr, x, z.burst, z.lock, z.data⟩, rfl, by simp only; omega⟩, _, _, (by omega), rfl⟩ | exact ⟨⟨⟨z.write, z.addr, z.size, x, z.lock, z.data⟩, rfl, by simp only; omega⟩, _, _, (by omega), rfl⟩ | exact ⟨⟨⟨z.write, z.addr, z.size, z.burst, z.lock, z.data ++ [1]⟩, (by simp only [Req.r, List.map_append]; rfl), by simp only [List.length_append, List.length_cons, List.length_nil]; omega⟩, _, _, (by omega), rfl⟩
 intro h2
 try rw [nnp] at h2
 refine Ef (Eg (Ea (o_eql rfl rfl) (Ea (Ee rfl) (Ed (Ec (Eb [0, 2, 3, 7, 20] rfl ?_))))))
 first | refine Em rfl ?_ ?_ | refine Ek rfl ?_ ?_
 intro h3
 try rw [nnp] at h3
 refine Eg (Ea (Ee rfl) (Fc [0] rfl rfl rfl rfl (by simp) (.inl rfl) (cg_237 _ hc _ _ hi) ?_))
 rintro u L1 ⟨⟨x, rfl, hx⟩, i, h, hi, rfl⟩
 refine ⟨_, _, rfl, rfl, ?_⟩
 refine Ea (Ep rfl) (s_opN (o_stC rfl rfl rfl rfl rfl rfl) (Ed (q_blkN (Ec (Eb [2, 3] rfl (Ef (Eg (Ea (o_ldnC rfl rfl rfl) (s_opN (o_stnC rfl rfl rfl rfl rfl rfl rfl) (Ed (Ec ?_)))))))))))
 refine Eb [2] rfl (Ej ?_)
 · refine retF_leaf (.inr rfl) rfl rfl (by simp) rfl ?_
   first | exact ⟨⟨⟨z.write, z.addr, z.size, z.burst, z.lock, z.data⟩, rfl, by simp only; omega⟩, _, _, (by omega), rfl⟩ | exact ⟨⟨⟨z.write, x, z.size, z.burst, z.lock, z.data⟩, rfl, by simp only; omega⟩, _, _, (by omega), rfl⟩ | exact ⟨⟨⟨(!z.write), z.addr, z.size, z.burst, z.lock, z.data⟩, rfl, by simp only; omega⟩, _, _, (by omega), rfl⟩ | exact ⟨⟨⟨z.write, z.addr, x, z.burst, z.lock, z.data⟩, rfl, by simp only; omega⟩, _, _, (by omega), rfl⟩ | exact ⟨⟨⟨z.write, z.addr, z.size, x, z.lock, z.data⟩, rfl, by simp only; omega⟩, _, _, (by omega), rfl⟩ | exact ⟨⟨⟨z.write, z.addr, z.size, z.burst, z.lock, z.data ++ [1]⟩, (by simp only [Req.r, List.map_append]; rfl), by simp only [List.length_append, List.length_cons, List.length_nil]; omega⟩, _, _, (by omega), rfl⟩
 intro h3
 try rw [nnp] at h3
 refine Ef (Eg (Ea (o_eql rfl rfl) (Ea (Ee rfl) (Ed (Ec (Eb [0, 2, 3, 7, 25] rfl ?_))))))
 first | refine Em rfl ?_ ?_ | refine Ek rfl ?_ ?_
 intro h4
 try rw [nnp] at h4
 refine Eg (Ea (Ee rfl) (Fc [0] rfl rfl rfl rfl (by simp) (.inl rfl) (cg_237 _ hc _ _ hi) ?_))
 rintro u L1 ⟨⟨x, rfl, hx⟩, i, h, hi, rfl⟩
 refine ⟨_, _, rfl, rfl, ?_⟩
 refine Ea (Ep rfl) (s_opN (o_stC rfl rfl rfl rfl rfl rfl) (Ed (q_blkN (Ec (Eb [2, 3] rfl (Ef (Eg (Ea (o_ldnC rfl rfl rfl) (s_opN (o_stnC rfl rfl rfl rfl rfl rfl rfl) (Ed (Ec ?_)))))))))))
 refine Eb [2] rfl (Ej ?_)
 · refine retF_leaf (.inr rfl) rfl rfl (by simp) rfl ?_
   first | exact ⟨⟨⟨z.write, z.addr, z.size, z.burst, z.lock, z.data⟩, rfl, by simp only; omega⟩, _, _, (by omega), rfl⟩ | exact ⟨⟨⟨z.write, x, z.size, z.burst, z.lock, z.data⟩, rfl, by simp only; omega⟩, _, _, (by omega), rfl⟩ | exact ⟨⟨⟨(!z.write), z.addr, z.size, z.burst, z.lock, z.data⟩, rfl, by simp only; omega⟩, _, _, (by omega), rfl⟩ | exact ⟨⟨⟨z.write, z.addr, x, z.burst, z.lock, z.data⟩, rfl, by simp only; omega⟩, _, _, (by omega), rfl⟩ | exact ⟨⟨⟨z.write, z.addr, z.size, x, z.lock, z.data⟩, rfl, by simp only; omega⟩, _, _, (by omega), rfl⟩ | exact ⟨⟨⟨z.write, z.addr, z.size, z.burst, z.lock, z.data ++ [1]⟩, (by simp only [Req.r, List.map_append]; rfl), by simp only [List.length_append, List.length_cons, List.length_nil]; omega⟩, _, _, (by omega), rfl⟩
 intro h4
 try rw [nnp] at h4
 refine Ef (Eg (Ea (o_eql rfl rfl) (Ea (Ee rfl) (Ed (Ec (Eb [2, 3, 30] rfl ?_))))))
 first | refine Em rfl ?_ ?_ | refine Ek rfl ?_ ?_
 intro h5
 try rw [nnp] at h5
 refine Eg (Ea (Ep rfl) (Ea (Ey rfl rfl rfl) (Ea (o_bs rfl rfl rfl rfl) ?_)))
 first | refine Ea (o_appL rfl rfl (by simp) rfl rfl rfl rfl (by simp [roomy]; omega)) ?_ | refine Ea (o_app rfl rfl (by simp) rfl rfl (by simp [roomy]; omega)) ?_
 refine Ea (Ep rfl) (s_opN (o_stC rfl rfl rfl rfl rfl rfl) (Ed (q_blkN (Ec (Eb [2, 3] rfl (Ef (Eg (Ea (o_ldnC rfl rfl rfl) (s_opN (o_stnC rfl rfl rfl rfl rfl rfl rfl) (Ed (Ec ?_)))))))))))
 refine Eb [2] rfl (Ej ?_)
 · refine retF_leaf (.inr rfl) rfl rfl (by simp) rfl ?_
   first | exact ⟨⟨⟨z.write, z.addr, z.size, z.burst, z.lock, z.data⟩, rfl, by simp only; omega⟩, _, _, (by omega), rfl⟩ | exact ⟨⟨⟨z.write, x, z.size, z.burst, z.lock, z.data⟩, rfl, by simp only; omega⟩, _, _, (by omega), rfl⟩ | exact ⟨⟨⟨(!z.write), z.addr, z.size, z.burst, z.lock, z.data⟩, rfl, by simp only; omega⟩, _, _, (by omega), rfl⟩ | exact ⟨⟨⟨z.write, z.addr, x, z.burst, z.lock, z.data⟩, rfl, by simp only; omega⟩, _, _, (by omega), rfl⟩ | exact ⟨⟨⟨z.write, z.addr, z.size, x, z.lock, z.data⟩, rfl, by simp only; omega⟩, _, _, (by omega), rfl⟩ | exact ⟨⟨⟨z.write, z.addr, z.size, z.burst, z.lock, z.data ++ [1]⟩, (by simp only [Req.r, List.map_append]; rfl), by simp only [List.length_append, List.length_cons, List.length_nil]; omega⟩, _, _, (by omega), rfl⟩
 intro h5
 try rw [nnp] at h5
 refine Et (q_blkN (Ec (Eb [2, 3] rfl (Ef (Eg (Ea (o_ldnC rfl rfl rfl) (s_opN (o_stnC rfl rfl rfl rfl rfl rfl rfl) (Ed (Ec (Eb [2] rfl (Ej ?_)))))))))))
 · refine retF_leaf (.inr rfl) rfl rfl (by simp) rfl ?_
   first | exact ⟨⟨⟨z.write, z.addr, z.size, z.burst, z.lock, z.data⟩, rfl, by simp only; omega⟩, _, _, (by omega), rfl⟩ | exact ⟨⟨⟨z.write, x, z.size, z.burst, z.lock, z.data⟩, rfl, by simp only; omega⟩, _, _, (by omega), rfl⟩ | exact ⟨⟨⟨(!z.write), z.addr, z.size, z.burst, z.lock, z.data⟩, rfl, by simp only; omega⟩, _, _, (by omega), rfl⟩ | exact ⟨⟨⟨z.write, z.addr, x, z.burst, z.lock, z.data⟩, rfl, by simp only; omega⟩, _, _, (by omega), rfl⟩ | exact ⟨⟨⟨z.write, z.addr, z.size, x, z.lock, z.data⟩, rfl, by simp only; omega⟩, _, _, (by omega), rfl⟩ | exact ⟨⟨⟨z.write, z.addr, z.size, z.burst, z.lock, z.data ++ [1]⟩, (by simp only [Req.r, List.map_append]; rfl), by simp only [List.length_append, List.length_cons, List.length_nil]; omega⟩, _, _, (by omega), rfl⟩
def Script.fit (s : Script) : Prop := s.posts.length ≤ 6 ∧ (∀ p, p ∈ s.posts → p.req.data.length ≤ 16) ∧ (s.waits.length ≤ 6 ∧ ∀ y, y ∈ s.waits → 0 ≤ y ∧ y ≤ 16) ∧ s.says.length ≤ 6 ∧ ∀ y, y ∈ s.says → 0 ≤ y ∧ y ≤ 16
def byteB (v : Int) : Bool := inB v 0 255
def wordB (v : Int) : Bool := inB v 0 (limit 2 - 1)
def Dev.ok (d : Dev) : Bool := decide ((d.regs.length : Int) = 4) && decide ((d.fifo.length : Int) ≤ 4) && d.regs.all wordB && d.fifo.all wordB && wordB d.timer
def Model.ok (m : Model) : Bool := decide ((m.ram.length : Int) = 192) && m.ram.all byteB && m.dev.ok
def liveL (b : Bus) : List Beat := [b.addr, b.data].filter (fun x => x.live)
def Beat.none : Beat := ⟨false, 0, 0, false, 0, 0, 0, false⟩
def cntW (l : List Beat) (i : Nat) : Int := ((l.filter (fun x : Beat => decide (x.who = (i : Int)))).length : Int)
def fl (b : Bus) (j : Nat) : List (List V) := (List.range b.ms.length).map (fun i => iR (cntW ((liveL b).take j) i))
def Mst.backC (m : Mst) : Bool := m.right && decide (m.beat ≠ m.done)
def Mst.back (m : Mst) : Mst × Bool := if m.backC then (⟨m.queue, m.beat - 1, m.done, m.tries, m.parted, m.broken⟩, true) else (m, false)
def Mst.finC (m : Mst) : Bool := m.right && decide (m.beat ≠ m.done)
def Mst.fin (m : Mst) : Mst × Bool := if m.finC then (if m.done + 1 = m.beats then (⟨m.queue.drop 1, 0, 0, 0, false, false⟩, true) else (⟨m.queue, m.beat, m.done + 1, 0, false, m.broken⟩, true)) else (m, false)
def Mst.postC (m : Mst) (x : Req) : Bool := m.right && x.ok && decide (¬ (m.queue.length : Int) = 4)
def Mst.post (m : Mst) (x : Req) : Mst × Bool := if m.postC x then (⟨m.queue ++ [x], m.beat, m.done, m.tries, m.parted, m.broken⟩, true) else (m, false)
def Mst.fit (m : Mst) : Prop := m.queue.length ≤ 4 ∧ ∀ x, x ∈ m.queue → x.data.length ≤ 16
def Mst.fit5 (m : Mst) : Prop := m.queue.length ≤ 5 ∧ ∀ x, x ∈ m.queue → x.data.length ≤ 16
theorem Mst.fit.to5 {m : Mst} (h : m.fit) : m.fit5 := ⟨Nat.le_trans h.1 (by decide), h.2⟩
theorem Mst.fit5.small {m : Mst} (h : m.fit5) : m.small := ⟨Nat.le_trans h.1 (by decide), fun x hx => Nat.le_trans (h.2 x hx) (by decide)⟩
theorem Mst.fit.small {m : Mst} (h : m.fit) : m.small := h.to5.small
theorem Mst.fit.back {m : Mst} (h : m.fit) : m.back.1.fit := by
 unfold Mst.back
 split
 · exact h
 · exact h
theorem Mst.fit.fin {m : Mst} (h : m.fit) : m.fin.1.fit := by
 unfold Mst.fin
 split
 · split
   · exact ⟨by simp only [List.length_drop]; have := h.1; omega, fun x hx => h.2 x (List.mem_of_mem_drop hx)⟩
   · exact h
 · exact h
theorem Mst.fit.post {m : Mst} (h : m.fit) {x : Req} (hx : x.data.length ≤ 16) : (m.post x).1.fit := by
 unfold Mst.post
 split
 · rename_i hc
   unfold Mst.postC at hc
   simp only [Bool.and_eq_true, decide_eq_true_eq] at hc
   refine ⟨by simp only [List.length_append, List.length_cons, List.length_nil]; have := h.1; omega, fun y hy => ?_⟩
   rcases List.mem_append.1 hy with hy | hy
   · exact h.2 y hy
   · rw [List.mem_singleton.1 hy]; exact hx
 · exact h
def Mst.n (x : Mst) : List V := [.w (.slice none 0 0), .w (.int .i64 x.beat), .w (.int .i64 x.done), .w (.int .i64 x.tries), .w (.bool x.parted), .w (.bool x.broken)]
def Bus.mid (b : Bus) : List V := [.w (.int .i64 b.holder), .w (.int .i64 b.kept), .w (.int .i64 b.last), .w (.bool b.addr.live), .w (.int .i64 b.addr.who), .w (.int .i64 b.addr.num), .w (.bool b.addr.first), .w (.int .i64 b.addr.via), .w (.int .i64 b.addr.left), .w (.int .i64 b.addr.resp), .w (.bool b.addr.second), .w (.bool b.data.live), .w (.int .i64 b.data.who), .w (.int .i64 b.data.num), .w (.bool b.data.first), .w (.int .i64 b.data.via), .w (.int .i64 b.data.left), .w (.int .i64 b.data.resp), .w (.bool b.data.second)]
def Bus.o (b : Bus) : List V := [.ls 0 b.conf.masters.length, .w (.int .i64 b.conf.quantum), .w (.int .i64 b.conf.maxWait), .w (.int .i64 b.conf.maxRetry), .w (.int .i64 b.conf.maxSplit), .w (.int .i64 b.conf.lockMost), .w (.int .i64 b.now), .ls 1 b.ms.length, .w (.int .i64 b.arb.pos), .w (.int .i64 b.arb.credit), .ls 2 b.buckets.length, .ls 3 b.splits.length] ++ b.mid ++ [.ls 4 b.model.ram.length, .ls 5 b.model.dev.regs.length, .w (.int .i64 b.model.dev.timer), .ls 6 b.model.dev.fifo.length, .w (.int .i64 b.picks), .ls 7 b.log.length]
def Bus.n (b : Bus) : List V := [.sl 4 (b.conf.masters.map MConf.r), .w (.int .i64 b.conf.quantum), .w (.int .i64 b.conf.maxWait), .w (.int .i64 b.conf.maxRetry), .w (.int .i64 b.conf.maxSplit), .w (.int .i64 b.conf.lockMost), .w (.int .i64 b.now), .sl 6 (b.ms.map Mst.n), .w (.int .i64 b.arb.pos), .w (.int .i64 b.arb.credit), .sl 2 (b.buckets.map Bucket.r), .sl 1 (b.splits.map iR)] ++ b.mid ++ [.sl 1 (b.model.ram.map iR), .sl 1 (b.model.dev.regs.map iR), .w (.int .i64 b.model.dev.timer), .sl 1 (b.model.dev.fifo.map iR), .w (.int .i64 b.picks), .sl 7 (b.log.map Done.r)]
def Bus.rows (b : Bus) : List LB := [.arr 4 (b.conf.masters.map MConf.r), .arr 6 (b.ms.map Mst.n), .arr 2 (b.buckets.map Bucket.r), .arr 1 (b.splits.map iR), .arr 1 (b.model.ram.map iR), .arr 1 (b.model.dev.regs.map iR), .arr 1 (b.model.dev.fifo.map iR), .arr 7 (b.log.map Done.r)]
end Go.Proofs.YtoppcdecolponaaGreatDoor.AL
