/- What functions do with plain data, each by the form of its code. Printed by program. -/
import Derived.Test.YtoppcdecolponaaGreatCIdleBus0
namespace Go.Proofs.YtoppcdecolponaaGreat.AL
open Go
set_option linter.unusedVariables false
set_option linter.unusedSimpArgs false
set_option maxRecDepth 4096
theorem c_207 (x : Req) (hs : x.small) : CV prg 207 [.agg x.r] (fun res => res = .w (.bool x.ok)) := by
 have hd : x.data.length ≤ 1048576 := hs
 have hz := limit_bd x.size
 refine Fo g207 (Eb [0] rfl (Eh (En (Ea (o_box rfl rfl rfl) (Ea (Ef rfl) (Ed (Ec (Eb [1] rfl (Eh (Eh (En ?_)))))))))))
 refine Ea (Ek rfl) (Ea (Eo rfl rfl rfl) (Ea (Ek rfl) (Ea (Eo rfl rfl rfl) (Ea (Ek rfl) (Ea (Eo rfl rfl rfl) ?_)))))
 first | refine Ez rfl rfl (c_180 ..) ?_ | refine Ew rfl rfl (by simp) (c_180 ..) rfl ?_
 refine Ea (Fg rfl) (Ed (Ec (Eb [1, 11] rfl ?_)))
 first | refine Ey rfl ?_ ?_ | refine Fp rfl ?_ ?_ | refine Fh rfl ?_ ?_ | refine Ev rfl ?_ ?_
 intro h1
 try rw [nnp] at h1
 refine Eh (En (Ea (Ef rfl) (Ed (Ec (Eb [2] rfl (Ep (Eu (Eg rfl rfl ?_))))))))
 rotate_left
 intro h1
 try rw [nnp] at h1
 refine Fa (Ec (Eb [1] rfl (Eh (Eh (En (Ea (Ef rfl) (Ed (Ec (Eb [1, 3] rfl (Fj (S_loop0 (ι := Nat) (fun i => i ≤ x.data.length ∧ (x.data.take i).all (fun v => inB v 0 (limit x.size - 1)) = true) (fun i => [(3, .w (.int .i64 (i : Int)))]) (fun i => x.data.length - i) 0 (by simp) rfl ⟨rfl, trivial⟩ (fun _ _ => rfl) rfl ?_)))))))))))
 intro i hi
 refine Eb [1, 3] rfl (Eh (Eh (En (Ea (Ef rfl) (Ea (Ek rfl) (Ea (Eo rfl rfl rfl) ?_))))))
 first | refine Ea (Fk rfl) ?_ | refine Ea (Fu rfl) ?_ | refine Ea (o_lenL rfl rfl rfl) ?_ | refine Ea (o_lenN rfl) ?_
 refine Ea (o_lss rfl rfl) (Ed (Ec (Eb [1, 3, 16] rfl ?_)))
 first | refine Ey rfl ?_ ?_ | refine Ev rfl ?_ ?_
 intro h2
 try rw [nnp] at h2
 refine Fa (Ec (Eb [1, 3] rfl (Eh (Fj (Eh (En (Ea (Ek rfl) (Ea (Eo rfl rfl rfl) (Ea (Ef rfl) (s_iaM rfl rfl (by omega) ?_))))))))))
 intro y3 e3
 try simp only [Int.toNat_natCast, Int.toNat_zero] at e3
 refine Ea (o_ld rfl rfl) (Ea (Ek rfl) (Ea (Eo rfl rfl rfl) ?_))
 first | refine Ez rfl rfl (c_201 ..) ?_ | refine Ew rfl rfl (by simp) (c_201 ..) rfl ?_
 first | refine Ea (o_subn rfl rfl (by omega)) ?_ | refine Ea (o_sub rfl rfl) ?_
 first | refine Ez rfl rfl (Fy ..) ?_ | refine Ew rfl rfl (by simp) (Fy ..) rfl ?_
 refine Ea (Fg rfl) (Ed (Ec (Eb [1, 3, 29] rfl ?_)))
 first | refine Ey rfl ?_ ?_ | refine Fp rfl ?_ ?_ | refine Fh rfl ?_ ?_ | refine Ev rfl ?_ ?_
 intro h4
 try rw [nnp] at h4
 refine Eh (En (Ea (Ef rfl) (Ed (Ec (Eb [2] rfl (Ep (Fd (Eu (Fw (Fd (Eu ?_)))))))))))
 refine Eg rfl rfl ?_
 rotate_left
 intro h4
 try rw [nnp] at h4
 refine Fa (q_blkN (Ec (Eb [1, 3] rfl (En (Ea (Ef rfl) ?_)))))
 first | refine Ea (Fs rfl rfl (by omega)) ?_ | refine Ea (o_add rfl rfl) ?_
 refine Ea (Ef rfl) (Ed (q_loopN ?_))
 · exact ⟨i + 1, ⟨by omega, all_take (by assumption) hi.2 (by assumption)⟩, by omega, hasOf ⟨rfl, trivial⟩ rfl⟩
 intro h2
 try rw [nnp] at h2
 refine s_exit (q_seqX (q_loopX (q_blkH (Ec (Eb [1] rfl (Eh (En (Ea (Ek rfl) (Ea (Eo rfl rfl rfl) ?_)))))))))
 first | refine Ea (Fk rfl) ?_ | refine Ea (Fu rfl) ?_ | refine Ea (o_lenL rfl rfl rfl) ?_ | refine Ea (o_lenN rfl) ?_
 refine Ea (Fv rfl rfl) (Ea (Ef rfl) ?_)
 first | refine Ff rfl ?_ ?_ | refine Fe rfl ?_ ?_
 intro h5
 try rw [nnp] at h5
 refine Ea (Ek rfl) (Ei rfl (Ea (Eo rfl rfl rfl) (Ei rfl (Ea (Fg rfl) (Ea (Em rfl rfl) (Ea (Ef rfl) ?_))))))
 first | refine Fq rfl ?_ ?_ | refine Fr rfl ?_ ?_ | refine s_gNF rfl ?_ ?_ | refine Fe rfl ?_ ?_
 intro h6
 try rw [nnp] at h6
 refine Ea (Ek rfl) (Ei rfl (Ea (Eo rfl rfl rfl) (Ei rfl ?_)))
 first | refine Ea (Fk rfl) ?_ | refine Ea (Fu rfl) ?_ | refine Ea (o_lenL rfl rfl rfl) ?_ | refine Ea (o_lenN rfl) ?_
 refine Ei rfl (Ea (Ek rfl) (Er (is := [1, 39, 42, 43]) rfl (Ei rfl (Ea (Eo rfl rfl rfl) (Ei rfl ?_)))))
 first | refine Ez rfl rfl (c_173 ..) ?_ | refine Ew rfl rfl (by simp) (c_173 ..) rfl ?_
 refine Ei rfl (Ea (Fv rfl rfl) (Ei rfl (Ea (Ef rfl) ?_)))
 first | refine Ff rfl ?_ ?_ | refine Fe rfl ?_ ?_
 intro h7
 try rw [nnp] at h7
 refine Ea (Ek rfl) (Ei rfl (Ea (Eo rfl rfl rfl) (Ei rfl (Ea (Em rfl rfl) (Ea (Ej rfl rfl) (Ea (Ef rfl) (Ed (Ec (Eb [2] rfl (Ep (Eg rfl rfl ?_)))))))))))
 rotate_left
 intro h7
 try rw [nnp] at h7
 refine Ee rfl (Ee rfl (Ei rfl (Ea (Ej rfl rfl) (Ea (Ej rfl rfl) (Ea (Ef rfl) (Ed (Ec (Eb [2] rfl (Ep (Eg rfl rfl ?_))))))))))
 rotate_left
 intro h6
 try rw [nnp] at h6
 refine Ee rfl (Ee rfl (Ee rfl (Ee rfl (Er (is := [1, 39, 42, 43]) rfl (Ee rfl (Ee rfl (Ee rfl (Ee rfl (Fb rfl (Fb rfl (Ee rfl ?_)))))))))))
 refine Ea (Em rfl rfl) (Ea (Ef rfl) (Ed (Ec (Eb [2] rfl (Ep (Eg rfl rfl ?_))))))
 rotate_left
 intro h5
 try rw [nnp] at h5
 refine Ee rfl (Ee rfl (Ee rfl (Ea (Ej rfl rfl) (Ea (Ef rfl) (Ei rfl (Ea (Ek rfl) (Ei rfl (Ea (Eo rfl rfl rfl) (Ei rfl ?_)))))))))
 first | refine Ea (Fk rfl) ?_ | refine Ea (Fu rfl) ?_ | refine Ea (o_lenL rfl rfl rfl) ?_ | refine Ea (o_lenN rfl) ?_
 refine Ei rfl (Ea (Ek rfl) (Er (is := [1, 39, 42, 43]) rfl (Ei rfl (Ea (Eo rfl rfl rfl) (Ei rfl ?_)))))
 first | refine Ez rfl rfl (c_173 ..) ?_ | refine Ew rfl rfl (by simp) (c_173 ..) rfl ?_
 refine Ei rfl (Ea (Fv rfl rfl) (Ei rfl (Ea (Ef rfl) ?_)))
 first | refine Ff rfl ?_ ?_ | refine Fe rfl ?_ ?_
 intro h8
 try rw [nnp] at h8
 refine Ea (Ek rfl) (Ei rfl (Ea (Eo rfl rfl rfl) (Ei rfl (Ea (Em rfl rfl) (Ea (Ej rfl rfl) (Ea (Ef rfl) (Ed (Ec (Eb [2] rfl (Ep (Eg rfl rfl ?_)))))))))))
 rotate_left
 intro h8
 try rw [nnp] at h8
 refine Ee rfl (Ee rfl (Ei rfl (Ea (Ej rfl rfl) (Ea (Ej rfl rfl) (Ea (Ef rfl) (Ed (Ec (Eb [2] rfl (Ep (Eg rfl rfl ?_))))))))))
 rotate_left
 all_goals
  first | (unfold Req.ok; rw [all_no (by assumption) (by assumption)]; simp; done) | (have ha := all_end hi.2 (by omega); clear hi; cases hw : x.write <;> simp_all [Req.ok]; done) | (have ha := all_end hi.2 (by omega); clear hi; cases hw : x.write <;> simp_all [Req.ok] <;> omega) | (simp_all [Req.ok]; done)
def Mst.beats (m : Mst) : Int := match m.queue[0]? with | some r => AL.beats r.burst | none => 0
def Mst.right (m : Mst) : Bool := decide (m.queue.length ≤ 4) && decide (0 ≤ m.tries) && m.queue.all Req.ok &&
 (if m.queue.length = 0 then decide (m.beat = 0) && decide (m.done = 0) && decide (m.tries = 0) && !m.parted && !m.broken else inB m.done 0 (m.beats - 1) && inB m.beat m.done (min (m.done + 2) m.beats))
theorem Mst.beats_bd (m : Mst) : 0 ≤ m.beats ∧ m.beats ≤ 8 := by
 unfold Mst.beats
 split
 · exact AL.beats_bd _
 · simp
theorem Mst.beats_nil {m : Mst} (h : m.queue.length = 0) : m.beats = 0 := by
 unfold Mst.beats
 rw [List.getElem?_eq_none (by omega)]
theorem Mst.beats_at {m : Mst} {r : Req} (h : m.queue[0]? = some r) : m.beats = AL.beats r.burst := by unfold Mst.beats; rw [h]
theorem req_not (xs : List Req) : (!xs.any (fun r => !r.ok)) = xs.all Req.ok := by
 induction xs with
 | nil => rfl
 | cons m xs ih => simp only [List.any_cons, List.all_cons, Bool.not_or, Bool.not_not, ih]
theorem req_any (xs : List Req) : xs.any (fun r => !r.ok) = !xs.all Req.ok := by rw [← req_not, Bool.not_not]
theorem c_18 (m : Mst) : CV prg 18 [.rp m.r 0] (fun res => res = .w (.int .i64 m.beats)) := by
 refine Fo g18 (Eb [0] rfl (Eh (En (Ea (Ef rfl) (Ed (Ec (Eb [0] rfl (Eh (Eh (En (Ea (Ef rfl) ?_)))))))))))
 refine Ea (Fn rfl) (Ea (o_fa rfl) (Ea (o_ld rfl rfl) ?_))
 first | refine Ea (Fk rfl) ?_ | refine Ea (Fu rfl) ?_ | refine Ea (o_lenL rfl rfl rfl) ?_ | refine Ea (o_lenN rfl) ?_
 refine Ea (Fv rfl rfl) (Ed (Ec (Eb [0, 8] rfl ?_)))
 first | refine Ey rfl ?_ ?_ | refine Ev rfl ?_ ?_
 intro h1
 try rw [nnp] at h1
 refine Eh (En (Ea (Ef rfl) (Ed (Ec (Eb [2] rfl (Ep (Eu (Fc rfl rfl ?_))))))))
 rotate_left
 intro h1
 try rw [nnp] at h1
 refine Fa (Ec (Eb [0] rfl (Eh (En (Ea (Ef rfl) (Ea (Fn rfl) (Ea (o_fa rfl) (Ea (o_ld rfl rfl) (s_iaM rfl rfl (by omega) ?_)))))))))
 intro y2 e2
 try simp only [Int.toNat_natCast, Int.toNat_zero] at e2
 refine Ea (o_fa rfl) (Ea (o_ld rfl rfl) ?_)
 first | refine Ez rfl rfl (c_22 ..) ?_ | refine Ew rfl rfl (by simp) (c_22 ..) rfl ?_
 refine Ea (Ef rfl) (Ed (Ec (Eb [2] rfl (Ep (Fc rfl rfl ?_)))))
 rotate_left
 all_goals
  first | exact (Mst.beats_at (by assumption)).symm | exact (Mst.beats_nil (by omega)).symm
theorem c_220 (m : Mst) : CV prg 220 [.agg m.r] (fun res => res = .w (.int .i64 m.beats)) := by
 refine Fo g220 (Eb [0] rfl (Eh (En (Ea (o_box rfl rfl rfl) (Ea (Ef rfl) (Ed (Ec (Eb [1] rfl (Eh (Eh (En ?_)))))))))))
 refine Ea (Ek rfl) (Ea (Eo rfl rfl rfl) ?_)
 first | refine Ea (Fk rfl) ?_ | refine Ea (Fu rfl) ?_ | refine Ea (o_lenL rfl rfl rfl) ?_ | refine Ea (o_lenN rfl) ?_
 refine Ea (Fv rfl rfl) (Ed (Ec (Eb [1, 6] rfl ?_)))
 first | refine Ey rfl ?_ ?_ | refine Ev rfl ?_ ?_
 intro h1
 try rw [nnp] at h1
 refine Eh (En (Ea (Ef rfl) (Ed (Ec (Eb [2] rfl (Ep (Eu (Fc rfl rfl ?_))))))))
 rotate_left
 intro h1
 try rw [nnp] at h1
 refine Fa (Ec (Eb [1] rfl (Eh (En (Ea (Ek rfl) (Ea (Eo rfl rfl rfl) (s_iaM rfl rfl (by omega) ?_)))))))
 intro y2 e2
 try simp only [Int.toNat_natCast, Int.toNat_zero] at e2
 refine Ea (o_fa rfl) (Ea (o_ld rfl rfl) ?_)
 first | refine Ez rfl rfl (c_173 ..) ?_ | refine Ew rfl rfl (by simp) (c_173 ..) rfl ?_
 refine Ea (Ef rfl) (Ed (Ec (Eb [2] rfl (Ep (Fc rfl rfl ?_)))))
 rotate_left
 all_goals
  first | exact (Mst.beats_at (by assumption)).symm | exact (Mst.beats_nil (by omega)).symm
theorem c_89 (r : Req) (hs : r.small) : CV prg 89 [.agg r.r] (fun res => res = .w (.bool (!r.ok))) := by
 refine Fo g89 (Eb [0] rfl (Eh (En (Ea (o_box rfl rfl rfl) (Ea (Ef rfl) (Ed (Ec (Eb [1] rfl (Eh (En (Ea (Fm rfl rfl rfl) ?_)))))))))))
 first | refine Ez rfl rfl (c_66 _ (by assumption)) ?_ | refine Ew rfl rfl (by simp) (c_66 _ (by assumption)) rfl ?_
 refine Ea (Fg rfl) (Ea (Ef rfl) (Ed (Ec (Eb [2] rfl (Ep (Eg rfl rfl ?_))))))
 rotate_left
 all_goals
  rfl
theorem c_88 (m : Mst) (hs : m.small) : CV prg 88 [.agg m.r] (fun res => res = .w (.bool m.right)) := by
 have hbb := m.beats_bd
 refine Fo g88 (Eb [0] rfl (Eh (En (Ea (o_box rfl rfl rfl) (Ea (Ef rfl) (Ed (Ec (Eb [1] rfl (Eh (Eh (En ?_)))))))))))
 refine Ea (Ek rfl) (Ea (Eo rfl rfl rfl) ?_)
 first | refine Ea (Fk rfl) ?_ | refine Ea (Fu rfl) ?_ | refine Ea (o_lenL rfl rfl rfl) ?_ | refine Ea (o_lenN rfl) ?_
 refine Ea (o_gtr rfl rfl) (Ea (Ef rfl) ?_)
 first | refine Fq rfl ?_ ?_ | refine Fe rfl ?_ ?_
 intro h1
 try rw [nnp] at h1
 try have h1' := Et h1
 refine Ea (Ek rfl) (Ei rfl (Ea (Eo rfl rfl rfl) (Ei rfl (Ea (o_lss rfl rfl) (Ea (Ej rfl rfl) (Ea (Ef rfl) ?_))))))
 first | refine Fq rfl ?_ ?_ | refine Fe rfl ?_ ?_
 intro h2
 try rw [nnp] at h2
 try have h2' := Et h2
 refine Ea (Ek rfl) (Ei rfl (Ea (Eo rfl rfl rfl) (Ei rfl (Ez rfl rfl (c_260 _ (by have := hs.1; omega) _ _ rfl (fun r => !r.ok) (fun y hy => c_89 y (hs.2 y hy))) (Ea (Ej rfl rfl) (Ed (Ec (Eb [1, 16] rfl ?_))))))))
 first | refine Ey rfl ?_ ?_ | refine Fp rfl ?_ ?_ | refine Fh rfl ?_ ?_ | refine Ev rfl ?_ ?_
 intro h3
 try rw [nnp] at h3
 try have h3' := Et h3
 refine Eh (En (Ea (Ef rfl) (Ed (Ec (Eb [2] rfl (Ep (Eu (Eg rfl rfl ?_))))))))
 rotate_left
 intro h3
 try rw [nnp] at h3
 try have h3' := Et h3
 refine Fa (Ec (Eb [1] rfl (Eh (Eh (En (Ea (Ek rfl) (Ea (Eo rfl rfl rfl) ?_)))))))
 first | refine Ea (Fk rfl) ?_ | refine Ea (Fu rfl) ?_ | refine Ea (o_lenL rfl rfl rfl) ?_ | refine Ea (o_lenN rfl) ?_
 refine Ea (Fv rfl rfl) (Ed (Ec (Eb [1, 20] rfl ?_)))
 first | refine Ey rfl ?_ ?_ | refine Ev rfl ?_ ?_
 intro h4
 try rw [nnp] at h4
 try have h4' := Et h4
 refine Eh (En (Ea (Ek rfl) (Ea (Eo rfl rfl rfl) (Ea (Fv rfl rfl) (Ea (Ef rfl) ?_)))))
 first | refine Ff rfl ?_ ?_ | refine Fe rfl ?_ ?_
 intro h5
 try rw [nnp] at h5
 try have h5' := Et h5
 refine Ea (Ek rfl) (Ei rfl (Ea (Eo rfl rfl rfl) (Ei rfl (Ea (Fv rfl rfl) (Ea (Em rfl rfl) (Ea (Ef rfl) ?_))))))
 first | refine Ff rfl ?_ ?_ | refine Fe rfl ?_ ?_
 intro h6
 try rw [nnp] at h6
 try have h6' := Et h6
 refine Ea (Ek rfl) (Ei rfl (Ea (Eo rfl rfl rfl) (Ei rfl (Ea (Fv rfl rfl) (Ea (Em rfl rfl) (Ea (Ef rfl) (Er (is := [1, 34]) rfl ?_)))))))
 first | refine Ff rfl ?_ ?_ | refine Fe rfl ?_ ?_
 intro h7
 try rw [nnp] at h7
 try have h7' := Et h7
 refine Ea (Ek rfl) (Ei rfl (Ea (Eo rfl rfl rfl) (Ei rfl (Ea (Fg rfl) (Ea (Em rfl rfl) (Ea (Ef rfl) ?_))))))
 first | refine Ff rfl ?_ ?_ | refine Ft rfl ?_ ?_ | refine s_gNT rfl ?_ ?_ | refine Fe rfl ?_ ?_
 intro h8
 try rw [nnp] at h8
 try have h8' := Et h8
 refine Ea (Ek rfl) (Ei rfl (Ea (Eo rfl rfl rfl) (Ei rfl (Ea (Fg rfl) (Ea (Em rfl rfl) (Ea (Ef rfl) (Ed (Ec (Eb [2] rfl (Ep (Eu ?_)))))))))))
 refine Eg rfl rfl ?_
 rotate_left
 intro h8
 try rw [nnp] at h8
 try have h8' := Et h8
 refine Ee rfl (Ee rfl (Ee rfl (Ea (Ej rfl rfl) (Ea (Ef rfl) (Ed (Ec (Eb [2] rfl (Ep (Eu (Eg rfl rfl ?_))))))))))
 rotate_left
 intro h7
 try rw [nnp] at h7
 try have h7' := Et h7
 refine Ee rfl (Ee rfl (Ee rfl (Ea (Ej rfl rfl) (Ea (Ef rfl) (Ee rfl (Ee rfl (Ee rfl (Ea (Ej rfl rfl) (Ea (Ef rfl) (Ed (Ec ?_)))))))))))
 refine Eb [2] rfl (Ep (Eu (Eg rfl rfl ?_)))
 rotate_left
 intro h6
 try rw [nnp] at h6
 try have h6' := Et h6
 refine Ee rfl (Ee rfl (Ee rfl (Ea (Ej rfl rfl) (Ea (Ef rfl) (Er (is := [1, 34]) rfl (Ee rfl (Ee rfl (Ee rfl (Ea (Ej rfl rfl) (Ea (Ef rfl) (Ee rfl ?_)))))))))))
 refine Ee rfl (Ee rfl (Ea (Ej rfl rfl) (Ea (Ef rfl) (Ed (Ec (Eb [2] rfl (Ep (Eu (Eg rfl rfl ?_)))))))))
 rotate_left
 intro h5
 try rw [nnp] at h5
 try have h5' := Et h5
 refine Ee rfl (Ee rfl (Ee rfl (Ea (Ej rfl rfl) (Ea (Ef rfl) (Ee rfl (Ee rfl (Ee rfl (Ea (Ej rfl rfl) (Ea (Ef rfl) (Er (is := [1, 34]) rfl (Ee rfl ?_)))))))))))
 refine Ee rfl (Ee rfl (Ea (Ej rfl rfl) (Ea (Ef rfl) (Ee rfl (Ee rfl (Ee rfl (Ea (Ej rfl rfl) (Ea (Ef rfl) (Ed (Ec (Eb [2] rfl ?_)))))))))))
 refine Ep (Eu (Eg rfl rfl ?_))
 rotate_left
 intro h4
 try rw [nnp] at h4
 try have h4' := Et h4
 refine Fa (Ec (Eb [1] rfl (Eh (En (Ea (Ek rfl) (Ea (Eo rfl rfl rfl) (Ew rfl rfl (by simp) (c_18 m) rfl ?_)))))))
 first | refine Ea (o_subn rfl rfl (by first | omega | (simp only [minL2]; omega))) ?_ | refine Ea (o_sub rfl rfl) ?_
 first | refine Ez rfl rfl (c_103 ..) ?_ | refine Ew rfl rfl (by simp) (c_103 ..) rfl ?_
 refine Ea (Ef rfl) ?_
 first | refine Ff rfl ?_ ?_ | refine Ft rfl ?_ ?_ | refine s_gNT rfl ?_ ?_ | refine Fe rfl ?_ ?_
 intro h9
 try rw [nnp] at h9
 try have h9' := Et h9
 refine Ea (Ek rfl) (Ei rfl (Ea (Eo rfl rfl rfl) (Ei rfl (Ea (Ek rfl) (Ei rfl (Ea (Eo rfl rfl rfl) (Ei rfl (Ea (Ek rfl) (Ei rfl (Ea (Eo rfl rfl rfl) (Ei rfl ?_)))))))))))
 first | refine Ea (Fs rfl rfl (by first | omega | (simp only [minL2]; omega))) ?_ | refine Ea (o_add rfl rfl) ?_
 refine Ei rfl (Ew rfl rfl (by simp) (c_18 m) rfl (Er (is := [49, 51, 53, 56, 57]) rfl (Ei rfl (Ea (o_mn rfl) (Ei rfl ?_)))))
 first | refine Ez rfl rfl (c_103 ..) ?_ | refine Ew rfl rfl (by simp) (c_103 ..) rfl ?_
 refine Ea (Em rfl rfl) (Ea (Ef rfl) (Ed (Ec (Eb [2] rfl (Ep (Eg rfl rfl ?_))))))
 rotate_left
 intro h9
 try rw [nnp] at h9
 try have h9' := Et h9
 iterate 8 refine Ee rfl ?_
 refine Er (is := [49, 51, 53, 56, 57]) rfl (Ee rfl (Ee rfl (Ea (Ej rfl rfl) (Ea (Ef rfl) (Ed (Ec (Eb [2] rfl (Ep (Eg rfl rfl ?_)))))))))
 rotate_left
 intro h2
 try rw [nnp] at h2
 try have h2' := Et h2
 refine Ee rfl (Ee rfl (Ee rfl (Ea (Em rfl rfl) (Ed (Ec (Eb [1, 16] rfl (Fi rfl (Eh (En (Ea (Ef rfl) (Ed ?_)))))))))))
 refine Ec (Eb [2] rfl (Ep (Eu (Eg rfl rfl ?_))))
 rotate_left
 intro h1
 try rw [nnp] at h1
 try have h1' := Et h1
 refine Ee rfl (Ee rfl (Ee rfl (Ea (Em rfl rfl) (Ea (Ef rfl) (Ee rfl (Ee rfl (Ee rfl (Ea (Em rfl rfl) (Ed (Ec (Eb [1, 16] rfl ?_)))))))))))
 refine Fi rfl (Eh (En (Ea (Ef rfl) (Ed (Ec (Eb [2] rfl (Ep (Eu (Eg rfl rfl ?_)))))))))
 rotate_left
 all_goals
  clear hs
  try simp only [req_any] at *
  unfold Mst.right
  generalize m.queue.all Req.ok = z at *
  generalize m.queue.length = n at *
  first | (simp_all [minL2]; done) | (simp_all [minL2] <;> omega)
theorem c_221 (m : Mst) (hs : m.small) : CV prg 221 [.agg m.r] (fun res => res = .w (.bool m.right)) := by
 have hbb := m.beats_bd
 have hq := hs.1
 refine Fo g221 (Eb [0] rfl (Eh (En (Ea (o_box rfl rfl rfl) (Ea (Ef rfl) (Ed (Ec (Eb [1] rfl (Eh (Eh (En ?_)))))))))))
 refine Ea (Ef rfl) (Ed (Ec (Eb [1, 3] rfl (Fj (S_loop0 (ι := Nat) (fun i => i ≤ m.queue.length ∧ (m.queue.take i).all Req.ok = true) (fun i => [(3, .w (.int .i64 (i : Int)))]) (fun i => m.queue.length - i) 0 (by simp) rfl ⟨rfl, trivial⟩ (fun _ _ => rfl) rfl ?_)))))
 intro i hi
 refine Eb [1, 3] rfl (Eh (Eh (En (Ea (Ef rfl) (Ea (Ek rfl) (Ea (Eo rfl rfl rfl) ?_))))))
 first | refine Ea (Fk rfl) ?_ | refine Ea (Fu rfl) ?_ | refine Ea (o_lenL rfl rfl rfl) ?_ | refine Ea (o_lenN rfl) ?_
 refine Ea (o_lss rfl rfl) (Ed (Ec (Eb [1, 3, 8] rfl ?_)))
 first | refine Ey rfl ?_ ?_ | refine Ev rfl ?_ ?_
 intro h1
 try rw [nnp] at h1
 try have h1' := Et h1
 refine Fa (Ec (Eb [1, 3] rfl (Eh (Fj (Eh (En (Ea (Ek rfl) (Ea (Eo rfl rfl rfl) (Ea (Ef rfl) (s_iaM rfl rfl (by omega) ?_))))))))))
 intro y2 e2
 try simp only [Int.toNat_natCast, Int.toNat_zero] at e2
 refine Ea (o_ldn rfl rfl) ?_
 first | refine Ez rfl rfl (c_207 _ (hs.2 _ (List.mem_of_getElem? (by assumption)))) ?_ | refine Ew rfl rfl (by simp) (c_207 _ (hs.2 _ (List.mem_of_getElem? (by assumption)))) rfl ?_
 refine Ea (Fg rfl) (Ed (Ec (Eb [1, 3, 17] rfl ?_)))
 first | refine Ey rfl ?_ ?_ | refine Fp rfl ?_ ?_ | refine Fh rfl ?_ ?_ | refine Ev rfl ?_ ?_
 intro h3
 try rw [nnp] at h3
 try have h3' := Et h3
 refine Eh (En (Ea (Ef rfl) (Ed (Ec (Eb [2] rfl (Ep (Fd (Eu (Fw (Fd (Eu ?_)))))))))))
 refine Eg rfl rfl ?_
 rotate_left
 intro h3
 try rw [nnp] at h3
 try have h3' := Et h3
 refine Fa (q_blkN (Ec (Eb [1, 3] rfl (En (Ea (Ef rfl) ?_)))))
 first | refine Ea (Fs rfl rfl (by omega)) ?_ | refine Ea (o_add rfl rfl) ?_
 refine Ea (Ef rfl) (Ed (q_loopN ?_))
 · exact ⟨i + 1, ⟨by omega, all_take (by assumption) hi.2 (by assumption)⟩, by omega, hasOf ⟨rfl, trivial⟩ rfl⟩
 intro h1
 try rw [nnp] at h1
 try have h1' := Et h1
 refine s_exit (q_seqX (q_loopX (q_blkH (Ec (Eb [1] rfl (Eh (Eh (En (Ea (Ek rfl) (Ea (Eo rfl rfl rfl) ?_))))))))))
 first | refine Ea (Fk rfl) ?_ | refine Ea (Fu rfl) ?_ | refine Ea (o_lenL rfl rfl rfl) ?_ | refine Ea (o_lenN rfl) ?_
 refine Ea (o_gtr rfl rfl) (Ea (Ef rfl) ?_)
 first | refine Fq rfl ?_ ?_ | refine Fe rfl ?_ ?_
 intro h4
 try rw [nnp] at h4
 try have h4' := Et h4
 refine Ea (Ek rfl) (Ei rfl (Ea (Eo rfl rfl rfl) (Ei rfl (Ea (o_lss rfl rfl) (Ea (Ej rfl rfl) (Ed (Ec (Eb [1, 26] rfl ?_))))))))
 first | refine Ey rfl ?_ ?_ | refine Ev rfl ?_ ?_
 intro h5
 try rw [nnp] at h5
 try have h5' := Et h5
 refine Eh (En (Ea (Ef rfl) (Ed (Ec (Eb [2] rfl (Ep (Eu (Eg rfl rfl ?_))))))))
 rotate_left
 intro h5
 try rw [nnp] at h5
 try have h5' := Et h5
 refine Fa (Ec (Eb [1] rfl (Eh (Eh (En (Ea (Ek rfl) (Ea (Eo rfl rfl rfl) ?_)))))))
 first | refine Ea (Fk rfl) ?_ | refine Ea (Fu rfl) ?_ | refine Ea (o_lenL rfl rfl rfl) ?_ | refine Ea (o_lenN rfl) ?_
 refine Ea (Fv rfl rfl) (Ed (Ec (Eb [1, 30] rfl ?_)))
 first | refine Ey rfl ?_ ?_ | refine Ev rfl ?_ ?_
 intro h6
 try rw [nnp] at h6
 try have h6' := Et h6
 refine Eh (En (Ea (Ek rfl) (Ea (Eo rfl rfl rfl) (Ea (Fv rfl rfl) (Ea (Ef rfl) ?_)))))
 first | refine Ff rfl ?_ ?_ | refine Fe rfl ?_ ?_
 intro h7
 try rw [nnp] at h7
 try have h7' := Et h7
 refine Ea (Ek rfl) (Ei rfl (Ea (Eo rfl rfl rfl) (Ei rfl (Ea (Fv rfl rfl) (Ea (Em rfl rfl) (Ea (Ef rfl) ?_))))))
 first | refine Ff rfl ?_ ?_ | refine Fe rfl ?_ ?_
 intro h8
 try rw [nnp] at h8
 try have h8' := Et h8
 refine Ea (Ek rfl) (Ei rfl (Ea (Eo rfl rfl rfl) (Ei rfl (Ea (Fv rfl rfl) (Ea (Em rfl rfl) (Ea (Ef rfl) (Er (is := [1, 44]) rfl ?_)))))))
 first | refine Ff rfl ?_ ?_ | refine Fe rfl ?_ ?_
 intro h9
 try rw [nnp] at h9
 try have h9' := Et h9
 refine Ea (Ek rfl) (Ei rfl (Ea (Eo rfl rfl rfl) (Ei rfl (Ea (Fg rfl) (Ea (Em rfl rfl) (Ea (Ef rfl) ?_))))))
 first | refine Ff rfl ?_ ?_ | refine Ft rfl ?_ ?_ | refine s_gNT rfl ?_ ?_ | refine Fe rfl ?_ ?_
 intro h10
 try rw [nnp] at h10
 try have h10' := Et h10
 refine Ea (Ek rfl) (Ei rfl (Ea (Eo rfl rfl rfl) (Ei rfl (Ea (Fg rfl) (Ea (Em rfl rfl) (Ea (Ef rfl) (Ed (Ec (Eb [2] rfl (Ep (Eu ?_)))))))))))
 refine Eg rfl rfl ?_
 rotate_left
 intro h10
 try rw [nnp] at h10
 try have h10' := Et h10
 refine Ee rfl (Ee rfl (Ee rfl (Ea (Ej rfl rfl) (Ea (Ef rfl) (Ed (Ec (Eb [2] rfl (Ep (Eu (Eg rfl rfl ?_))))))))))
 rotate_left
 intro h9
 try rw [nnp] at h9
 try have h9' := Et h9
 refine Ee rfl (Ee rfl (Ee rfl (Ea (Ej rfl rfl) (Ea (Ef rfl) (Ee rfl (Ee rfl (Ee rfl (Ea (Ej rfl rfl) (Ea (Ef rfl) (Ed (Ec ?_)))))))))))
 refine Eb [2] rfl (Ep (Eu (Eg rfl rfl ?_)))
 rotate_left
 intro h8
 try rw [nnp] at h8
 try have h8' := Et h8
 refine Ee rfl (Ee rfl (Ee rfl (Ea (Ej rfl rfl) (Ea (Ef rfl) (Er (is := [1, 44]) rfl (Ee rfl (Ee rfl (Ee rfl (Ea (Ej rfl rfl) (Ea (Ef rfl) (Ee rfl ?_)))))))))))
 refine Ee rfl (Ee rfl (Ea (Ej rfl rfl) (Ea (Ef rfl) (Ed (Ec (Eb [2] rfl (Ep (Eu (Eg rfl rfl ?_)))))))))
 rotate_left
 intro h7
 try rw [nnp] at h7
 try have h7' := Et h7
 refine Ee rfl (Ee rfl (Ee rfl (Ea (Ej rfl rfl) (Ea (Ef rfl) (Ee rfl (Ee rfl (Ee rfl (Ea (Ej rfl rfl) (Ea (Ef rfl) (Er (is := [1, 44]) rfl (Ee rfl ?_)))))))))))
 refine Ee rfl (Ee rfl (Ea (Ej rfl rfl) (Ea (Ef rfl) (Ee rfl (Ee rfl (Ee rfl (Ea (Ej rfl rfl) (Ea (Ef rfl) (Ed (Ec (Eb [2] rfl ?_)))))))))))
 refine Ep (Eu (Eg rfl rfl ?_))
 rotate_left
 intro h6
 try rw [nnp] at h6
 try have h6' := Et h6
 refine Fa (Ec (Eb [1] rfl (Eh (En (Ea (Ek rfl) (Ea (Eo rfl rfl rfl) (Ea (Fm rfl rfl rfl) ?_)))))))
 first | refine Ez rfl rfl (c_220 _) ?_ | refine Ew rfl rfl (by simp) (c_220 _) rfl ?_
 first | refine Ea (o_subn rfl rfl (by omega)) ?_ | refine Ea (o_sub rfl rfl) ?_
 first | refine Ez rfl rfl (Fy ..) ?_ | refine Ew rfl rfl (by simp) (Fy ..) rfl ?_
 refine Ea (Ef rfl) ?_
 first | refine Ff rfl ?_ ?_ | refine Ft rfl ?_ ?_ | refine s_gNT rfl ?_ ?_ | refine Fe rfl ?_ ?_
 intro h11
 try rw [nnp] at h11
 try have h11' := Et h11
 refine Ea (Ek rfl) (Ei rfl (Ea (Eo rfl rfl rfl) (Ei rfl (Ea (Ek rfl) (Ei rfl (Ea (Eo rfl rfl rfl) (Ei rfl (Ea (Ek rfl) (Ei rfl (Ea (Eo rfl rfl rfl) (Ei rfl ?_)))))))))))
 first | refine Ea (Fs rfl rfl (by omega)) ?_ | refine Ea (o_add rfl rfl) ?_
 refine Er (is := [1, 60, 62, 64, 67]) rfl (Ei rfl (Ea (Fm rfl rfl rfl) (Ei rfl ?_)))
 first | refine Ez rfl rfl (c_220 _) ?_ | refine Ew rfl rfl (by simp) (c_220 _) rfl ?_
 refine Ei rfl (Ea (o_mn rfl) (Ei rfl ?_))
 first | refine Ez rfl rfl (Fy ..) ?_ | refine Ew rfl rfl (by simp) (Fy ..) rfl ?_
 refine Ea (Em rfl rfl) (Ea (Ef rfl) (Ed (Ec (Eb [2] rfl (Ep (Eg rfl rfl ?_))))))
 rotate_left
 intro h11
 try rw [nnp] at h11
 try have h11' := Et h11
 iterate 7 refine Ee rfl ?_
 refine Er (is := [1, 60, 62, 64, 67]) rfl (Ee rfl (Ee rfl (Ee rfl (Ee rfl (Ea (Ej rfl rfl) (Ea (Ef rfl) (Ed (Ec (Eb [2] rfl (Ep (Eg rfl rfl ?_)))))))))))
 rotate_left
 intro h4
 try rw [nnp] at h4
 try have h4' := Et h4
 refine Ee rfl (Ee rfl (Ee rfl (Ea (Em rfl rfl) (Ed (Ec (Eb [1, 26] rfl (Fi rfl (Eh (En (Ea (Ef rfl) (Ed ?_)))))))))))
 refine Ec (Eb [2] rfl (Ep (Eu (Eg rfl rfl ?_))))
 rotate_left
 all_goals
  clear hs; first | (unfold Mst.right; rw [all_no (by assumption : m.queue[i]? = some _) (by assumption)]; simp; done) | (have ha := all_end hi.2 (by omega); clear hi; simp_all [Mst.right, minL2]; done) | (have ha := all_end hi.2 (by omega); clear hi; simp_all [Mst.right, minL2] <;> omega)
theorem c_204 (m : Mst) (x : Conf) (hs : m.small) (hl : x.masters.length ≤ 1048576) : CV prg 204 [.agg m.r, .agg x.r] (fun res => res = .w (.bool (x.ok && m.right && decide (m.tries ≤ x.maxRetry)))) := by
 refine Fo g204 (Eb [0, 1] rfl (Eh (En (Ea (o_box rfl rfl rfl) (Ea (o_box rfl rfl rfl) (Ea (Ef rfl) (Ed (Ec (Eb [2, 3] rfl (Eh (En ?_)))))))))))
 refine Ea (Fm rfl rfl rfl) ?_
 first | refine Ez rfl rfl (c_184 _ (by assumption)) ?_ | refine Ew rfl rfl (by simp) (c_184 _ (by assumption)) rfl ?_
 refine Ea (Ef rfl) ?_
 first | refine Ff rfl ?_ ?_ | refine Ft rfl ?_ ?_ | refine s_gNT rfl ?_ ?_ | refine Fe rfl ?_ ?_
 intro h1
 try rw [nnp] at h1
 refine Ea (Fm rfl rfl rfl) (Ei rfl ?_)
 first | refine Ez rfl rfl (c_221 _ (by assumption)) ?_ | refine Ew rfl rfl (by simp) (c_221 _ (by assumption)) rfl ?_
 refine Ea (Em rfl rfl) (Ea (Ef rfl) ?_)
 first | refine Ff rfl ?_ ?_ | refine Ft rfl ?_ ?_ | refine s_gNT rfl ?_ ?_ | refine Fe rfl ?_ ?_
 intro h2
 try rw [nnp] at h2
 refine Ea (Ek rfl) (Ei rfl (Ea (Eo rfl rfl rfl) (Ei rfl (Ea (Ek rfl) (Ei rfl (Ea (Eo rfl rfl rfl) (Ei rfl (Ea (o_leq rfl rfl) (Ea (Em rfl rfl) (Ea (Ef rfl) (Ed ?_)))))))))))
 refine Ec (Eb [4] rfl (Ep (Eg rfl rfl ?_)))
 rotate_left
 intro h2
 try rw [nnp] at h2
 refine Ee rfl (Ee rfl (Ee rfl (Ee rfl (Ee rfl (Ea (Ej rfl rfl) (Ea (Ef rfl) (Ed (Ec (Eb [4] rfl (Ep (Eg rfl rfl ?_)))))))))))
 rotate_left
 intro h1
 try rw [nnp] at h1
 refine Ee rfl (Ee rfl (Ea (Ej rfl rfl) (Ea (Ef rfl) (Ee rfl (Ee rfl (Ee rfl (Ee rfl (Ee rfl (Ea (Ej rfl rfl) (Ea (Ef rfl) (Ed ?_)))))))))))
 refine Ec (Eb [4] rfl (Ep (Eg rfl rfl ?_)))
 rotate_left
 all_goals
  clear hs; simp_all
def okAt (c : Conf) (s : Script) (i : Nat) : Bool := match s.posts[i]? with
 | some p => inB p.moment 0 4000 && inB p.who 0 (c.masters.length - 1) && p.req.ok && (match i with
   | 0 => true
   | j + 1 => match s.posts[j]? with
     | some q => decide (q.moment ≤ p.moment)
     | none => true)
 | none => true
def Script.ok (s : Script) (c : Conf) : Bool := c.ok && decide (s.posts.length ≤ 20) && decide (s.waits.length ≤ 20) && decide (s.says.length ≤ 20) && (List.range s.posts.length).all (okAt c s)
def Wrr.hit (w : Wrr) (req : List Bool) (i : Nat) : Bool := (req[((w.pos + ((i : Int) + 1)).tmod req.length).toNat]?).getD false
def Wrr.pick (w : Wrr) (c : Conf) (req : List Bool) : Wrr × Int := if w.ok c && decide (req.length = c.masters.length) then
    (if decide (0 < w.credit) && (req[w.pos.toNat]?).getD false then (⟨w.pos, IntKind.wrap .i64 (w.credit - 1)⟩, w.pos)
     else match (List.range req.length).find? (w.hit req) with
      | some i => (⟨(w.pos + ((i : Int) + 1)).tmod req.length, IntKind.wrap .i64 (c.turn ((w.pos + ((i : Int) + 1)).tmod req.length) - 1)⟩, (w.pos + ((i : Int) + 1)).tmod req.length)
      | none => (⟨w.pos, 0⟩, -1))
 else (w, -1)
def cur (code : List Int) (i h : Int) : LB := .cell [.sl 1 (code.map uR), .w (.int .i64 i), .w (.int .i64 h)]
def Bucket.ok (b : Bucket) (m : MConf) : Bool := if m.prio then inB b.tokens 0 m.cap && decide (0 ≤ b.count) && decide (b.count < m.every) else decide (b.tokens = 0) && decide (b.count = 0)
def Bucket.take (b : Bucket) (m : MConf) : Bucket × Bool := if m.prio && b.ok m && decide (b.tokens ≠ 0) then (⟨b.tokens - 1, b.count⟩, true) else (b, false)
def Bucket.back (b : Bucket) (m : MConf) : Bucket := if m.prio && b.ok m && decide (b.tokens < m.cap) then ⟨b.tokens + 1, b.count⟩ else b
def MConf.most (m : MConf) (n : Int) : Int := if m.prio = true ∧ 1 ≤ m.every ∧ 0 ≤ m.cap ∧ inB n 0 4000 = true then m.cap + n.tdiv m.every + 1 else 0
theorem bk_n {b : Bucket} {m : MConf} (hp : m.prio = false) : b.ok m = (decide (b.tokens = 0) && decide (b.count = 0)) := by
 unfold Bucket.ok; rw [if_neg (by rw [hp]; decide)]
theorem c_26 (b : Bucket) (m : MConf) : CV prg 26 [.agg b.r, .agg m.r] (fun res => res = .w (.bool (b.ok m))) := by
 refine Fo g26 (Eb [0, 1] rfl (Eh (En (Ea (o_box rfl rfl rfl) (Ea (o_box rfl rfl rfl) (Ea (Ef rfl) (Ed (Ec (Eb [2, 3] rfl (Eh (Eh ?_)))))))))))
 refine En (Ea (Ek rfl) (Ea (Eo rfl rfl rfl) (Ea (Fg rfl) (Ed (Ec (Eb [2, 3, 7] rfl ?_))))))
 first | refine Ey rfl ?_ ?_ | refine Fp rfl ?_ ?_ | refine Fh rfl ?_ ?_ | refine Ev rfl ?_ ?_
 intro h1
 try rw [nnp] at h1
 refine Eh (En (Ea (Fm rfl rfl rfl) (Ea (o_bd rfl rfl) (Ea (o_eqs rfl rfl rfl rfl rfl) (Ea (Ef rfl) (Ed (Ec (Eb [4] rfl (Ep (Eu (Eg rfl rfl ?_)))))))))))
 rotate_left
 intro h1
 try rw [nnp] at h1
 refine Fa (Ec (Eb [2, 3] rfl (Eh (En (Ea (Ek rfl) (Ea (Eo rfl rfl rfl) (Ea (Ek rfl) (Ea (Eo rfl rfl rfl) ?_))))))))
 first | refine Ez rfl rfl (c_103 ..) ?_ | refine Ew rfl rfl (by simp) (c_103 ..) rfl ?_
 refine Ea (Ef rfl) ?_
 first | refine Ff rfl ?_ ?_ | refine Ft rfl ?_ ?_ | refine s_gNT rfl ?_ ?_ | refine Fe rfl ?_ ?_
 intro h2
 try rw [nnp] at h2
 refine Ea (Ek rfl) (Ei rfl (Ea (Eo rfl rfl rfl) (Ei rfl (Ea (o_geq rfl rfl) (Ea (Em rfl rfl) (Ea (Ef rfl) ?_))))))
 first | refine Ff rfl ?_ ?_ | refine Fe rfl ?_ ?_
 intro h3
 try rw [nnp] at h3
 refine Ea (Ek rfl) (Ei rfl (Ea (Eo rfl rfl rfl) (Ei rfl (Ea (Ek rfl) (Er (is := [21, 23, 24]) rfl (Ei rfl (Ea (Eo rfl rfl rfl) (Ei rfl (Ea (o_lss rfl rfl) (Ea (Em rfl rfl) (Ea (Ef rfl) ?_)))))))))))
 refine Ed (Ec (Eb [4] rfl (Ep (Eg rfl rfl ?_))))
 rotate_left
 intro h3
 try rw [nnp] at h3
 refine Ee rfl (Ee rfl (Ee rfl (Er (is := [21, 23, 24]) rfl (Ee rfl (Ee rfl (Ea (Ej rfl rfl) (Ea (Ef rfl) (Ed (Ec (Eb [4] rfl (Ep ?_)))))))))))
 refine Eg rfl rfl ?_
 rotate_left
 intro h2
 try rw [nnp] at h2
 refine Ee rfl (Ee rfl (Ee rfl (Ea (Ej rfl rfl) (Ea (Ef rfl) (Ee rfl (Ee rfl (Ee rfl (Er (is := [21, 23, 24]) rfl (Ee rfl (Ee rfl (Ea (Ej rfl rfl) ?_)))))))))))
 refine Ea (Ef rfl) (Ed (Ec (Eb [4] rfl (Ep (Eg rfl rfl ?_)))))
 rotate_left
 all_goals
  first | (rw [bk_n (by simp_all; done), Bool.eq_iff_iff]; simp; done) | (simp_all [Bucket.ok, inB]; done) | (simp_all [Bucket.ok, inB]; intros; omega) | (simp_all [Bucket.ok, inB]; try rw [Bool.eq_iff_iff]; simp; omega)
def flt {α : Type} (p : α → Bool) (xs : List α) (j : Nat) : List α := (xs.take j).filter (fun y => !p y)
def dlT {α : Type} (p : α → Bool) (xs : List α) (j : Nat) : List α := flt p xs j ++ xs.drop (flt p xs j).length
theorem flt_le {α : Type} (p : α → Bool) (xs : List α) (j : Nat) : (flt p xs j).length ≤ j ∧ (flt p xs j).length ≤ xs.length := by
 have h := List.length_filter_le (fun y => !p y) (xs.take j)
 rw [List.length_take] at h
 unfold flt
 omega
theorem dl_len {α : Type} (p : α → Bool) (xs : List α) (j : Nat) : (dlT p xs j).length = xs.length := by
 have := (flt_le p xs j).2
 simp [dlT]; omega
theorem dl_at {α : Type} (p : α → Bool) {xs : List α} {j : Nat} {y : α} (r : α → List V) (h : xs[j]? = some y) : ((dlT p xs j).map r)[j]? = some (r y) := by
 have := (flt_le p xs j).1
 rw [List.getElem?_map, dlT, List.getElem?_append_right this, List.getElem?_drop, show (flt p xs j).length + (j - (flt p xs j).length) = j by omega, h]
 rfl
theorem dl_at2 {α : Type} (p : α → Bool) {xs : List α} {j : Nat} {y : α} (r : α → List V) (h : xs[(flt p xs j).length]? = some y) : ((dlT p xs j).map r)[(flt p xs j).length]? = some (r y) := by
 rw [List.getElem?_map, dlT, List.getElem?_append_right (Nat.le_refl _), List.getElem?_drop, Nat.sub_self, Nat.add_zero, h]
 rfl
theorem flt_keep {α : Type} {p : α → Bool} {xs : List α} {j : Nat} {y : α} (h : xs[j]? = some y) (hp : p y = false) : flt p xs (j + 1) = flt p xs j ++ [y] := by
 unfold flt; rw [take_get h, List.filter_append]; simp [hp]
theorem flt_skip {α : Type} {p : α → Bool} {xs : List α} {j : Nat} {y : α} (h : xs[j]? = some y) (hp : p y = true) : flt p xs (j + 1) = flt p xs j := by
 unfold flt; rw [take_get h, List.filter_append]; simp [hp]
theorem dl_keep {α : Type} {p : α → Bool} {xs : List α} {j : Nat} {y : α} (r : α → List V) (h : xs[j]? = some y) (hp : p y = false) : ((dlT p xs j).map r).set (flt p xs j).length (r y) = (dlT p xs (j + 1)).map r := by
 have h1 := (flt_le p xs j).1
 have h2 := (List.getElem?_eq_some_iff.1 h).1
 rw [← List.map_set]
 congr 1
 unfold dlT
 rw [flt_keep h hp, List.set_append_right _ _ (Nat.le_refl _), Nat.sub_self, List.append_assoc, List.length_append, List.length_singleton]
 congr 1
 rw [List.drop_eq_getElem_cons (show (flt p xs j).length < xs.length by omega), List.set_cons_zero]
 rfl
theorem dl_skip {α : Type} {p : α → Bool} {xs : List α} {j : Nat} {y : α} (h : xs[j]? = some y) (hp : p y = true) : dlT p xs j = dlT p xs (j + 1) := by
 unfold dlT; rw [flt_skip h hp]
theorem flt_end {α : Type} (p : α → Bool) {xs : List α} {j : Nat} (h : xs.length ≤ j) : flt p xs j = xs.filter (fun y => !p y) := by
 unfold flt; rw [List.take_of_length_le h]
theorem idx_cases {α : Type} (p : α → Bool) (xs : List α) : (idxOf p xs = -1 ∧ xs.any p = false) ∨ ∃ i : Nat, idxOf p xs = i ∧ i < xs.length ∧ flt p xs (i + 1) = xs.take i := by
 cases e : xs.findIdx? p with
 | none =>
   left
   refine ⟨by simp [idxOf, e], ?_⟩
   rw [List.findIdx?_eq_none_iff] at e
   rw [List.any_eq_false]
   intro x hx; simp [e x hx]
 | some i =>
   right
   refine ⟨i, by simp [idxOf, e], ?_⟩
   rw [List.findIdx?_eq_some_iff_getElem] at e
   obtain ⟨h, h1, h2⟩ := e
   have h3 : xs[i]? = some xs[i] := List.getElem?_eq_getElem h
   refine ⟨h, ?_⟩
   rw [flt_skip h3 h1, flt, List.filter_eq_self]
   intro x hx
   rw [List.mem_take_iff_getElem] at hx
   obtain ⟨j, hj, rfl⟩ := hx
   have := h2 j (by omega)
   simpa using this
theorem dl_start {α : Type} {p : α → Bool} {xs : List α} {i : Nat} (hi : i < xs.length) (h : flt p xs (i + 1) = xs.take i) : dlT p xs (i + 1) = xs := by
 unfold dlT
 rw [h, List.length_take, Nat.min_eq_left (by omega), List.take_append_drop]
theorem dl_fin {α : Type} (p : α → Bool) {xs : List α} {j : Nat} (r : α → List V) (zs : List (List V)) : (((dlT p xs j).map r).take (flt p xs j).length ++ zs).take (flt p xs j).length = (flt p xs j).map r := by
 have h : ((dlT p xs j).map r).take (flt p xs j).length = (flt p xs j).map r := by
  rw [← List.map_take]; congr 1; unfold dlT; simp
 rw [h]
 have h2 : ((flt p xs j).map r).length = (flt p xs j).length := by simp
 rw [List.take_append_of_le_length (by omega), List.take_of_length_le (by omega)]
def byteB (v : Int) : Bool := inB v 0 255
def wordB (v : Int) : Bool := inB v 0 (limit 2 - 1)
def Dev.ok (d : Dev) : Bool := decide ((d.regs.length : Int) = 4) && decide ((d.fifo.length : Int) ≤ 4) && d.regs.all wordB && d.fifo.all wordB && wordB d.timer
def Model.ok (m : Model) : Bool := decide ((m.ram.length : Int) = 192) && m.ram.all byteB && m.dev.ok
def fitsB (xs : List Int) (a z : Int) : Bool := decide ((xs.length : Int) ≤ 512) && xs.all byteB && aligned a z && decide (a ≤ xs.length - bytes z)
theorem any_not {p : Int → Bool} (xs : List Int) : (!xs.any (fun v => !p v)) = xs.all p := by
 induction xs with
 | nil => rfl
 | cons m xs ih => simp only [List.any_cons, List.all_cons, Bool.not_or, Bool.not_not, ih]
theorem any_not' {p : Int → Bool} (xs : List Int) : xs.any (fun v => !p v) = !xs.all p := by rw [← any_not, Bool.not_not]
theorem fits0 {xs : List Int} (h : (xs.length : Int) = 192) : fitsB xs 0 0 = xs.all byteB := by
 have h1 : aligned 0 0 = true := by decide
 have h2 : bytes 0 = 1 := by decide
 unfold fitsB
 rw [h1, h2, h]
 simp
theorem c_87 (n : Int) : CV prg 87 [.w (.int .i64 n)] (fun res => res = .w (.bool (!byteB n))) := by
 refine Fo g87 (Eb [0] rfl (Eh (En (Ea (Ef rfl) (Ed (Ec (Eb [0] rfl (Eh (En (Ea (Ef rfl) (Ez rfl rfl (c_103 ..) ?_)))))))))))
 refine Ea (Fg rfl) (Ea (Ef rfl) (Ed (Ec (Eb [2] rfl (Ep (Eg rfl rfl ?_))))))
 rotate_left
 all_goals
  rfl
theorem c_41 (n : Int) : CV prg 41 [.w (.int .i64 n)] (fun res => res = .w (.bool (!wordB n))) := by
 refine Fo g41 (Eb [0] rfl (Eh (En (Ea (Ef rfl) (Ed (Ec (Eb [0] rfl (Eh (En (Ea (Ef rfl) (Ez rfl rfl (c_92 ..) ?_)))))))))))
 refine Ea (Fg rfl) (Ea (Ef rfl) (Ed (Ec (Eb [2] rfl (Ep (Eg rfl rfl ?_))))))
 rotate_left
 all_goals
  rfl
theorem c_86 (xs : List Int) (a z : Int) (hl : xs.length ≤ 1048576) : CV prg 86 [.sl 1 (xs.map iR), .w (.int .i64 a), .w (.int .i64 z)] (fun res => res = .w (.bool (fitsB xs a z))) := by
 have hz := bytes_z (x := z)
 refine Fo g86 (Eb [0, 1, 2] rfl (Eh (En (Ea (Ef rfl) (Ed (Ec (Eb [0, 1, 2] rfl (Eh (En (Ea (Ef rfl) ?_))))))))))
 first | refine Ea (Fk rfl) ?_ | refine Ea (Fu rfl) ?_
 refine Ea (o_leq rfl rfl) (Ea (Ef rfl) ?_)
 first | refine Ff rfl ?_ ?_ | refine Fe rfl ?_ ?_
 intro h1
 try rw [nnp] at h1
 refine Ea (Ef rfl) (Ei rfl (Ez rfl rfl (c_257 _ (by omega) _ _ rfl (fun v => !byteB v) (fun y _ => c_87 y)) (Ei rfl (Ea (Fg rfl) (Ea (Em rfl rfl) (Ea (Ef rfl) ?_))))))
 first | refine Ff rfl ?_ ?_ | refine Ft rfl ?_ ?_ | refine s_gNT rfl ?_ ?_ | refine Fe rfl ?_ ?_
 intro h2
 try rw [nnp] at h2
 refine Ea (Ef rfl) (Ei rfl (Ea (Ef rfl) (Ei rfl (Ez rfl rfl (c_21 ..) (Ea (Em rfl rfl) (Ea (Ef rfl) (Er (is := [0, 1, 2, 20]) rfl ?_)))))))
 first | refine Ff rfl ?_ ?_ | refine Ft rfl ?_ ?_ | refine s_gNT rfl ?_ ?_ | refine Fe rfl ?_ ?_
 intro h3
 try rw [nnp] at h3
 refine Ea (Ef rfl) (Ei rfl (Ea (Ef rfl) (Ei rfl ?_)))
 first | refine Ea (Fk rfl) ?_ | refine Ea (Fu rfl) ?_
 refine Ei rfl (Ea (Ef rfl) (Ei rfl (Ez rfl rfl (c_33 ..) (Ei rfl ?_))))
 first | refine Ea (o_subn rfl rfl (by omega)) ?_ | refine Ea (o_sub rfl rfl) ?_
 refine Ei rfl (Ea (o_leq rfl rfl) (Ea (Em rfl rfl) (Ea (Ef rfl) (Ed (Ec (Eb [6] rfl (Ep (Eg rfl rfl ?_))))))))
 rotate_left
 intro h3
 try rw [nnp] at h3
 iterate 7 refine Ee rfl ?_
 refine Ea (Ej rfl rfl) (Ea (Ef rfl) (Ed (Ec (Eb [6] rfl (Ep (Eg rfl rfl ?_))))))
 rotate_left
 intro h2
 try rw [nnp] at h2
 refine Ee rfl (Ee rfl (Ee rfl (Ea (Ej rfl rfl) (Ea (Ef rfl) (Er (is := [0, 1, 2, 20]) rfl ?_)))))
 iterate 7 refine Ee rfl ?_
 refine Ea (Ej rfl rfl) (Ea (Ef rfl) (Ed (Ec (Eb [6] rfl (Ep (Eg rfl rfl ?_))))))
 rotate_left
 intro h1
 try rw [nnp] at h1
 refine Ee rfl (Ee rfl (Ee rfl (Ea (Ej rfl rfl) (Ea (Ef rfl) (Ee rfl (Ee rfl (Ee rfl (Ea (Ej rfl rfl) (Ea (Ef rfl) (Er (is := [0, 1, 2, 20]) rfl ?_))))))))))
 iterate 7 refine Ee rfl ?_
 refine Ea (Ej rfl rfl) (Ea (Ef rfl) (Ed (Ec (Eb [6] rfl (Ep (Eg rfl rfl ?_))))))
 rotate_left
 all_goals
  (try simp only [any_not'] at *); unfold fitsB; generalize xs.all byteB = p at *; generalize (xs.length : Int) = n1 at *; first | (simp_all; done) | (simp_all; intros; omega) | (simp_all; omega)
theorem c_238 (xs : List Int) (hl : xs.length ≤ 1048576) : CV prg 238 [.sl 1 (xs.map iR)] (fun res => res = .w (.bool (xs.all byteB && decide ((xs.length : Int) ≤ 512)))) := by
 have hz := limit_bd 2
 refine Fo g238 (Eb [0] rfl (Eh (En (Ea (Ef rfl) (Ed (Ec (Eb [0] rfl (Eh (Eh (En (Ea (Ef rfl) ?_)))))))))))
 refine Ed (Ec (Eb [0, 3] rfl (Fj (S_loop0 (ι := Nat) (fun i => i ≤ xs.length ∧ (xs.take i).all byteB = true) (fun i => [(3, .w (.int .i64 (i : Int)))]) (fun i => xs.length - i) 0 (by simp) rfl ⟨rfl, trivial⟩ (fun _ _ => rfl) rfl ?_))))
 intro i hi
 refine Eb [0, 3] rfl (Eh (Eh (En (Ea (Ef rfl) (Ea (Ef rfl) ?_)))))
 first | refine Ea (Fk rfl) ?_ | refine Ea (Fu rfl) ?_
 refine Ea (o_lss rfl rfl) (Ed (Ec (Eb [0, 3, 7] rfl ?_)))
 first | refine Ey rfl ?_ ?_ | refine Ev rfl ?_ ?_
 intro h1
 try rw [nnp] at h1
 refine Fa (Ec (Eb [0, 3] rfl (Eh (Fj (Eh (En (Ea (Ef rfl) (Ea (Ef rfl) (s_iaM rfl rfl (by omega) ?_)))))))))
 intro y2 e2
 try simp only [Int.toNat_natCast, Int.toNat_zero] at e2
 refine Ea (o_ld rfl rfl) ?_
 first | refine Ez rfl rfl (Fy ..) ?_ | refine Ew rfl rfl (by simp) (Fy ..) rfl ?_
 refine Ea (Fg rfl) (Ed (Ec (Eb [0, 3, 15] rfl ?_)))
 first | refine Ey rfl ?_ ?_ | refine Fp rfl ?_ ?_ | refine Fh rfl ?_ ?_ | refine Ev rfl ?_ ?_
 intro h3
 try rw [nnp] at h3
 refine Eh (En (Ea (Ef rfl) (Ed (Ec (Eb [2] rfl (Ep (Fd (Eu (Fw (Fd (Eu ?_)))))))))))
 refine Eg rfl rfl ?_
 rotate_left
 intro h3
 try rw [nnp] at h3
 refine Fa (q_blkN (Ec (Eb [0, 3] rfl (En (Ea (Ef rfl) ?_)))))
 first | refine Ea (Fs rfl rfl (by omega)) ?_ | refine Ea (o_add rfl rfl) ?_
 refine Ea (Ef rfl) (Ed (q_loopN ?_))
 · exact ⟨i + 1, ⟨by omega, all_take (by assumption) hi.2 (by assumption)⟩, by omega, hasOf ⟨rfl, trivial⟩ rfl⟩
 intro h1
 try rw [nnp] at h1
 refine s_exit (q_seqX (q_loopX (q_blkH (Ec (Eb [0] rfl (Eh (En (Ea (Ef rfl) ?_))))))))
 first | refine Ea (Fk rfl) ?_ | refine Ea (Fu rfl) ?_
 refine Ea (o_leq rfl rfl) (Ea (Ef rfl) (Ed (Ec (Eb [2] rfl (Ep (Eg rfl rfl ?_))))))
 rotate_left
 all_goals
  first | (rw [all_no (p := byteB) (by assumption) (by assumption)]; done) | (rw [all_no (p := byteB) (by assumption) (by assumption)]; rfl) | (rw [all_end hi.2 (by omega)]; done) | (rw [all_end hi.2 (by omega)]; simp)
theorem c_250 (xs : List Int) (hl : xs.length ≤ 1048576) : CV prg 250 [.sl 1 (xs.map iR)] (fun res => res = .w (.bool (xs.all wordB))) := by
 have hz := limit_bd 2
 refine Fo g250 (Eb [0] rfl (Eh (En (Ea (Ef rfl) (Ed (Ec (Eb [0] rfl (Eh (Eh (En (Ea (Ef rfl) ?_)))))))))))
 refine Ed (Ec (Eb [0, 3] rfl (Fj (S_loop0 (ι := Nat) (fun i => i ≤ xs.length ∧ (xs.take i).all wordB = true) (fun i => [(3, .w (.int .i64 (i : Int)))]) (fun i => xs.length - i) 0 (by simp) rfl ⟨rfl, trivial⟩ (fun _ _ => rfl) rfl ?_))))
 intro i hi
 refine Eb [0, 3] rfl (Eh (Eh (En (Ea (Ef rfl) (Ea (Ef rfl) ?_)))))
 first | refine Ea (Fk rfl) ?_ | refine Ea (Fu rfl) ?_
 refine Ea (o_lss rfl rfl) (Ed (Ec (Eb [0, 3, 7] rfl ?_)))
 first | refine Ey rfl ?_ ?_ | refine Ev rfl ?_ ?_
 intro h1
 try rw [nnp] at h1
 refine Fa (Ec (Eb [0, 3] rfl (Eh (Fj (Eh (En (Ea (Ef rfl) (Ea (Ef rfl) (s_iaM rfl rfl (by omega) ?_)))))))))
 intro y2 e2
 try simp only [Int.toNat_natCast, Int.toNat_zero] at e2
 refine Ea (o_ld rfl rfl) (Ez rfl rfl (c_201 ..) ?_)
 first | refine Ea (o_subn rfl rfl (by omega)) ?_ | refine Ea (o_sub rfl rfl) ?_
 first | refine Ez rfl rfl (Fy ..) ?_ | refine Ew rfl rfl (by simp) (Fy ..) rfl ?_
 refine Ea (Fg rfl) (Ed (Ec (Eb [0, 3, 17] rfl ?_)))
 first | refine Ey rfl ?_ ?_ | refine Fp rfl ?_ ?_ | refine Fh rfl ?_ ?_ | refine Ev rfl ?_ ?_
 intro h3
 try rw [nnp] at h3
 refine Eh (En (Ea (Ef rfl) (Ed (Ec (Eb [2] rfl (Ep (Fd (Eu (Fw (Fd (Eu ?_)))))))))))
 refine Eg rfl rfl ?_
 rotate_left
 intro h3
 try rw [nnp] at h3
 refine Fa (q_blkN (Ec (Eb [0, 3] rfl (En (Ea (Ef rfl) ?_)))))
 first | refine Ea (Fs rfl rfl (by omega)) ?_ | refine Ea (o_add rfl rfl) ?_
 refine Ea (Ef rfl) (Ed (q_loopN ?_))
 · exact ⟨i + 1, ⟨by omega, all_take (by assumption) hi.2 (by assumption)⟩, by omega, hasOf ⟨rfl, trivial⟩ rfl⟩
 intro h1
 try rw [nnp] at h1
 refine s_exit (q_seqX (q_loopX (q_blkH (Ec (Eb [] rfl (Eh (En (Ea (Ef rfl) (Ed (Ec (Eb [2] rfl ?_)))))))))))
 refine Ep (Eg rfl rfl ?_)
 rotate_left
 all_goals
  first | (rw [all_no (p := wordB) (by assumption) (by assumption)]; done) | (rw [all_no (p := wordB) (by assumption) (by assumption)]; rfl) | (rw [all_end hi.2 (by omega)]; done) | (rw [all_end hi.2 (by omega)]; simp)
theorem c_40 (d : Dev) (hs : d.small) : CV prg 40 [.agg d.r] (fun res => res = .w (.bool d.ok)) := by
 have h1 := hs.1
 have h2 := hs.2
 refine Fo g40 (Eb [0] rfl (Eh (En (Ea (o_box rfl rfl rfl) (Ea (Ef rfl) (Ed (Ec (Eb [1] rfl (Eh (En (Ea (Ef rfl) ?_)))))))))))
 refine Ed (Ec (Eb [1, 3] rfl (Eh (En (Ea (Ek rfl) (Ea (Eo rfl rfl rfl) ?_))))))
 first | refine Ea (Fk rfl) ?_ | refine Ea (Fu rfl) ?_ | refine Ea (o_lenL rfl rfl rfl) ?_ | refine Ea (o_lenN rfl) ?_
 refine Ea (Fv rfl rfl) (Ea (Ef rfl) ?_)
 first | refine Ff rfl ?_ ?_ | refine Fe rfl ?_ ?_
 intro h1
 try rw [nnp] at h1
 refine Ea (Ek rfl) (Ei rfl (Ea (Eo rfl rfl rfl) (Ei rfl ?_)))
 first | refine Ea (Fk rfl) ?_ | refine Ea (Fu rfl) ?_ | refine Ea (o_lenL rfl rfl rfl) ?_ | refine Ea (o_lenN rfl) ?_
 refine Ei rfl (Ea (o_leq rfl rfl) (Ea (Em rfl rfl) (Ea (Ef rfl) ?_)))
 first | refine Ff rfl ?_ ?_ | refine Fe rfl ?_ ?_
 intro h2
 try rw [nnp] at h2
 refine Ea (Ek rfl) (Ei rfl (Ea (Eo rfl rfl rfl) (Ei rfl (Ea (Ef rfl) (Er (is := [1, 3, 14, 16, 17]) rfl (Ei rfl (Ez rfl rfl (c_257 _ (by omega) _ _ rfl (fun v => !wordB v) (fun y _ => c_41 y)) (Ei rfl (Ea (Fg rfl) (Ea (Em rfl rfl) (Ea (Ef rfl) ?_)))))))))))
 first | refine Ff rfl ?_ ?_ | refine Ft rfl ?_ ?_ | refine s_gNT rfl ?_ ?_ | refine Fe rfl ?_ ?_
 intro h3
 try rw [nnp] at h3
 refine Ea (Ek rfl) (Ei rfl (Ea (Eo rfl rfl rfl) (Ei rfl (Ea (Ef rfl) (Ei rfl (Ez rfl rfl (c_257 _ (by omega) _ _ rfl (fun v => !wordB v) (fun y _ => c_41 y)) (Ei rfl (Ea (Fg rfl) (Ea (Em rfl rfl) (Ea (Ef rfl) ?_))))))))))
 first | refine Ff rfl ?_ ?_ | refine Ft rfl ?_ ?_ | refine s_gNT rfl ?_ ?_ | refine Fe rfl ?_ ?_
 intro h4
 try rw [nnp] at h4
 refine Ea (Ek rfl) (Ei rfl (Ea (Eo rfl rfl rfl) (Ei rfl ?_)))
 first | refine Ez rfl rfl (c_92 ..) ?_ | refine Ew rfl rfl (by simp) (c_92 ..) rfl ?_
 refine Er (is := [28, 31]) rfl (Ea (Em rfl rfl) (Ea (Ef rfl) (Ed (Ec (Eb [2] rfl (Ep (Eg rfl rfl ?_)))))))
 rotate_left
 intro h4
 try rw [nnp] at h4
 refine Ee rfl (Ee rfl (Ee rfl (Er (is := [28, 31]) rfl (Ea (Ej rfl rfl) (Ea (Ef rfl) (Ed (Ec (Eb [2] rfl (Ep (Eg rfl rfl ?_))))))))))
 rotate_left
 intro h3
 try rw [nnp] at h3
 refine Ee rfl (Ee rfl (Ee rfl (Ee rfl (Ee rfl (Ea (Ej rfl rfl) (Ea (Ef rfl) (Ee rfl (Ee rfl (Ee rfl (Er (is := [28, 31]) rfl (Ea (Ej rfl rfl) ?_)))))))))))
 refine Ea (Ef rfl) (Ed (Ec (Eb [2] rfl (Ep (Eg rfl rfl ?_)))))
 rotate_left
 intro h2
 try rw [nnp] at h2
 refine Ee rfl (Ee rfl (Ee rfl (Er (is := [1, 3, 14, 16, 17]) rfl (Ee rfl (Ee rfl (Ea (Ej rfl rfl) (Ea (Ef rfl) (Ee rfl (Ee rfl (Ee rfl (Ee rfl ?_)))))))))))
 refine Ee rfl (Ea (Ej rfl rfl) (Ea (Ef rfl) (Ee rfl (Ee rfl (Ee rfl (Er (is := [28, 31]) rfl (Ea (Ej rfl rfl) (Ea (Ef rfl) (Ed (Ec (Eb [2] rfl ?_)))))))))))
 refine Ep (Eg rfl rfl ?_)
 rotate_left
 intro h1
 try rw [nnp] at h1
 refine Ee rfl (Ee rfl (Ee rfl (Ee rfl (Ea (Ej rfl rfl) (Ea (Ef rfl) (Ee rfl (Ee rfl (Ee rfl (Er (is := [1, 3, 14, 16, 17]) rfl (Ee rfl (Ee rfl ?_)))))))))))
 refine Ea (Ej rfl rfl) (Ea (Ef rfl) (Ee rfl (Ee rfl (Ee rfl (Ee rfl (Ee rfl (Ea (Ej rfl rfl) (Ea (Ef rfl) (Ee rfl (Ee rfl (Ee rfl ?_)))))))))))
 refine Er (is := [28, 31]) rfl (Ea (Ej rfl rfl) (Ea (Ef rfl) (Ed (Ec (Eb [2] rfl (Ep (Eg rfl rfl ?_)))))))
 rotate_left
 all_goals
  clear hs; (try simp only [any_not'] at *); (try rw [show inB d.timer 0 (limit 2 - 1) = wordB d.timer from rfl] at *); unfold Dev.ok; generalize d.regs.all wordB = p at *; generalize d.fifo.all wordB = q at *; generalize wordB d.timer = w at *; generalize (d.regs.length : Int) = n1 at *; generalize (d.fifo.length : Int) = n2 at *; first | (simp_all; done) | (simp_all; intros; omega) | (simp_all; omega)
theorem c_189 (d : Dev) (hs : d.small) : CV prg 189 [.agg d.r] (fun res => res = .w (.bool d.ok)) := by
 have h1 := hs.1
 have h2 := hs.2
 have hz := limit_bd 2
 refine Fo g189 (Eb [0] rfl (Eh (En (Ea (o_box rfl rfl rfl) (Ea (Ef rfl) (Ed (Ec (Eb [1] rfl (Eh (En (Ea (Ek rfl) ?_)))))))))))
 refine Ea (Eo rfl rfl rfl) ?_
 first | refine Ea (Fk rfl) ?_ | refine Ea (Fu rfl) ?_ | refine Ea (o_lenL rfl rfl rfl) ?_ | refine Ea (o_lenN rfl) ?_
 refine Ea (Fv rfl rfl) (Ea (Ef rfl) ?_)
 first | refine Ff rfl ?_ ?_ | refine Fe rfl ?_ ?_
 intro h1
 try rw [nnp] at h1
 refine Ea (Ek rfl) (Ei rfl (Ea (Eo rfl rfl rfl) (Ei rfl ?_)))
 first | refine Ez rfl rfl (c_250 _ (by omega)) ?_ | refine Ew rfl rfl (by simp) (c_250 _ (by omega)) rfl ?_
 refine Ea (Em rfl rfl) (Ea (Ef rfl) ?_)
 first | refine Ff rfl ?_ ?_ | refine Ft rfl ?_ ?_ | refine s_gNT rfl ?_ ?_ | refine Fe rfl ?_ ?_
 intro h2
 try rw [nnp] at h2
 refine Ea (Ek rfl) (Ei rfl (Ea (Eo rfl rfl rfl) (Ei rfl (Ez rfl rfl (c_201 ..) (Ei rfl ?_)))))
 first | refine Ea (o_subn rfl rfl (by omega)) ?_ | refine Ea (o_sub rfl rfl) ?_
 refine Er (is := [1, 12, 14, 16]) rfl (Ei rfl ?_)
 first | refine Ez rfl rfl (Fy ..) ?_ | refine Ew rfl rfl (by simp) (Fy ..) rfl ?_
 refine Ea (Em rfl rfl) (Ea (Ef rfl) ?_)
 first | refine Ff rfl ?_ ?_ | refine Ft rfl ?_ ?_ | refine s_gNT rfl ?_ ?_ | refine Fe rfl ?_ ?_
 intro h3
 try rw [nnp] at h3
 refine Ea (Ek rfl) (Ei rfl (Ea (Eo rfl rfl rfl) (Ei rfl ?_)))
 first | refine Ea (Fk rfl) ?_ | refine Ea (Fu rfl) ?_ | refine Ea (o_lenL rfl rfl rfl) ?_ | refine Ea (o_lenN rfl) ?_
 refine Ei rfl (Ea (o_leq rfl rfl) (Ea (Em rfl rfl) (Ea (Ef rfl) ?_)))
 first | refine Ff rfl ?_ ?_ | refine Fe rfl ?_ ?_
 intro h4
 try rw [nnp] at h4
 refine Ea (Ek rfl) (Ei rfl (Ea (Eo rfl rfl rfl) (Ei rfl ?_)))
 first | refine Ez rfl rfl (c_250 _ (by omega)) ?_ | refine Ew rfl rfl (by simp) (c_250 _ (by omega)) rfl ?_
 refine Ea (Em rfl rfl) (Ea (Ef rfl) (Ed (Ec (Eb [2] rfl (Ep (Eg rfl rfl ?_))))))
 rotate_left
 intro h4
 try rw [nnp] at h4
 refine Ee rfl (Ee rfl (Ee rfl (Ea (Ej rfl rfl) (Ea (Ef rfl) (Ed (Ec (Eb [2] rfl (Ep (Eg rfl rfl ?_)))))))))
 rotate_left
 intro h3
 try rw [nnp] at h3
 refine Ee rfl (Ee rfl (Ee rfl (Ee rfl (Ea (Ej rfl rfl) (Ea (Ef rfl) (Ee rfl (Ee rfl (Ee rfl (Ea (Ej rfl rfl) (Ea (Ef rfl) (Ed ?_)))))))))))
 refine Ec (Eb [2] rfl (Ep (Eg rfl rfl ?_)))
 rotate_left
 intro h2
 try rw [nnp] at h2
 refine Ee rfl (Ee rfl (Ee rfl (Ee rfl (Er (is := [1, 12, 14, 16]) rfl (Ee rfl (Ea (Ej rfl rfl) (Ea (Ef rfl) (Ee rfl (Ee rfl (Ee rfl (Ee rfl ?_)))))))))))
 refine Ea (Ej rfl rfl) (Ea (Ef rfl) (Ee rfl (Ee rfl (Ee rfl (Ea (Ej rfl rfl) (Ea (Ef rfl) (Ed (Ec (Eb [2] rfl (Ep (Eg rfl rfl ?_)))))))))))
 rotate_left
 intro h1
 try rw [nnp] at h1
 refine Ee rfl (Ee rfl (Ee rfl (Ea (Ej rfl rfl) (Ea (Ef rfl) (Ee rfl (Ee rfl (Ee rfl (Ee rfl (Er (is := [1, 12, 14, 16]) rfl (Ee rfl (Ea (Ej rfl rfl) ?_)))))))))))
 refine Ea (Ef rfl) (Ee rfl (Ee rfl (Ee rfl (Ee rfl (Ea (Ej rfl rfl) (Ea (Ef rfl) (Ee rfl (Ee rfl (Ee rfl (Ea (Ej rfl rfl) (Ea (Ef rfl) ?_)))))))))))
 refine Ed (Ec (Eb [2] rfl (Ep (Eg rfl rfl ?_))))
 rotate_left
 all_goals
  clear hs; (try simp only [any_not'] at *); (try rw [show inB d.timer 0 (limit 2 - 1) = wordB d.timer from rfl] at *); unfold Dev.ok; generalize d.regs.all wordB = p at *; generalize d.fifo.all wordB = q at *; generalize wordB d.timer = w at *; generalize (d.regs.length : Int) = n1 at *; generalize (d.fifo.length : Int) = n2 at *; first | (simp_all; done) | (simp_all; intros; omega) | (simp_all; omega)
theorem c_53 (m : Model) (hs : m.small) : CV prg 53 [.agg m.r] (fun res => res = .w (.bool m.ok)) := by
 have h1 := hs.1
 have h2 := hs.2
 refine Fo g53 (Eb [0] rfl (Eh (En (Ea (o_box rfl rfl rfl) (Ea (Ef rfl) (Ed (Ec (Eb [1] rfl (Eh (En (Ea (Ek rfl) ?_)))))))))))
 refine Ea (Eo rfl rfl rfl) ?_
 first | refine Ea (Fk rfl) ?_ | refine Ea (Fu rfl) ?_ | refine Ea (o_lenL rfl rfl rfl) ?_ | refine Ea (o_lenN rfl) ?_
 refine Ea (Fv rfl rfl) (Ea (Ef rfl) ?_)
 first | refine Ff rfl ?_ ?_ | refine Fe rfl ?_ ?_
 intro h1
 try rw [nnp] at h1
 refine Ea (Ek rfl) (Ei rfl (Ea (Eo rfl rfl rfl) (Ei rfl ?_)))
 first | refine Ez rfl rfl (c_86 _ _ _ (by omega)) ?_ | refine Ew rfl rfl (by simp) (c_86 _ _ _ (by omega)) rfl ?_
 refine Ea (Em rfl rfl) (Ea (Ef rfl) ?_)
 first | refine Ff rfl ?_ ?_ | refine Ft rfl ?_ ?_ | refine s_gNT rfl ?_ ?_ | refine Fe rfl ?_ ?_
 intro h2
 try rw [nnp] at h2
 refine Ea (Ek rfl) (Ei rfl (Ea (Fm rfl rfl rfl) (Ei rfl ?_)))
 first | refine Ez rfl rfl (c_40 m.dev hs.2) ?_ | refine Ew rfl rfl (by simp) (c_40 m.dev hs.2) rfl ?_
 refine Ea (Em rfl rfl) (Ea (Ef rfl) (Ed (Ec (Eb [2] rfl (Ep (Eg rfl rfl ?_))))))
 rotate_left
 intro h2
 try rw [nnp] at h2
 refine Ee rfl (Ee rfl (Ee rfl (Ea (Ej rfl rfl) (Ea (Ef rfl) (Ed (Ec (Eb [2] rfl (Ep (Eg rfl rfl ?_)))))))))
 rotate_left
 intro h1
 try rw [nnp] at h1
 refine Ee rfl (Ee rfl (Ee rfl (Ea (Ej rfl rfl) (Ea (Ef rfl) (Ee rfl (Ee rfl (Ee rfl (Ea (Ej rfl rfl) (Ea (Ef rfl) (Ed (Ec ?_)))))))))))
 refine Eb [2] rfl (Ep (Eg rfl rfl ?_))
 rotate_left
 all_goals
  clear hs; unfold Model.ok; first | (simp only [fits0 (by assumption)] at *; generalize m.ram.all byteB = p at *; simp_all; done) | (generalize m.ram.all byteB = p at *; simp_all; done) | (generalize m.ram.all byteB = p at *; simp_all; omega)
theorem c_203 (m : Model) (hs : m.small) : CV prg 203 [.agg m.r] (fun res => res = .w (.bool m.ok)) := by
 have h1 := hs.1
 have h2 := hs.2
 refine Fo g203 (Eb [0] rfl (Eh (En (Ea (o_box rfl rfl rfl) (Ea (Ef rfl) (Ed (Ec (Eb [1] rfl (Eh (En (Ea (Ek rfl) ?_)))))))))))
 refine Ea (Eo rfl rfl rfl) ?_
 first | refine Ea (Fk rfl) ?_ | refine Ea (Fu rfl) ?_ | refine Ea (o_lenL rfl rfl rfl) ?_ | refine Ea (o_lenN rfl) ?_
 refine Ea (Fv rfl rfl) (Ea (Ef rfl) ?_)
 first | refine Ff rfl ?_ ?_ | refine Fe rfl ?_ ?_
 intro h1
 try rw [nnp] at h1
 refine Ea (Ek rfl) (Ei rfl (Ea (Eo rfl rfl rfl) (Ei rfl ?_)))
 first | refine Ez rfl rfl (c_238 _ (by omega)) ?_ | refine Ew rfl rfl (by simp) (c_238 _ (by omega)) rfl ?_
 refine Ea (Em rfl rfl) (Ea (Ef rfl) ?_)
 first | refine Ff rfl ?_ ?_ | refine Ft rfl ?_ ?_ | refine s_gNT rfl ?_ ?_ | refine Fe rfl ?_ ?_
 intro h2
 try rw [nnp] at h2
 refine Ea (Ek rfl) (Ei rfl (Ea (Fm rfl rfl rfl) (Ei rfl ?_)))
 first | refine Ez rfl rfl (c_189 m.dev hs.2) ?_ | refine Ew rfl rfl (by simp) (c_189 m.dev hs.2) rfl ?_
 refine Ea (Em rfl rfl) (Ea (Ef rfl) (Ed (Ec (Eb [2] rfl (Ep (Eg rfl rfl ?_))))))
 rotate_left
 intro h2
 try rw [nnp] at h2
 refine Ee rfl (Ee rfl (Ee rfl (Ea (Ej rfl rfl) (Ea (Ef rfl) (Ed (Ec (Eb [2] rfl (Ep (Eg rfl rfl ?_)))))))))
 rotate_left
 intro h1
 try rw [nnp] at h1
 refine Ee rfl (Ee rfl (Ee rfl (Ea (Ej rfl rfl) (Ea (Ef rfl) (Ee rfl (Ee rfl (Ee rfl (Ea (Ej rfl rfl) (Ea (Ef rfl) (Ed (Ec ?_)))))))))))
 refine Eb [2] rfl (Ep (Eg rfl rfl ?_))
 rotate_left
 all_goals
  clear hs; unfold Model.ok; first | (simp only [fits0 (by assumption)] at *; generalize m.ram.all byteB = p at *; simp_all; done) | (generalize m.ram.all byteB = p at *; simp_all; done) | (generalize m.ram.all byteB = p at *; simp_all; omega)
theorem rall_succ {p : Nat → Bool} {i : Nat} (h : (List.range i).all p = true) (h2 : p i = true) : (List.range (i + 1)).all p = true := by
 rw [List.range_succ, List.all_append, h]; simp [h2]
theorem rall_no {p : Nat → Bool} {i n : Nat} (hi : i < n) (h : p i = false) : (List.range n).all p = false := by
 rw [List.all_eq_false]; exact ⟨i, List.mem_range.2 hi, by simp [h]⟩
theorem rall_end {p : Nat → Bool} {i n : Nat} (h : (List.range i).all p = true) (h1 : i ≤ n) (h2 : n ≤ i) : (List.range n).all p = true := by
 rwa [show i = n by omega] at h
def Mst.locks (m : Mst) : Bool := match m.queue[0]? with | some r => r.lock && !m.broken | none => false
theorem Mst.locks_at {m : Mst} {r : Req} (h : m.queue[0]? = some r) : m.locks = (r.lock && !m.broken) := by unfold Mst.locks; rw [h]
theorem Mst.locks_nil {m : Mst} (h : m.queue.length = 0) : m.locks = false := by unfold Mst.locks; rw [List.getElem?_eq_none (by omega)]
def mAt (b : Bus) (k : Int) : Mst := (b.ms[k.toNat]?).getD ⟨[], 0, 0, 0, false, false⟩
def sAt (b : Bus) (k : Int) : Int := (b.splits[k.toNat]?).getD 0
theorem mAt_of {b : Bus} {k : Int} {m : Mst} (h : b.ms[k.toNat]? = some m) : mAt b k = m := by unfold mAt; rw [h]; rfl
theorem sAt_of {b : Bus} {k : Int} {s : Int} (h : b.splits[k.toNat]? = some s) : sAt b k = s := by unfold sAt; rw [h]; rfl
def heldAt (b : Bus) (i : Nat) : Bool := !(decide (0 < (mAt b i).beat) && (mAt b i).locks && decide (b.holder ≠ i))
def heldE (b : Bus) : Bool := if b.holder = -1 then decide (b.kept = 0) else inB b.holder 0 (b.ms.length - 1) && (mAt b b.holder).locks && decide (sAt b b.holder = 0) && inB b.kept 0 b.conf.lockMost
def heldB (b : Bus) : Bool := (List.range b.ms.length).all (heldAt b) && heldE b
structure Bus.even (b : Bus) : Prop where
 ms : b.ms.length = b.conf.masters.length
 buckets : b.buckets.length = b.conf.masters.length
 splits : b.splits.length = b.conf.masters.length
theorem c_93 (m : Mst) : CV prg 93 [.agg m.r] (fun res => res = .w (.bool m.locks)) := by
 refine Fo g93 (Eb [0] rfl (Eh (En (Ea (o_box rfl rfl rfl) (Ea (Ef rfl) (Ed (Ec (Eb [1] rfl (Eh (En (Ea (Ek rfl) ?_)))))))))))
 refine Ea (Eo rfl rfl rfl) ?_
 first | refine Ea (Fk rfl) ?_ | refine Ea (Fu rfl) ?_ | refine Ea (o_lenL rfl rfl rfl) ?_ | refine Ea (o_lenN rfl) ?_
 refine Ea (o_gtr rfl rfl) (Ea (Ef rfl) ?_)
 first | refine Ff rfl ?_ ?_ | refine Fe rfl ?_ ?_
 intro h1
 try rw [nnp] at h1
 refine Ea (Ek rfl) (Ei rfl (Ea (Eo rfl rfl rfl) (Ei rfl (s_iaM rfl rfl (by omega) ?_))))
 intro y2 e2
 simp only [Int.toNat_zero] at e2; have e2l := Mst.locks_at e2
 refine Ei rfl (Ea (o_fa rfl) (Ei rfl (Ea (o_ld rfl rfl) (Ea (Em rfl rfl) (Ea (Ef rfl) ?_)))))
 first | refine Ff rfl ?_ ?_ | refine Ft rfl ?_ ?_ | refine s_gNT rfl ?_ ?_ | refine Fe rfl ?_ ?_
 intro h3
 try rw [nnp] at h3
 refine Ea (Ek rfl) (Ei rfl (Ea (Eo rfl rfl rfl) (Er (is := [14, 16]) rfl (Ei rfl (Ea (Fg rfl) (Ea (Em rfl rfl) (Ea (Ef rfl) (Ed (Ec (Eb [2] rfl (Ep ?_)))))))))))
 refine Eg rfl rfl ?_
 rotate_left
 intro h3
 try rw [nnp] at h3
 refine Ee rfl (Ee rfl (Er (is := [14, 16]) rfl (Ee rfl (Ea (Ej rfl rfl) (Ea (Ef rfl) (Ed (Ec (Eb [2] rfl (Ep (Eg rfl rfl ?_))))))))))
 rotate_left
 intro h1
 try rw [nnp] at h1
 refine Ee rfl (Ee rfl (Ee rfl (Ee rfl (Ee rfl (Ea (Ej rfl rfl) (Ea (Ef rfl) (Ee rfl (Ee rfl (Er (is := [14, 16]) rfl (Ee rfl (Ea (Ej rfl rfl) ?_)))))))))))
 refine Ea (Ef rfl) (Ed (Ec (Eb [2] rfl (Ep (Eg rfl rfl ?_)))))
 rotate_left
 all_goals
  first | exact (Mst.locks_nil (by omega)).symm | (simp_all; done)
theorem c_9 (b : Bus) (hs : b.small) (he : b.even) : CV prg 9 [.rp b.r 0] (fun res => res = .w (.bool (heldB b))) := by
 have hml : b.ms.length ≤ 1048576 := hs.2.1
 have he1 := he.ms
 have he3 := he.splits
 have hcl : b.conf.masters.length ≤ 1048576 := by omega
 refine Fo g9 (Eb [0] rfl (Eh (En (Ea (Ef rfl) (Ed (Ec (Eb [0] rfl (Eh (Eh (En (Ea (Ef rfl) ?_)))))))))))
 refine Ea (Fn rfl) (Ea (o_fa rfl) (Ea (o_ld rfl rfl) ?_))
 first | refine Ea (Fk rfl) ?_ | refine Ea (Fu rfl) ?_ | refine Ea (o_lenL rfl rfl rfl) ?_ | refine Ea (o_lenN rfl) ?_
 refine Ea (Ef rfl) (Ed (Ec (Eb [0, 8, 9, 10] rfl (Fj (S_loop0 (ι := Nat) (fun i => i ≤ b.ms.length ∧ (List.range i).all (heldAt b) = true) (fun i => [(10, .w (.int .i64 (i : Int)))]) (fun i => b.ms.length - i) 0 (by simp) rfl ⟨rfl, trivial⟩ (fun _ _ => rfl) rfl ?_)))))
 intro i hi
 refine Eb [0, 8, 9, 10] rfl (Eh (En (Ea (o_lss rfl rfl) (Ed (Ec (Eb [0, 8, 9, 10, 11] rfl (Eh ?_)))))))
 first | refine Ey rfl ?_ ?_ | refine Ev rfl ?_ ?_
 intro h1
 try rw [nnp] at h1
 try have h1' := Et h1
 refine Fa (Ec (Eb [0, 8, 9, 10] rfl (Eh (Fj (Eh (En (Ea (Ef rfl) (s_iaM rfl rfl (by first | omega | (simp_all; omega)) ?_))))))))
 intro y2 e2
 (try have e2m := mAt_of e2); (try have e2s := sAt_of e2); (try simp only [Int.toNat_natCast, Int.toNat_zero] at e2)
 refine Ea (o_ldn rfl rfl) (Ea (o_new rfl rfl) (Ea (Ef rfl) (Fx (o_stnC rfl rfl rfl rfl rfl rfl rfl) (Ed (Ec (Eb [0, 3, 4, 8, 9, 10] rfl (Eh (En (Ea (Ek rfl) (Ea (Eo rfl rfl rfl) (Ea (o_gtr rfl rfl) ?_)))))))))))
 refine Ea (Ef rfl) ?_
 first | refine Ff rfl ?_ ?_ | refine Fe rfl ?_ ?_
 intro h3
 try rw [nnp] at h3
 try have h3' := Et h3
 refine Ea (Fm rfl rfl rfl) (Ei rfl ?_)
 first | refine Ez rfl rfl (c_93 _) ?_ | refine Ew rfl rfl (by simp) (c_93 _) rfl ?_
 refine Ea (Em rfl rfl) (Ea (Ef rfl) ?_)
 first | refine Ff rfl ?_ ?_ | refine Ft rfl ?_ ?_ | refine s_gNT rfl ?_ ?_ | refine Fe rfl ?_ ?_
 intro h4
 try rw [nnp] at h4
 try have h4' := Et h4
 refine Ea (Ef rfl) (Ei rfl (Ea (Fn rfl) (Ei rfl (Ea (o_fa rfl) (Ei rfl (Ea (o_ld rfl rfl) (Ei rfl (Ea (Ef rfl) (Ei rfl (Ea (o_neq rfl rfl) (Ea (Em rfl rfl) ?_)))))))))))
 refine Ed (Ec (Eb [0, 8, 9, 10, 19, 20, 23, 24, 25, 26, 27, 28, 29] rfl ?_))
 first | refine Ey rfl ?_ ?_ | refine Ev rfl ?_ ?_
 intro h5
 try rw [nnp] at h5
 try have h5' := Et h5
 refine Eh (En (Ea (Ef rfl) (Ed (Ec (Eb [2] rfl (Ep (Fd (Eu (Fw (Fd (Eu ?_)))))))))))
 refine Eg rfl rfl ?_
 rotate_left
 intro h5
 try rw [nnp] at h5
 try have h5' := Et h5
 refine Fa (q_blkN (Ec (Eb [0, 8, 9, 10, 19, 20, 23, 24, 25, 26, 27, 28] rfl (En ?_))))
 first | refine Ea (Fs rfl rfl (by omega)) ?_ | refine Ea (o_add rfl rfl) ?_
 refine Ea (Ef rfl) (Ed (q_loopN ?_))
 · exact ⟨i + 1, ⟨by omega, rall_succ hi.2 (by clear hs hi; simp_all [heldAt])⟩, by omega, hasOf ⟨rfl, trivial⟩ rfl⟩
 intro h4
 try rw [nnp] at h4
 try have h4' := Et h4
 iterate 6 refine Ee rfl ?_
 refine Ea (Ej rfl rfl) (Ed (Ec (Eb [0, 8, 9, 10, 19, 20, 23, 24, 25, 26, 27, 28, 29] rfl (s_condF rfl (Fa (q_blkN (Ec (Eb [0, 8, 9, 10, 19, 20, 23, 24, 25, 26, 27, 28] rfl (En ?_)))))))))
 first | refine Ea (Fs rfl rfl (by omega)) ?_ | refine Ea (o_add rfl rfl) ?_
 refine Ea (Ef rfl) (Ed (q_loopN ?_))
 · exact ⟨i + 1, ⟨by omega, rall_succ hi.2 (by clear hs hi; simp_all [heldAt])⟩, by omega, hasOf ⟨rfl, trivial⟩ rfl⟩
 intro h3
 try rw [nnp] at h3
 try have h3' := Et h3
 refine Ee rfl (Ee rfl (Ea (Ej rfl rfl) (Ea (Ef rfl) ?_)))
 iterate 6 refine Ee rfl ?_
 refine Ea (Ej rfl rfl) (Ed (Ec (Eb [0, 8, 9, 10, 19, 20, 23, 24, 25, 26, 27, 28, 29] rfl (s_condF rfl (Fa (q_blkN (Ec (Eb [0, 8, 9, 10, 19, 20, 23, 24, 25, 26, 27, 28] rfl (En ?_)))))))))
 first | refine Ea (Fs rfl rfl (by omega)) ?_ | refine Ea (o_add rfl rfl) ?_
 refine Ea (Ef rfl) (Ed (q_loopN ?_))
 · exact ⟨i + 1, ⟨by omega, rall_succ hi.2 (by clear hs hi; simp_all [heldAt])⟩, by omega, hasOf ⟨rfl, trivial⟩ rfl⟩
 intro h1
 try rw [nnp] at h1
 try have h1' := Et h1
 refine s_exit (q_seqX (q_loopX (q_blkH (Ec (Eb [0] rfl (Eh (Eh (En (Ea (Ef rfl) (Ea (Fn rfl) (Ea (o_fa rfl) ?_)))))))))))
 refine Ea (o_ld rfl rfl) (Ea (Fv rfl rfl) (Ed (Ec (Eb [0, 35] rfl ?_))))
 first | refine Ey rfl ?_ ?_ | refine Ev rfl ?_ ?_
 intro h6
 try rw [nnp] at h6
 try have h6' := Et h6
 refine Eh (En (Ea (Ef rfl) (Ea (Fn rfl) (Ea (o_fa rfl) (Ea (o_ld rfl rfl) (Ea (Fv rfl rfl) (Ea (Ef rfl) (Ed (Ec (Eb [2] rfl (Ep ?_)))))))))))
 refine Eu (Eg rfl rfl ?_)
 rotate_left
 intro h6
 try rw [nnp] at h6
 try have h6' := Et h6
 refine Fa (Ec (Eb [0] rfl (Eh (En (Ea (Ef rfl) (Ea (Fn rfl) (Ea (o_fa rfl) (Ea (o_ldn rfl rfl) (Ea (Ef rfl) (Ea (Fn rfl) (Ea (o_fa rfl) ?_)))))))))))
 refine Ea (o_ld rfl rfl) ?_
 first | refine Ez rfl rfl (c_91 b.conf b.holder hcl) ?_ | refine Ew rfl rfl (by simp) (c_91 b.conf b.holder hcl) rfl ?_
 refine Ea (Ef rfl) ?_
 first | refine Ff rfl ?_ ?_ | refine Ft rfl ?_ ?_ | refine s_gNT rfl ?_ ?_ | refine Fe rfl ?_ ?_
 intro h7
 try rw [nnp] at h7
 try have h7' := Et h7
 refine Ea (Ef rfl) (Ei rfl (Ea (Fn rfl) (Ei rfl (Ea (o_fa rfl) (Ei rfl (Ea (o_ld rfl rfl) (Er (is := [0, 50, 54]) rfl (Ei rfl (Ea (Ef rfl) (Ei rfl (Ea (Fn rfl) ?_)))))))))))
 refine Ei rfl (Ea (o_fa rfl) (Ei rfl (Ea (o_ld rfl rfl) (Ei rfl (s_iaM rfl rfl (by first | omega | (simp_all; omega)) ?_)))))
 intro y8 e8
 (try have e8m := mAt_of e8); (try have e8s := sAt_of e8); (try simp only [Int.toNat_natCast, Int.toNat_zero] at e8)
 refine Ei rfl (Ea (o_ldn rfl rfl) (Ei rfl ?_))
 first | refine Ez rfl rfl (c_93 _) ?_ | refine Ew rfl rfl (by simp) (c_93 _) rfl ?_
 refine Ea (Em rfl rfl) (Ea (Ef rfl) ?_)
 first | refine Ff rfl ?_ ?_ | refine Ft rfl ?_ ?_ | refine s_gNT rfl ?_ ?_ | refine Fe rfl ?_ ?_
 intro h9
 try rw [nnp] at h9
 try have h9' := Et h9
 refine Ea (Ef rfl) (Ei rfl (Ea (Fn rfl) (Ei rfl (Ea (o_fa rfl) (Ei rfl (Ea (o_ld rfl rfl) (Ei rfl (Ea (Ef rfl) (Er (is := [0, 63, 67, 68]) rfl (Ei rfl (Ea (Fn rfl) ?_)))))))))))
 refine Ei rfl (Ea (o_fa rfl) (Ei rfl (Ea (o_ld rfl rfl) (Ei rfl (s_iaM rfl rfl (by first | omega | (simp_all; omega)) ?_)))))
 intro y10 e10
 (try have e10m := mAt_of e10); (try have e10s := sAt_of e10); (try simp only [Int.toNat_natCast, Int.toNat_zero] at e10)
 refine Ei rfl (Ea (o_ld rfl rfl) (Ei rfl (Ea (Fv rfl rfl) (Ea (Em rfl rfl) (Ea (Ef rfl) ?_)))))
 first | refine Ff rfl ?_ ?_ | refine Fe rfl ?_ ?_
 intro h11
 try rw [nnp] at h11
 try have h11' := Et h11
 refine Ea (Ef rfl) (Ei rfl (Ea (Fn rfl) (Ei rfl (Ea (o_fa rfl) (Ei rfl (Ea (o_ld rfl rfl) (Ei rfl (Ea (Ef rfl) (Ei rfl (Ea (Fn rfl) (Er (is := [76, 80, 82]) rfl ?_)))))))))))
 refine Ei rfl (Ea (o_fa rfl) (Ei rfl (Ea (o_fa rfl) (Ei rfl (Ea (o_ld rfl rfl) (Ei rfl ?_))))))
 first | refine Ez rfl rfl (c_103 ..) ?_ | refine Ew rfl rfl (by simp) (c_103 ..) rfl ?_
 refine Ea (Em rfl rfl) (Ea (Ef rfl) (Ed (Ec (Eb [2] rfl (Ep (Eg rfl rfl ?_))))))
 rotate_left
 intro h11
 try rw [nnp] at h11
 try have h11' := Et h11
 iterate 6 refine Ee rfl ?_
 refine Er (is := [76, 80, 82]) rfl (Ee rfl (Ee rfl (Ee rfl (Ee rfl (Ea (Ej rfl rfl) (Ea (Ef rfl) (Ed (Ec (Eb [2] rfl (Ep (Eg rfl rfl ?_)))))))))))
 rotate_left
 intro h9
 try rw [nnp] at h9
 try have h9' := Et h9
 refine Ee rfl (Ee rfl (Ee rfl (Ee rfl (Ee rfl (Er (is := [0, 63, 67, 68]) rfl ?_)))))
 iterate 6 refine Ee rfl ?_
 refine Ea (Ej rfl rfl) (Ea (Ef rfl) ?_)
 iterate 6 refine Ee rfl ?_
 refine Er (is := [76, 80, 82]) rfl (Ee rfl (Ee rfl (Ee rfl (Ee rfl (Ea (Ej rfl rfl) (Ea (Ef rfl) (Ed (Ec (Eb [2] rfl (Ep (Eg rfl rfl ?_)))))))))))
 rotate_left
 intro h7
 try rw [nnp] at h7
 try have h7' := Et h7
 refine Ee rfl (Ee rfl (Ee rfl (Ee rfl (Er (is := [0, 50, 54]) rfl ?_))))
 iterate 7 refine Ee rfl ?_
 refine Ea (Ej rfl rfl) (Ea (Ef rfl) (Ee rfl (Ee rfl (Ee rfl (Ee rfl (Ee rfl (Er (is := [0, 63, 67, 68]) rfl ?_)))))))
 iterate 6 refine Ee rfl ?_
 refine Ea (Ej rfl rfl) (Ea (Ef rfl) ?_)
 iterate 6 refine Ee rfl ?_
 refine Er (is := [76, 80, 82]) rfl (Ee rfl (Ee rfl (Ee rfl (Ee rfl (Ea (Ej rfl rfl) (Ea (Ef rfl) (Ed (Ec (Eb [2] rfl (Ep (Eg rfl rfl ?_)))))))))))
 rotate_left
 all_goals
  first | (have hr := rall_end hi.2 hi.1 (by omega); clear hi hs; simp_all [heldB, heldE]; done) | (unfold heldB; rw [rall_no (p := heldAt b) (by omega : i < b.ms.length) (by simp_all [heldAt])]; rfl)
def bAt (b : Bus) (k : Int) : Bucket := (b.buckets[k.toNat]?).getD ⟨0, 0⟩
def cAt (b : Bus) (k : Int) : MConf := (b.conf.masters[k.toNat]?).getD ⟨0, false, 0, 0⟩
theorem bAt_of {b : Bus} {k : Int} {m : Bucket} (h : b.buckets[k.toNat]? = some m) : bAt b k = m := by unfold bAt; rw [h]; rfl
theorem cAt_of {b : Bus} {k : Int} {m : MConf} (h : b.conf.masters[k.toNat]? = some m) : cAt b k = m := by unfold cAt; rw [h]; rfl
def mOkAt (b : Bus) (i : Nat) : Bool := (mAt b i).right && decide ((mAt b i).tries ≤ b.conf.maxRetry) && (bAt b i).ok (cAt b i) && inB (sAt b i) 0 b.conf.maxSplit
def evenB (b : Bus) : Bool := decide ((b.ms.length : Int) = b.conf.masters.length) && decide ((b.buckets.length : Int) = b.conf.masters.length) && decide ((b.splits.length : Int) = b.conf.masters.length)
def mastersB (b : Bus) : Bool := evenB b && (List.range b.ms.length).all (mOkAt b)
theorem evenB_of {b : Bus} (h : evenB b = true) : b.even := by
 simp only [evenB, Bool.and_eq_true, decide_eq_true_eq] at h
 exact ⟨by omega, by omega, by omega⟩
theorem c_3 (b : Bus) (hs : b.small) : CV prg 3 [.rp b.r 0] (fun res => res = .w (.bool (mastersB b))) := by
 have hml : b.ms.length ≤ 1048576 := hs.2.1
 have hms := hs.2.2.1
 refine Fo g3 (Eb [0] rfl (Eh (En (Ea (Ef rfl) (Ed (Ec (Eb [0] rfl (Eh (En (Ea (Ef rfl) (Ea (Fn rfl) ?_)))))))))))
 refine Ea (o_fa rfl) (Ea (o_fa rfl) (Ea (o_ld rfl rfl) ?_))
 first | refine Ea (Fk rfl) ?_ | refine Ea (Fu rfl) ?_ | refine Ea (o_lenL rfl rfl rfl) ?_ | refine Ea (o_lenN rfl) ?_
 refine Ea (Ef rfl) (Ed (Ec (Eb [0, 3] rfl (Eh (Eh (En (Ea (Ef rfl) (Ea (Fn rfl) (Ea (o_fa rfl) (Ea (o_ld rfl rfl) ?_))))))))))
 first | refine Ea (Fk rfl) ?_ | refine Ea (Fu rfl) ?_ | refine Ea (o_lenL rfl rfl rfl) ?_ | refine Ea (o_lenN rfl) ?_
 refine Ea (Ef rfl) (Ea (o_neq rfl rfl) (Ea (Ef rfl) ?_))
 first | refine Fq rfl ?_ ?_ | refine Fe rfl ?_ ?_
 intro h1
 try rw [nnp] at h1
 refine Ea (Ef rfl) (Ei rfl (Ea (Fn rfl) (Ei rfl (Ea (o_fa rfl) (Ei rfl (Ea (o_ld rfl rfl) (Ei rfl ?_)))))))
 first | refine Ea (Fk rfl) ?_ | refine Ea (Fu rfl) ?_ | refine Ea (o_lenL rfl rfl rfl) ?_ | refine Ea (o_lenN rfl) ?_
 refine Ei rfl (Ea (Ef rfl) (Er (is := [0, 3, 19, 24, 25]) rfl (Ei rfl (Ea (o_neq rfl rfl) (Ea (Ej rfl rfl) (Ea (Ef rfl) ?_))))))
 first | refine Fq rfl ?_ ?_ | refine Fe rfl ?_ ?_
 intro h2
 try rw [nnp] at h2
 refine Ea (Ef rfl) (Ei rfl (Ea (Fn rfl) (Ei rfl (Ea (o_fa rfl) (Ei rfl (Ea (o_ld rfl rfl) (Ei rfl ?_)))))))
 first | refine Ea (Fk rfl) ?_ | refine Ea (Fu rfl) ?_ | refine Ea (o_lenL rfl rfl rfl) ?_ | refine Ea (o_lenN rfl) ?_
 refine Ei rfl (Ea (Ef rfl) (Ei rfl (Ea (o_neq rfl rfl) (Ea (Ej rfl rfl) (Ed (Ec (Eb [0, 36] rfl ?_)))))))
 first | refine Ey rfl ?_ ?_ | refine Ev rfl ?_ ?_
 intro h3
 try rw [nnp] at h3
 refine Eh (En (Ea (Ef rfl) (Ed (Ec (Eb [2] rfl (Ep (Eu (Eg rfl rfl ?_))))))))
 rotate_left
 intro h3
 try rw [nnp] at h3
 refine Fa (Ec (Eb [0] rfl (Eh (Eh (En (Ea (Ef rfl) (Ea (Fn rfl) (Ea (o_fa rfl) (Ea (o_ld rfl rfl) ?_)))))))))
 first | refine Ea (Fk rfl) ?_ | refine Ea (Fu rfl) ?_ | refine Ea (o_lenL rfl rfl rfl) ?_ | refine Ea (o_lenN rfl) ?_
 refine Ea (Ef rfl) (Ed (Ec (Eb [0, 40, 41, 42] rfl (Fj (S_loop0 (ι := Nat) (fun i => i ≤ b.ms.length ∧ (List.range i).all (mOkAt b) = true) (fun i => [(42, .w (.int .i64 (i : Int)))]) (fun i => b.ms.length - i) 0 (by simp) rfl ⟨rfl, trivial⟩ (fun _ _ => rfl) rfl ?_)))))
 intro i hi
 refine Eb [0, 40, 41, 42] rfl (Eh (En (Ea (o_lss rfl rfl) (Ed (Ec (Eb [0, 40, 41, 42, 43] rfl (Eh ?_)))))))
 first | refine Ey rfl ?_ ?_ | refine Ev rfl ?_ ?_
 intro h4
 try rw [nnp] at h4
 refine Fa (Ec (Eb [0, 40, 41, 42] rfl (Eh (Fj (Eh (En (Ea (Ef rfl) (s_iaM rfl rfl (by first | omega | (simp_all; omega)) ?_))))))))
 intro y5 e5
 (try have e5m := mAt_of e5); (try have e5s := sAt_of e5); (try have e5b := bAt_of e5); (try have e5c := cAt_of e5); (try have e5sm := hms _ (List.mem_of_getElem? e5)); (try simp only [Int.toNat_natCast, Int.toNat_zero] at e5)
 refine Ea (o_ldn rfl rfl) (Ea (o_new rfl rfl) (Ea (Ef rfl) (Fx (o_stnC rfl rfl rfl rfl rfl rfl rfl) (Ed (Ec (Eb [0, 4, 5, 40, 41, 42] rfl (Eh (En (Ea (Fm rfl rfl rfl) ?_)))))))))
 first | refine Ez rfl rfl (c_88 _ (by assumption)) ?_ | refine Ew rfl rfl (by simp) (c_88 _ (by assumption)) rfl ?_
 refine Ea (Fg rfl) (Ea (Ef rfl) ?_)
 first | refine Fq rfl ?_ ?_ | refine Fr rfl ?_ ?_ | refine s_gNF rfl ?_ ?_ | refine Fe rfl ?_ ?_
 intro h6
 try rw [nnp] at h6
 refine Ea (Ek rfl) (Ei rfl (Ea (Eo rfl rfl rfl) (Ei rfl (Ea (Ef rfl) (Ei rfl (Ea (Fn rfl) (Ei rfl (Ea (o_fa rfl) (Ei rfl (Ea (o_fa rfl) (Ei rfl ?_)))))))))))
 refine Ea (o_ld rfl rfl) (Ei rfl (Ea (o_gtr rfl rfl) (Ea (Ej rfl rfl) (Ea (Ef rfl) (Er (is := [0, 4, 40, 41, 42, 51, 52, 53, 54, 55, 56, 57, 58, 60]) rfl ?_)))))
 first | refine Fq rfl ?_ ?_ | refine Fe rfl ?_ ?_
 intro h7
 try rw [nnp] at h7
 refine Ea (Ef rfl) (Ei rfl (Ea (Fn rfl) (Ei rfl (Ea (o_fa rfl) (Ei rfl (Ea (o_ld rfl rfl) (Ei rfl (Ea (Ef rfl) (Ei rfl (s_iaM rfl rfl (by first | omega | (simp_all; omega)) ?_))))))))))
 intro y8 e8
 (try have e8m := mAt_of e8); (try have e8s := sAt_of e8); (try have e8b := bAt_of e8); (try have e8c := cAt_of e8); (try have e8sm := hms _ (List.mem_of_getElem? e8)); (try simp only [Int.toNat_natCast, Int.toNat_zero] at e8)
 refine Ei rfl (Ea (o_ldn rfl rfl) (Ei rfl (Ea (Ef rfl) (Ei rfl (Ea (Fn rfl) (Ei rfl (Ea (o_fa rfl) (Ei rfl (Ea (o_fa rfl) (Ei rfl (Ea (o_ld rfl rfl) ?_)))))))))))
 refine Ei rfl (Ea (Ef rfl) (Ei rfl (s_iaM rfl rfl (by first | omega | (simp_all; omega)) ?_)))
 intro y9 e9
 (try have e9m := mAt_of e9); (try have e9s := sAt_of e9); (try have e9b := bAt_of e9); (try have e9c := cAt_of e9); (try have e9sm := hms _ (List.mem_of_getElem? e9)); (try simp only [Int.toNat_natCast, Int.toNat_zero] at e9)
 refine Er (is := [0, 4, 40, 41, 42, 51, 52, 53, 54, 55, 56, 57, 58, 60, 61, 62, 63, 64, 65, 66, 67, 68, 69, 70, 71, 72, 73, 74]) rfl (Ei rfl (Ea (o_ldn rfl rfl) (Ei rfl ?_)))
 first | refine Ez rfl rfl (c_26 _ _) ?_ | refine Ew rfl rfl (by simp) (c_26 _ _) rfl ?_
 refine Ei rfl (Ea (Fg rfl) (Ea (Ej rfl rfl) (Ea (Ef rfl) ?_)))
 first | refine Fq rfl ?_ ?_ | refine Fr rfl ?_ ?_ | refine s_gNF rfl ?_ ?_ | refine Fe rfl ?_ ?_
 intro h10
 try rw [nnp] at h10
 refine Ea (Ef rfl) (Ei rfl (Ea (Fn rfl) (Ei rfl (Ea (o_fa rfl) (Ei rfl (Ea (o_ld rfl rfl) (Ei rfl (Ea (Ef rfl) (Ei rfl (s_iaM rfl rfl (by first | omega | (simp_all; omega)) ?_))))))))))
 intro y11 e11
 (try have e11m := mAt_of e11); (try have e11s := sAt_of e11); (try have e11b := bAt_of e11); (try have e11c := cAt_of e11); (try have e11sm := hms _ (List.mem_of_getElem? e11)); (try simp only [Int.toNat_natCast, Int.toNat_zero] at e11)
 refine Ei rfl (Ea (o_ld rfl rfl) (Ei rfl (Ea (Ef rfl) (Ei rfl (Ea (Fn rfl) (Er (is := [0, 40, 41, 42, 51, 52, 53, 54, 55, 56, 57, 58, 61, 62, 63, 64, 65, 66, 67, 68, 69, 70, 71, 72, 73, 74, 75, 76, 77, 79, 80, 81, 82, 83, 84, 85, 86, 87, 88]) rfl (Ei rfl (Ea (o_fa rfl) (Ei rfl (Ea (o_fa rfl) (Ei rfl ?_)))))))))))
 refine Ea (o_ld rfl rfl) (Ei rfl ?_)
 first | refine Ez rfl rfl (c_103 ..) ?_ | refine Ew rfl rfl (by simp) (c_103 ..) rfl ?_
 refine Ei rfl (Ea (Fg rfl) (Ea (Ej rfl rfl) (Ed (Ec (Eb [0, 40, 41, 42, 51, 52, 53, 54, 55, 56, 57, 58, 61, 62, 63, 64, 65, 66, 67, 68, 69, 70, 71, 72, 73, 74, 75, 76, 77, 80, 81, 82, 83, 84, 85, 86, 87, 88, 89, 90, 91, 92, 93, 94] rfl ?_)))))
 first | refine Ey rfl ?_ ?_ | refine Fp rfl ?_ ?_ | refine Fh rfl ?_ ?_ | refine Ev rfl ?_ ?_
 intro h12
 try rw [nnp] at h12
 refine Eh (En (Ea (Ef rfl) (Ed (Ec (Eb [2] rfl (Ep (Fd (Eu (Fw (Fd (Eu ?_)))))))))))
 refine Eg rfl rfl ?_
 rotate_left
 intro h12
 try rw [nnp] at h12
 refine Fa (q_blkN (Ec (Eb [0, 40, 41, 42, 51, 52, 53, 54, 55, 56, 57, 58, 61, 62, 63, 64, 65, 66, 67, 68, 69, 70, 71, 72, 73, 74, 75, 76, 77, 80, 81, 82, 83, 84, 85, 86, 87, 88, 89, 90, 91, 92, 93] rfl (En ?_))))
 first | refine Ea (Fs rfl rfl (by omega)) ?_ | refine Ea (o_add rfl rfl) ?_
 refine Ea (Ef rfl) (Ed (q_loopN ?_))
 · exact ⟨i + 1, ⟨by omega, rall_succ hi.2 (by clear hs hi; simp_all [mOkAt])⟩, by omega, hasOf ⟨rfl, trivial⟩ rfl⟩
 intro h10
 try rw [nnp] at h10
 iterate 9 refine Ee rfl ?_
 refine Er (is := [0, 40, 41, 42, 51, 52, 53, 54, 55, 56, 57, 58, 61, 62, 63, 64, 65, 66, 67, 68, 69, 70, 71, 72, 73, 74, 75, 76, 77, 79, 80, 81, 82, 83, 84, 85, 86, 87, 88]) rfl (Ee rfl (Ee rfl (Ee rfl (Ee rfl (Ee rfl (Ea (Em rfl rfl) (Ed (Ec (Eb [0, 40, 41, 42, 51, 52, 53, 54, 55, 56, 57, 58, 61, 62, 63, 64, 65, 66, 67, 68, 69, 70, 71, 72, 73, 74, 75, 76, 77, 80, 81, 82, 83, 84, 85, 86, 87, 88, 89, 90, 91, 92, 93, 94] rfl (Fi rfl (Eh ?_)))))))))))
 refine En (Ea (Ef rfl) (Ed (Ec (Eb [2] rfl (Ep (Fd (Eu (Fw (Fd (Eu (Eg rfl rfl ?_)))))))))))
 rotate_left
 intro h7
 try rw [nnp] at h7
 iterate 14 refine Ee rfl ?_
 refine Er (is := [0, 4, 40, 41, 42, 51, 52, 53, 54, 55, 56, 57, 58, 60, 61, 62, 63, 64, 65, 66, 67, 68, 69, 70, 71, 72, 73, 74]) rfl (Ee rfl (Ee rfl (Ee rfl (Ea (Em rfl rfl) (Ea (Ef rfl) ?_)))))
 iterate 9 refine Ee rfl ?_
 refine Er (is := [0, 40, 41, 42, 51, 52, 53, 54, 55, 56, 57, 58, 61, 62, 63, 64, 65, 66, 67, 68, 69, 70, 71, 72, 73, 74, 75, 76, 77, 79, 80, 81, 82, 83, 84, 85, 86, 87, 88]) rfl (Ee rfl (Ee rfl (Ee rfl (Ee rfl (Ee rfl (Ea (Em rfl rfl) (Ed (Ec (Eb [0, 40, 41, 42, 51, 52, 53, 54, 55, 56, 57, 58, 61, 62, 63, 64, 65, 66, 67, 68, 69, 70, 71, 72, 73, 74, 75, 76, 77, 80, 81, 82, 83, 84, 85, 86, 87, 88, 89, 90, 91, 92, 93, 94] rfl (Fi rfl (Eh ?_)))))))))))
 refine En (Ea (Ef rfl) (Ed (Ec (Eb [2] rfl (Ep (Fd (Eu (Fw (Fd (Eu (Eg rfl rfl ?_)))))))))))
 rotate_left
 intro h6
 try rw [nnp] at h6
 iterate 8 refine Ee rfl ?_
 refine Ea (Em rfl rfl) (Ea (Ef rfl) (Er (is := [0, 4, 40, 41, 42, 51, 52, 53, 54, 55, 56, 57, 58, 60]) rfl ?_))
 iterate 14 refine Ee rfl ?_
 refine Er (is := [0, 4, 40, 41, 42, 51, 52, 53, 54, 55, 56, 57, 58, 60, 61, 62, 63, 64, 65, 66, 67, 68, 69, 70, 71, 72, 73, 74]) rfl (Ee rfl (Ee rfl (Ee rfl (Ea (Em rfl rfl) (Ea (Ef rfl) ?_)))))
 iterate 9 refine Ee rfl ?_
 refine Er (is := [0, 40, 41, 42, 51, 52, 53, 54, 55, 56, 57, 58, 61, 62, 63, 64, 65, 66, 67, 68, 69, 70, 71, 72, 73, 74, 75, 76, 77, 79, 80, 81, 82, 83, 84, 85, 86, 87, 88]) rfl (Ee rfl (Ee rfl (Ee rfl (Ee rfl (Ee rfl (Ea (Em rfl rfl) (Ed (Ec (Eb [0, 40, 41, 42, 51, 52, 53, 54, 55, 56, 57, 58, 61, 62, 63, 64, 65, 66, 67, 68, 69, 70, 71, 72, 73, 74, 75, 76, 77, 80, 81, 82, 83, 84, 85, 86, 87, 88, 89, 90, 91, 92, 93, 94] rfl (Fi rfl (Eh ?_)))))))))))
 refine En (Ea (Ef rfl) (Ed (Ec (Eb [2] rfl (Ep (Fd (Eu (Fw (Fd (Eu (Eg rfl rfl ?_)))))))))))
 rotate_left
 intro h4
 try rw [nnp] at h4
 refine s_exit (q_seqX (q_loopX (q_blkH (Ec (Eb [] rfl (Eh (En (Ea (Ef rfl) (Ed (Ec (Eb [2] rfl ?_)))))))))))
 refine Ep (Eg rfl rfl ?_)
 rotate_left
 intro h2
 try rw [nnp] at h2
 iterate 7 refine Ee rfl ?_
 refine Ea (Em rfl rfl) (Ed (Ec (Eb [0, 36] rfl (Fi rfl (Eh (En (Ea (Ef rfl) (Ed (Ec (Eb [2] rfl (Ep ?_)))))))))))
 refine Eu (Eg rfl rfl ?_)
 rotate_left
 intro h1
 try rw [nnp] at h1
 iterate 6 refine Ee rfl ?_
 refine Er (is := [0, 3, 19, 24, 25]) rfl (Ee rfl (Ea (Em rfl rfl) (Ea (Ef rfl) ?_)))
 iterate 7 refine Ee rfl ?_
 refine Ea (Em rfl rfl) (Ed (Ec (Eb [0, 36] rfl (Fi rfl (Eh (En (Ea (Ef rfl) (Ed (Ec (Eb [2] rfl (Ep ?_)))))))))))
 refine Eu (Eg rfl rfl ?_)
 rotate_left
 all_goals
  first | (have hr := rall_end hi.2 hi.1 (by omega); clear hi hs; simp_all [mastersB, evenB]; done) | (unfold mastersB; rw [rall_no (p := mOkAt b) (by omega : i < b.ms.length) (by clear hs hi; simp_all [mOkAt]; try omega), Bool.and_false]; done) | (clear hs; simp_all [mastersB, evenB]; done)
theorem c_267 (xs : List Beat) (hl : xs.length ≤ 140737488355328) (f : Nat) (caps : List V) (hc : caps.all (V.fzV 5) = true) (p : Beat → Bool) (h : ∀ y, y ∈ xs → CV prg f (.agg (Beat.r y) :: caps) (fun v => v = .w (.bool (p y)))) : CV prg 267 [.sl 8 (xs.map Beat.r), .fn f caps] (fun res => res = .w (.int .i64 (idxOf p xs))) := by
 refine Fo g267 (Eb [0, 1] rfl (Eh (En (Ea (Ef rfl) (Ed (Ec (Eb [0, 1] rfl (Eh (Eh (En (Ea (Ef rfl) ?_)))))))))))
 first | refine Ea (Fk rfl) ?_ | refine Ea (Fu rfl) ?_
 refine Ea (Ef rfl) (Ed (Ec (Eb [0, 1, 7, 8] rfl (Fj (S_loop0 (ι := Nat) (fun i => i ≤ xs.length ∧ (xs.take i).any p = false) (fun i => [(8, .w (.int .i64 (i : Int)))]) (fun i => xs.length - i) 0 (by simp) rfl ⟨rfl, trivial⟩ (fun _ _ => rfl) rfl ?_)))))
 intro i hi
 refine Eb [0, 1, 7, 8] rfl (Eh (En (Ea (o_lss rfl rfl) (Ed (Ec (Eb [0, 1, 7, 8, 9] rfl (Eh ?_)))))))
 first | refine Ey rfl ?_ ?_ | refine Ev rfl ?_ ?_
 intro h1
 try rw [nnp] at h1
 refine Fa (Ec (Eb [0, 1, 7, 8] rfl (Eh (Fj (Eh (En (Ea (Ef rfl) (Ea (Ef rfl) (Ed (Ec (Eb [0, 1, 5, 7, 8] rfl ?_)))))))))))
 refine Eh (En (Ea (Ef rfl) (Ea (Ef rfl) (Ea (Ef rfl) (s_iaM rfl rfl (by simp at *; omega) ?_)))))
 intro y2 e2
 try simp only [Int.toNat_natCast, Int.toNat_zero] at e2
 refine Ea (o_ldn rfl rfl) (s_calli rfl rfl (fz1 rfl hc) (h _ (List.mem_of_getElem? (by assumption))) (Ed (Ec (Eb [0, 1, 5, 7, 8, 16] rfl ?_))))
 first | refine Ey rfl ?_ ?_ | refine Fp rfl ?_ ?_ | refine Fh rfl ?_ ?_ | refine Ev rfl ?_ ?_
 intro h3
 try rw [nnp] at h3
 refine Eh (En (Ea (Ef rfl) (Ea (Ef rfl) (Ed (Ec (Eb [4] rfl (Ep (Fd (Eu (Fw (Fd ?_)))))))))))
 refine Eu (Fc rfl rfl ?_)
 rotate_left
 intro h3
 try rw [nnp] at h3
 refine Fa (q_blkN (Ec (Eb [0, 1, 7, 8] rfl (En ?_))))
 first | refine Ea (Fs rfl rfl (by omega)) ?_ | refine Ea (o_add rfl rfl) ?_
 refine Ea (Ef rfl) (Ed (q_loopN ?_))
 · exact ⟨i + 1, ⟨by omega, any_take (by assumption) hi.2 (by assumption)⟩, by omega, hasOf ⟨rfl, trivial⟩ rfl⟩
 intro h1
 try rw [nnp] at h1
 refine s_exit (q_seqX (q_loopX (q_blkH (Ec (Eb [] rfl (Eh (En (Ea (Ef rfl) (Ed (Ec (Eb [4] rfl ?_)))))))))))
 refine Ep (Fc rfl rfl ?_)
 rotate_left
 all_goals
  first | exact (idxOf_at (by assumption) hi.2 (by assumption)).symm | exact (idxOf_no (any_end hi.2 (by omega))).symm
theorem cg_261 (xs : List Beat) (hl : xs.length ≤ 1048576) (f : Nat) (p : Beat → Bool) (h : ∀ y, y ∈ xs → CV prg f [.agg (Beat.r y)] (fun v => v = .w (.bool (p y)))) : GV prg 261 [.arr 8 (xs.map Beat.r)] [.ls 0 xs.length, .fn f []] (fun u L1 => (u = .ls 0 xs.length ∧ L1 = [.arr 8 (xs.map Beat.r)] ∧ xs.any p = false) ∨ (u = .ls 1 (xs.filter (fun y => !p y)).length ∧ L1 = [.dead, .arr 8 ((xs.filter (fun y => !p y)).map Beat.r)])) := by
 have hix : -1 ≤ idxOf p xs ∧ idxOf p xs < xs.length := by rcases idx_cases p xs with ⟨h1, _⟩ | ⟨i, h1, h2, _⟩ <;> omega
 refine gv_in g261 (Eb [0, 1] rfl (Eh (En (Ea (Ef rfl) (Ed (Ec (Eb [0, 1] rfl (Eh (En (Ea (Ef rfl) (Ea (Ef rfl) ?_)))))))))))
 refine Ew rfl rfl (by simp) (c_267 _ (by omega) _ [] rfl _ h) rfl (Ea (Ef rfl) (Ed (Ec (Eb [0, 1, 5] rfl (Eh (Eh (En (Ea (Ef rfl) (Ea (Fv rfl rfl) (Ed (Ec ?_)))))))))))
 refine Eb [0, 1, 5, 12] rfl ?_
 first | refine Ey rfl ?_ ?_ | refine Ev rfl ?_ ?_
 intro h1
 try rw [nnp] at h1
 refine Eh (En (Ea (Ef rfl) (Ea (Ef rfl) (Ed (Ec (Eb [4] rfl (Ep (Eu ?_))))))))
 · first | (refine retG_leaf [] (.inr rfl) rfl rfl rfl rfl (show (List.range 1 ++ []).Nodup by decide) (.inl ⟨rfl, rfl, ?_⟩); rcases idx_cases p xs with ⟨_, h1⟩ | ⟨i, h1, _⟩; exact h1; exfalso; omega) | (refine retG_leaf [1] (.inr rfl) rfl rfl rfl rfl (show (List.range 1 ++ [1]).Nodup by decide) (.inr ⟨?_, ?_⟩) <;> simp only [Int.toNat_natCast, Int.toNat_zero, List.drop_zero, dl_fin] <;> simp only [flt_end p (show xs.length ≤ j by omega), List.length_map] <;> rfl)
 intro h1
 try rw [nnp] at h1
 refine Fa (Ec (Eb [0, 1, 5] rfl (Eh (Eh (En (Ea (Ef rfl) ?_))))))
 first | refine Ea (Fs rfl rfl (by omega)) ?_ | refine Ea (o_add rfl rfl) ?_
 refine Ea (Ef rfl) (Ed (Ec (Eb [0, 1, 5, 6] rfl (Fj ?_))))
 obtain ⟨i0, e0, e1, e2⟩ : ∃ i0 : Nat, idxOf p xs = i0 ∧ i0 < xs.length ∧ flt p xs (i0 + 1) = xs.take i0 := by
  rcases idx_cases p xs with ⟨h1, _⟩ | h1
  · exact absurd h1 (by assumption)
  · exact h1
 refine S_loop (ι := Nat) (fun j => j ≤ xs.length) (fun j => [(5, .w (.int .i64 ((flt p xs j).length : Int))), (6, .w (.int .i64 (j : Int)))]) (fun j => [.arr 8 ((dlT p xs j).map Beat.r)]) (fun j => xs.length - j) 1 (i0 + 1) (by omega) rfl (hasOf ⟨congrArg (fun b => some (V.w (.int .i64 b))) (by rw [e0, e2, List.length_take, Nat.min_eq_left (by omega)]), congrArg (fun b => some (V.w (.int .i64 b))) (by omega), trivial⟩ (by rw [dl_start e1 e2]; rfl)) rfl (fun _ _ => rfl) (fun _ _ => ⟨rfl, rfl⟩) ?_
 intro j hj
 have hfl := flt_le p xs j
 obtain ⟨y, hy⟩ : ∃ y, j < xs.length → xs[j]? = some y := by
  by_cases h : j < xs.length
  · exact ⟨xs[j], fun _ => List.getElem?_eq_getElem h⟩
  · exact ⟨⟨false, 0, 0, false, 0, 0, 0, false⟩, fun h2 => absurd h2 h⟩
 obtain ⟨y2, hy2⟩ : ∃ y, j < xs.length → xs[(flt p xs j).length]? = some y := by
  by_cases h : j < xs.length
  · exact ⟨xs[(flt p xs j).length], fun _ => List.getElem?_eq_getElem (by omega)⟩
  · exact ⟨⟨false, 0, 0, false, 0, 0, 0, false⟩, fun h2 => absurd h2 h⟩
 refine Eb [0, 1, 5, 6] rfl (Eh (Eh (En (Ea (Ef rfl) (Ea (Ef rfl) (Ea (o_lenL rfl rfl (by simp [dl_len]; try omega)) (Ea (o_lss rfl rfl) (Ed (Ec (Eb [0, 1, 5, 6, 19] rfl ?_))))))))))
 first | refine Ey rfl ?_ ?_ | refine Ev rfl ?_ ?_
 intro h2
 try rw [nnp] at h2
 refine Fa (Ec (Eb [0, 1, 5, 6] rfl (Eh (Fj (Eh (En (Ea (Ef rfl) (Ea (Ef rfl) (Ea (o_iaL rfl rfl (by simp [dl_len]; try omega) rfl (by omega)) (Ea (o_ldnA rfl rfl (by simp [dl_len]; try omega) (by rw [Int.toNat_natCast]; first | exact dl_at _ _ (hy (by omega)) | exact dl_at2 _ _ (hy2 (by omega))) rfl) (Ea (o_new rfl rfl) ?_)))))))))))
 refine Fx (o_stnC rfl rfl rfl rfl rfl rfl rfl) (Ed (Ec (Eb [0, 1, 5, 6, 7] rfl (Eh (En (Ea (Ef rfl) (Ea (Fm rfl rfl rfl) (s_calliL rfl rfl rfl (by simp) (h _ (List.mem_of_getElem? (hy (by omega)))) rfl (Ea (Fg rfl) (Ed (Ec ?_)))))))))))
 refine Eb [0, 1, 5, 6, 7, 29] rfl ?_
 first | refine Ey rfl ?_ ?_ | refine Fp rfl ?_ ?_ | refine Fh rfl ?_ ?_ | refine Ev rfl ?_ ?_
 intro h4
 try rw [nnp] at h4
 refine Eh (En (Ea (Ef rfl) (Ea (Ef rfl) (Ea (Fm rfl rfl rfl) (Ea (o_iaL rfl rfl (by simp [dl_len]; try omega) rfl (by omega)) (Fx (o_stnA rfl rfl rfl rfl rfl (by simp [dl_len]; try omega) (by rw [Int.toNat_natCast]; first | exact dl_at _ _ (hy (by omega)) | exact dl_at2 _ _ (hy2 (by omega))) rfl rfl) (Ed (Ec (Eb [0, 1, 5, 6] rfl (En (Ea (Ef rfl) ?_)))))))))))
 first | refine Ea (Fs rfl rfl (by omega)) ?_ | refine Ea (o_add rfl rfl) ?_
 refine Ea (Ef rfl) (Ed (q_blkN (Ec (Eb [0, 1, 5, 6] rfl (En (Ea (Ef rfl) ?_))))))
 first | refine Ea (Fs rfl rfl (by omega)) ?_ | refine Ea (o_add rfl rfl) ?_
 refine Ea (Ef rfl) (Ed (q_loopN ?_))
 · first | (refine ⟨j + 1, by omega, by omega, hasOf ⟨congrArg (fun b => some (V.w (.int .i64 b))) (by rw [flt_skip (hy (by omega)) (by assumption)]), rfl, trivial⟩ ?_⟩; rw [← dl_skip (hy (by omega)) (by assumption)]; rfl) | (refine ⟨j + 1, by omega, by omega, hasOf ⟨congrArg (fun b => some (V.w (.int .i64 b))) (by rw [flt_keep (hy (by omega)) (by assumption)]; simp), rfl, trivial⟩ ?_⟩; simp only [Int.toNat_natCast]; rw [← dl_keep Beat.r (hy (by omega)) (by assumption)]; rfl)
 intro h4
 try rw [nnp] at h4
 refine Fa (q_blkN (Ec (Eb [0, 1, 5, 6] rfl (En (Ea (Ef rfl) ?_)))))
 first | refine Ea (Fs rfl rfl (by omega)) ?_ | refine Ea (o_add rfl rfl) ?_
 refine Ea (Ef rfl) (Ed (q_loopN ?_))
 · first | (refine ⟨j + 1, by omega, by omega, hasOf ⟨congrArg (fun b => some (V.w (.int .i64 b))) (by rw [flt_skip (hy (by omega)) (by assumption)]), rfl, trivial⟩ ?_⟩; rw [← dl_skip (hy (by omega)) (by assumption)]; rfl) | (refine ⟨j + 1, by omega, by omega, hasOf ⟨congrArg (fun b => some (V.w (.int .i64 b))) (by rw [flt_keep (hy (by omega)) (by assumption)]; simp), rfl, trivial⟩ ?_⟩; simp only [Int.toNat_natCast]; rw [← dl_keep Beat.r (hy (by omega)) (by assumption)]; rfl)
 intro h2
 try rw [nnp] at h2
 refine s_exit (q_seqX (q_loopX (q_blkH (Ec (Eb [0, 5] rfl (Eh (En (Ea (Ef rfl) (Ea (Ef rfl) (s_clrS (t := 0) rfl rfl (by simp [dl_len]; try omega) rfl (by simp [dl_len]; omega) rfl rfl rfl rfl (Ed ?_)))))))))))
 refine Ec (Eb [0, 5] rfl (Eh (En (Ea (Ef rfl) (Ea (Ef rfl) (s_cut rfl rfl (by simp [dl_len]; try omega) rfl rfl (by simp [dl_len]; omega) rfl rfl (Ea (Ef rfl) (Ed (Ec (Eb [4] rfl (Ep ?_)))))))))))
 · first | (refine retG_leaf [] (.inr rfl) rfl rfl rfl rfl (show (List.range 1 ++ []).Nodup by decide) (.inl ⟨rfl, rfl, ?_⟩); rcases idx_cases p xs with ⟨_, h1⟩ | ⟨i, h1, _⟩; exact h1; exfalso; omega) | (refine retG_leaf [1] (.inr rfl) rfl rfl rfl rfl (show (List.range 1 ++ [1]).Nodup by decide) (.inr ⟨?_, ?_⟩) <;> simp only [Int.toNat_natCast, Int.toNat_zero, List.drop_zero, dl_fin] <;> simp only [flt_end p (show xs.length ≤ j by omega), List.length_map] <;> rfl)
def liveL (b : Bus) : List Beat := [b.addr, b.data].filter (fun x => x.live)
theorem liveL_del (b : Bus) : [b.addr, b.data].filter (fun x => !(!x.live)) = liveL b := by unfold liveL; congr 1; funext x; simp
theorem liveL_none {b : Bus} (h : [b.addr, b.data].any (fun x => !x.live) = false) : liveL b = [b.addr, b.data] := by
 unfold liveL
 rw [List.filter_eq_self]
 intro x hx
 rw [List.any_eq_false] at h
 simpa using h x hx
theorem liveL_le (b : Bus) : (liveL b).length ≤ 2 := List.length_filter_le ..
theorem c_14 (x : Beat) : CV prg 14 [.agg x.r] (fun res => res = .w (.bool (!x.live))) := by
 refine Fo g14 (Eb [0] rfl (Eh (En (Ea (o_box rfl rfl rfl) (Ea (Ef rfl) (Ed (Ec (Eb [1] rfl (Eh (En (Ea (Ek rfl) ?_)))))))))))
 refine Ea (Eo rfl rfl rfl) (Ea (Fg rfl) (Ea (Ef rfl) (Ed (Ec (Eb [2] rfl (Ep (Eg rfl rfl ?_)))))))
 rotate_left
 all_goals
  rfl
theorem c_13 (b : Bus) : CV prg 13 [.rp b.r 0] (fun res => res = .sl 8 ((liveL b).map Beat.r)) := by
 refine Fo g13 (Eb [0] rfl (Eh (En (Ea (Ef rfl) (Ed (Ec (Eb [0] rfl (Eh (En (Ea (Ef rfl) (Ea (Fn rfl) ?_)))))))))))
 refine Ea (o_fa rfl) (Ea (o_ldn rfl rfl) (Ea (Ef rfl) (Ea (Fn rfl) (Ea (o_fa rfl) (Ea (o_ldn rfl rfl) (Ea (o_bs rfl rfl rfl rfl) (s_callG [0] rfl rfl rfl rfl (by simp) (.inl rfl) (cg_261 [b.addr, b.data] (by simp) 14 _ (fun y _ => c_14 y)) ?_)))))))
 rintro u L1 (⟨rfl, rfl, hany⟩ | ⟨rfl, rfl⟩)
 refine ⟨_, _, rfl, rfl, ?_⟩
 refine Ea (Ef rfl) (Ed (Ec (Eb [2] rfl (Ep ?_))))
 · refine ret_leafA (.inr rfl) rfl rfl (by simp) ?_
   first | (rw [liveL_none hany]; done) | (rw [liveL_none hany]; rfl) | (rw [← liveL_del]; done) | (rw [← liveL_del]; rfl)
 refine ⟨_, _, rfl, rfl, ?_⟩
 refine Ea (Ef rfl) (Ed (Ec (Eb [2] rfl (Ep ?_))))
 · refine ret_leafA (.inr rfl) rfl rfl (by simp) ?_
   first | (rw [liveL_none hany]; done) | (rw [liveL_none hany]; rfl) | (rw [← liveL_del]; done) | (rw [← liveL_del]; rfl)
def Beat.none : Beat := ⟨false, 0, 0, false, 0, 0, 0, false⟩
def flyOk (b : Bus) (x : Beat) : Bool := inB x.who 0 (b.ms.length - 1) && inB x.via 1 3 && decide (sAt b x.who = 0)
def ways (b : Bus) (i : Int) : Int := (if b.addr.live && decide (b.addr.who = i) then 1 else 0) + (if b.data.live && decide (b.data.who = i) then 1 else 0)
def wOkAt (b : Bus) (i : Nat) : Bool := decide (IntKind.wrap .i64 ((mAt b i).beat - (mAt b i).done) = ways b i)
def beatA (b : Bus) : Bool := if b.addr.live then flyOk b b.addr && decide (b.addr.num = IntKind.wrap .i64 ((mAt b b.addr.who).beat - 1)) && decide (b.addr.left = 0) && decide (b.addr.resp = 0) && !b.addr.second else decide (b.addr = Beat.none)
def beatD (b : Bus) : Bool := if b.data.live then flyOk b b.data && decide (b.data.num = (mAt b b.data.who).done) && inB b.data.left 0 (IntKind.wrap .i64 (b.conf.maxWait + 2)) && inB b.data.resp 0 3 && !(decide (b.data.resp = 2) && decide (b.conf.maxRetry ≤ (mAt b b.data.who).tries)) && !(decide (b.data.resp = 3) && ((mAt b b.data.who).parted || decide (b.data.who = b.holder))) && (!b.data.second || (decide (b.data.left = 0) && decide (b.data.resp ≠ 0) && !b.addr.live)) else decide (b.data = Beat.none)
def beatsB (b : Bus) : Bool := (List.range b.ms.length).all (wOkAt b) && beatD b && beatA b
def cntW (l : List Beat) (i : Nat) : Int := ((l.filter (fun x : Beat => decide (x.who = (i : Int)))).length : Int)
def fl (b : Bus) (j : Nat) : List (List V) := (List.range b.ms.length).map (fun i => iR (cntW ((liveL b).take j) i))
theorem fl_len (b : Bus) (j : Nat) : (fl b j).length = b.ms.length := by simp [fl]
theorem fl_zero (b : Bus) : List.replicate b.ms.length (iR 0) = fl b 0 := by
 unfold fl
 apply List.ext_getElem?
 intro i
 rw [List.getElem?_replicate, List.getElem?_map]
 by_cases h : i < b.ms.length
 · rw [if_pos h, List.getElem?_range h]; rfl
 · rw [if_neg h, List.getElem?_eq_none (by simp; omega)]; rfl
theorem fl_at (b : Bus) (j : Nat) {i : Nat} (h : i < b.ms.length) : (fl b j)[i]? = some (iR (cntW ((liveL b).take j) i)) := by
 unfold fl; rw [List.getElem?_map, List.getElem?_range h]; rfl
theorem fl_step {b : Bus} {j : Nat} {x : Beat} (h : (liveL b)[j]? = some x) (h0 : 0 ≤ x.who) (h1 : x.who < b.ms.length) : (fl b j).set x.who.toNat (iR (cntW ((liveL b).take j) x.who.toNat + 1)) = fl b (j + 1) := by
 apply List.ext_getElem?
 intro i
 rw [List.getElem?_set, fl_len]
 by_cases hi : i < b.ms.length
 · rw [fl_at b (j + 1) hi]
   by_cases e : x.who.toNat = i
   · rw [if_pos e, if_pos (by omega)]
     obtain ⟨k, hk⟩ : ∃ k : Nat, x.who = (k : Int) := ⟨x.who.toNat, by omega⟩
     have hik : i = k := by omega
     subst hik
     rw [e]
     unfold cntW
     rw [take_get h, List.filter_append]
     have : decide (x.who = (i : Int)) = true := by simp [hk]
     simp only [List.filter_cons, this, if_true, List.filter_nil, List.length_append, List.length_cons, List.length_nil, Int.natCast_add]
     rfl
   · rw [if_neg e, fl_at b j hi]
     unfold cntW
     rw [take_get h, List.filter_append]
     have : decide (x.who = (i : Int)) = false := by simp; omega
     simp [this]
 · rw [if_neg (by omega), List.getElem?_eq_none (by rw [fl_len]; omega), List.getElem?_eq_none (by rw [fl_len]; omega)]
theorem cnt_ways (b : Bus) (i : Nat) : cntW ((liveL b).take (liveL b).length) i = ways b i := by
 rw [List.take_length]
 unfold cntW liveL ways
 cases h1 : b.addr.live <;> cases h2 : b.data.live <;> by_cases h3 : b.addr.who = i <;> by_cases h4 : b.data.who = i <;> simp [h1, h2, h3, h4]
theorem cntW_le (b : Bus) (j i : Nat) : 0 ≤ cntW ((liveL b).take j) i ∧ cntW ((liveL b).take j) i ≤ 2 := by
 have h1 := List.length_filter_le (fun x : Beat => decide (x.who = (i : Int))) ((liveL b).take j)
 rw [List.length_take] at h1
 have := liveL_le b
 unfold cntW
 omega
theorem cntW_add {z : Int} (h : 0 ≤ z ∧ z ≤ 2) : -9223372036854775808 ≤ z + 1 ∧ z + 1 ≤ 9223372036854775807 := by omega
theorem fly_A {b : Bus} (h : (liveL b).all (flyOk b) = true) (hl : b.addr.live = true) : flyOk b b.addr = true :=
 List.all_eq_true.1 h _ (by simp [liveL, hl])
theorem fly_D {b : Bus} (h : (liveL b).all (flyOk b) = true) (hl : b.data.live = true) : flyOk b b.data = true :=
 List.all_eq_true.1 h _ (by simp [liveL, hl])
theorem fly_bd {b : Bus} {x : Beat} (h : flyOk b x = true) : 0 ≤ x.who ∧ x.who < b.ms.length := by
 simp only [flyOk, Bool.and_eq_true] at h
 have := Et h.1.1
 omega
theorem fly_no {b : Bus} {j : Nat} {x : Beat} (h : (liveL b)[j]? = some x) (hx : flyOk b x = false) : beatsB b = false := by
 have hm := List.mem_of_getElem? h
 simp only [liveL, List.mem_filter, List.mem_cons, List.not_mem_nil, or_false] at hm
 obtain ⟨h1, h2⟩ := hm
 unfold beatsB
 rcases h1 with rfl | rfl
 · have : beatA b = false := by unfold beatA; rw [if_pos h2, hx]; rfl
   rw [this, Bool.and_false]
 · have : beatD b = false := by unfold beatD; rw [if_pos h2, hx]; rfl
   rw [this, Bool.and_false, Bool.false_and]
theorem ways_no {b : Bus} {i : Nat} (hi : i < b.ms.length) (h : wOkAt b i = false) : beatsB b = false := by
 unfold beatsB; rw [rall_no hi h]; rfl
theorem beats_all {b : Bus} (h : (List.range b.ms.length).all (wOkAt b) = true) : beatsB b = (beatD b && beatA b) := by unfold beatsB; rw [h]; rfl
end Go.Proofs.YtoppcdecolponaaGreat.AL
