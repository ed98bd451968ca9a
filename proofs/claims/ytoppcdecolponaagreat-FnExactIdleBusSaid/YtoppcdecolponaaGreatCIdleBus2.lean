/- What functions do with plain data, each by the form of its code. Printed by program. -/
import Derived.Test.YtoppcdecolponaaGreatCIdleBus1
namespace Go.Proofs.YtoppcdecolponaaGreat.AL
open Go
set_option linter.unusedVariables false
set_option linter.unusedSimpArgs false
set_option maxRecDepth 4096
set_option maxHeartbeats 1000000 in
theorem c_2 (b : Bus) (hs : b.small) (he : b.even) : CV prg 2 [.rp b.r 0] (fun res => res = .w (.bool (beatsB b))) := by
 have hml : b.ms.length ≤ 1048576 := hs.2.1
 have hms := hs.2.2.1
 have he1 := he.ms
 have he3 := he.splits
 have hcl : b.conf.masters.length ≤ 1048576 := by omega
 have hll := liveL_le b
 refine Fo g2 (Eb [0] rfl (Eh (En (Ea (Ef rfl) (Ed (Ec (Eb [0] rfl (Eh (En (Ea (Ef rfl) (Ea (Fn rfl) ?_)))))))))))
 refine Ea (o_fa rfl) (Ea (o_ld rfl rfl) ?_)
 first | refine Ea (Fk rfl) ?_ | refine Ea (Fu rfl) ?_ | refine Ea (o_lenL rfl rfl (by simp [fl_len])) ?_ | refine Ea (o_lenN rfl) ?_
 refine Ea (o_mk rfl rfl rfl rfl (by simp [roomy]; omega) rfl) (Ea (Ef rfl) (Ed (Ec (Eb [0, 3] rfl (Eh (Eh (En (Ea (Ef rfl) (Ez rfl rfl (c_13 b) ?_)))))))))
 first | refine Ea (Fk rfl) ?_ | refine Ea (Fu rfl) ?_
 refine Ea (Ef rfl) (Ed (Ec (Eb [0, 3, 18, 19, 20] rfl (Fj (S_loop (ι := Nat) (fun j => j ≤ (liveL b).length ∧ ((liveL b).take j).all (flyOk b) = true) (fun j => [(20, .w (.int .i64 (j : Int)))]) (fun j => [.arr 1 (fl b j)]) (fun j => (liveL b).length - j) 1 0 (by simp) rfl (hasOf ⟨rfl, trivial⟩ (by rw [← fl_zero]; rfl)) rfl (fun _ _ => rfl) (fun _ _ => ⟨rfl, rfl⟩) ?_)))))
 intro j hj
 have hcn := cntW_le b j
 refine Eb [0, 3, 18, 19, 20] rfl (Eh (En (Ea (o_lss rfl rfl) (Ed (Ec (Eb [0, 3, 18, 19, 20, 21] rfl (Eh ?_)))))))
 first | refine Ey rfl ?_ ?_ | refine Ev rfl ?_ ?_
 intro h1
 try rw [nnp] at h1
 try have h1' := Et h1
 try have h1' := Beat.of_beq (y := Beat.none) h1
 try have h1' := Beat.no_beq (y := Beat.none) h1
 refine Fa (Ec (Eb [0, 3, 18, 19, 20] rfl (Eh (Fj (Eh (En (s_iaM rfl rfl (by first | omega | (simp; omega) | (have := fly_bd (fly_A hfly (by assumption)); omega) | (have := fly_bd (fly_D hfly (by assumption)); omega)) ?_)))))))
 intro y2 e2
 (try have e2m := mAt_of e2); (try have e2s := sAt_of e2); (try simp only [Int.toNat_natCast, Int.toNat_zero] at e2)
 refine Ea (o_ldn rfl rfl) (Ea (o_new rfl rfl) (Fx (o_stnC rfl rfl rfl rfl rfl rfl rfl) (Ed (Ec (Eb [0, 3, 5, 18, 19, 20] rfl (Eh (Eh (En (Ea (Ef rfl) (Ea (Fn rfl) (Ea (o_fa rfl) ?_)))))))))))
 refine Ea (o_ldn rfl rfl) (Ea (Ek rfl) (Ea (Eo rfl rfl rfl) ?_))
 first | refine Ez rfl rfl (c_91 b.conf _ hcl) ?_ | refine Ew rfl rfl (by simp) (c_91 b.conf _ hcl) rfl ?_
 refine Ea (Fg rfl) (Ea (Ef rfl) ?_)
 first | refine Fq rfl ?_ ?_ | refine Fr rfl ?_ ?_ | refine s_gNF rfl ?_ ?_ | refine Fe rfl ?_ ?_
 intro h3
 try rw [nnp] at h3
 try have h3' := Et h3
 try have h3' := Beat.of_beq (y := Beat.none) h3
 try have h3' := Beat.no_beq (y := Beat.none) h3
 refine Ea (Ek rfl) (Ei rfl (Ea (Eo rfl rfl rfl) (Ei rfl ?_)))
 first | refine Ez rfl rfl (c_103 ..) ?_ | refine Ew rfl rfl (by simp) (c_103 ..) rfl ?_
 refine Ei rfl (Ea (Fg rfl) (Ea (Ej rfl rfl) (Er (is := [0, 3, 5, 18, 19, 20, 33, 34, 35, 36, 37]) rfl (Ea (Ef rfl) ?_))))
 first | refine Fq rfl ?_ ?_ | refine Fr rfl ?_ ?_ | refine s_gNF rfl ?_ ?_ | refine Fe rfl ?_ ?_
 intro h4
 try rw [nnp] at h4
 try have h4' := Et h4
 try have h4' := Beat.of_beq (y := Beat.none) h4
 try have h4' := Beat.no_beq (y := Beat.none) h4
 refine Ea (Ef rfl) (Ei rfl (Ea (Fn rfl) (Ei rfl (Ea (o_fa rfl) (Ei rfl (Ea (o_ld rfl rfl) (Ei rfl (Ea (Ek rfl) (Ei rfl (Ea (Eo rfl rfl rfl) (Ei rfl ?_)))))))))))
 refine s_iaM rfl rfl (by first | omega | (simp; omega) | (have := fly_bd (fly_A hfly (by assumption)); omega) | (have := fly_bd (fly_D hfly (by assumption)); omega)) ?_
 intro y5 e5
 (try have e5m := mAt_of e5); (try have e5s := sAt_of e5); (try simp only [Int.toNat_natCast, Int.toNat_zero] at e5)
 refine Ei rfl (Ea (o_ld rfl rfl) (Ei rfl (Ea (o_neq rfl rfl) (Ea (Ej rfl rfl) (Ed (Ec (Eb [0, 3, 5, 18, 19, 20, 33, 34, 35, 36, 39, 40, 41, 42, 43, 44, 45, 46, 47, 48] rfl ?_)))))))
 first | refine Ey rfl ?_ ?_ | refine Ev rfl ?_ ?_
 intro h6
 try rw [nnp] at h6
 try have h6' := Et h6
 try have h6' := Beat.of_beq (y := Beat.none) h6
 try have h6' := Beat.no_beq (y := Beat.none) h6
 refine Eh (En (Ea (Ef rfl) (Ed (Ec (Eb [2] rfl (Ep (Eu (Fd (Eu (Fw (Fd ?_)))))))))))
 refine Eu (Eg rfl rfl ?_)
 rotate_left
 intro h6
 try rw [nnp] at h6
 try have h6' := Et h6
 try have h6' := Beat.of_beq (y := Beat.none) h6
 try have h6' := Beat.no_beq (y := Beat.none) h6
 refine Fa (Ec (Eb [0, 3, 5, 18, 19, 20, 33, 34, 35, 36, 39, 40, 41, 42, 43, 44, 45, 46, 47] rfl (En (Ea (Ef rfl) (Ea (Ek rfl) (Ea (Eo rfl rfl rfl) (Ea (o_iaL rfl rfl (by simp [fl_len]) rfl (by first | omega | (simp; omega) | (have := fly_bd (fly_A hfly (by assumption)); omega) | (have := fly_bd (fly_D hfly (by assumption)); omega))) (Ea (o_ldA rfl rfl (by simp [fl_len]) (by first | exact fl_at b j (by omega) | (rw [Int.toNat_natCast]; exact fl_at b (liveL b).length (by omega))) rfl) ?_))))))))
 first | refine Ea (Fs rfl rfl (by first | omega | exact cntW_add (hcn _))) ?_ | refine Ea (o_add rfl rfl) ?_
 refine Ea (o_iaL rfl rfl (by simp [fl_len]) rfl (by first | omega | (simp; omega) | (have := fly_bd (fly_A hfly (by assumption)); omega) | (have := fly_bd (fly_D hfly (by assumption)); omega))) (Fx (o_stA rfl rfl rfl rfl (by simp [fl_len]) (by first | exact fl_at b j (by omega) | (rw [Int.toNat_natCast]; exact fl_at b (liveL b).length (by omega))) rfl rfl) (Ed (q_blkN (Ec (Eb [0, 3, 18, 19, 20, 33, 34, 35, 36, 39, 40, 41, 42, 43, 44, 45, 46, 47] rfl (En ?_))))))
 first | refine Ea (Fs rfl rfl (by first | omega | exact cntW_add (hcn _))) ?_ | refine Ea (o_add rfl rfl) ?_
 refine Ea (Ef rfl) (Ed (q_loopN ?_))
 · refine ⟨j + 1, ⟨by omega, all_take (by assumption) hj.2 (by clear hs hj; simp_all [flyOk])⟩, by omega, hasOf ⟨rfl, trivial⟩ ?_⟩
   rw [← fl_step (by assumption) (by omega) (by omega)]; rfl
 intro h4
 try rw [nnp] at h4
 try have h4' := Et h4
 try have h4' := Beat.of_beq (y := Beat.none) h4
 try have h4' := Beat.no_beq (y := Beat.none) h4
 iterate 9 refine Ee rfl ?_
 refine Ea (Em rfl rfl) (Ed (Ec (Eb [0, 3, 5, 18, 19, 20, 33, 34, 35, 36, 39, 40, 41, 42, 43, 44, 45, 46, 47, 48] rfl (Fi rfl (Eh (En (Ea (Ef rfl) (Ed (Ec (Eb [2] rfl (Ep ?_)))))))))))
 refine Eu (Fd (Eu (Fw (Fd (Eu (Eg rfl rfl ?_))))))
 rotate_left
 intro h3
 try rw [nnp] at h3
 try have h3' := Et h3
 try have h3' := Beat.of_beq (y := Beat.none) h3
 try have h3' := Beat.no_beq (y := Beat.none) h3
 refine Ee rfl (Ee rfl (Ee rfl (Ee rfl (Ea (Em rfl rfl) (Er (is := [0, 3, 5, 18, 19, 20, 33, 34, 35, 36, 37]) rfl (Ea (Ef rfl) ?_))))))
 iterate 9 refine Ee rfl ?_
 refine Ea (Em rfl rfl) (Ed (Ec (Eb [0, 3, 5, 18, 19, 20, 33, 34, 35, 36, 39, 40, 41, 42, 43, 44, 45, 46, 47, 48] rfl (Fi rfl (Eh (En (Ea (Ef rfl) (Ed (Ec (Eb [2] rfl (Ep ?_)))))))))))
 refine Eu (Fd (Eu (Fw (Fd (Eu (Eg rfl rfl ?_))))))
 rotate_left
 intro h1
 try rw [nnp] at h1
 try have h1' := Et h1
 try have h1' := Beat.of_beq (y := Beat.none) h1
 try have h1' := Beat.no_beq (y := Beat.none) h1
 refine s_exit (q_seqX (q_loopX (q_blkH (Ec (Eb [0, 3] rfl (Eh (Eh (En (Ea (Ef rfl) (Ea (Fn rfl) (Ea (o_fa rfl) ?_)))))))))))
 refine Ea (o_ld rfl rfl) ?_
 first | refine Ea (Fk rfl) ?_ | refine Ea (Fu rfl) ?_ | refine Ea (o_lenL rfl rfl (by simp [fl_len])) ?_ | refine Ea (o_lenN rfl) ?_
 refine Ea (Ef rfl) (Ed (Ec (Eb [0, 3, 60, 61, 62] rfl (Fj ?_))))
 have hfly := all_end hj.2 (by omega)
 obtain rfl : j = (liveL b).length := by omega
 refine S_loop (ι := Nat) (fun i => i ≤ b.ms.length ∧ (List.range i).all (wOkAt b) = true) (fun i => [(62, .w (.int .i64 (i : Int)))]) (fun i => [.arr 1 (fl b (liveL b).length)]) (fun i => b.ms.length - i) 1 0 (by simp) rfl (hasOf ⟨rfl, trivial⟩ rfl) rfl (fun _ _ => rfl) (fun _ _ => ⟨rfl, rfl⟩) ?_
 intro i hi
 have hcw := cnt_ways b i
 refine Eb [0, 3, 60, 61, 62] rfl (Eh (En (Ea (o_lss rfl rfl) (Ed (Ec (Eb [0, 3, 60, 61, 62, 63] rfl (Eh ?_)))))))
 first | refine Ey rfl ?_ ?_ | refine Ev rfl ?_ ?_
 intro h9
 try rw [nnp] at h9
 try have h9' := Et h9
 try have h9' := Beat.of_beq (y := Beat.none) h9
 try have h9' := Beat.no_beq (y := Beat.none) h9
 refine Fa (Ec (Eb [0, 3, 60, 61, 62] rfl (Eh (Fj (Eh (En (Ea (Ef rfl) (s_iaM rfl rfl (by first | omega | (simp; omega) | (have := fly_bd (fly_A hfly (by assumption)); omega) | (have := fly_bd (fly_D hfly (by assumption)); omega)) ?_))))))))
 intro y10 e10
 (try have e10m := mAt_of e10); (try have e10s := sAt_of e10); (try simp only [Int.toNat_natCast, Int.toNat_zero] at e10)
 refine Ea (o_ldn rfl rfl) (Ea (o_new rfl rfl) (Ea (Ef rfl) (Fx (o_stnC rfl rfl rfl rfl rfl rfl rfl) (Ed (Ec (Eb [0, 3, 6, 7, 60, 61, 62] rfl (Eh (En (Ea (Ek rfl) (Ea (Eo rfl rfl rfl) (Ea (Ek rfl) ?_)))))))))))
 refine Ea (Eo rfl rfl rfl) ?_
 first | refine Ea (o_subn rfl rfl (by first | omega | exact cntW_add (hcn _))) ?_ | refine Ea (o_sub rfl rfl) ?_
 refine Ea (Ef rfl) (Ea (Ef rfl) (Ea (o_iaL rfl rfl (by simp [fl_len]) rfl (by first | omega | (simp; omega) | (have := fly_bd (fly_A hfly (by assumption)); omega) | (have := fly_bd (fly_D hfly (by assumption)); omega))) (Ea (o_ldA rfl rfl (by simp [fl_len]) (by first | exact fl_at b j (by omega) | (rw [Int.toNat_natCast]; exact fl_at b (liveL b).length (by omega))) rfl) (Ea (o_neq rfl rfl) (Ed (Ec (Eb [0, 3, 60, 61, 62, 76] rfl ?_)))))))
 first | refine Ey rfl ?_ ?_ | refine Ev rfl ?_ ?_
 intro h12
 try rw [nnp] at h12
 try have h12' := Et h12
 try have h12' := Beat.of_beq (y := Beat.none) h12
 try have h12' := Beat.no_beq (y := Beat.none) h12
 refine Eh (En (Ea (Ef rfl) (Ed (Ec (Eb [2] rfl (Ep (Fd (Eu (Fw (Fd (Eu ?_)))))))))))
 refine Eg rfl rfl ?_
 rotate_left
 intro h12
 try rw [nnp] at h12
 try have h12' := Et h12
 try have h12' := Beat.of_beq (y := Beat.none) h12
 try have h12' := Beat.no_beq (y := Beat.none) h12
 refine Fa (q_blkN (Ec (Eb [0, 3, 60, 61, 62] rfl (En ?_))))
 first | refine Ea (Fs rfl rfl (by first | omega | exact cntW_add (hcn _))) ?_ | refine Ea (o_add rfl rfl) ?_
 refine Ea (Ef rfl) (Ed (q_loopN ?_))
 · exact ⟨i + 1, ⟨by omega, rall_succ hi.2 (by clear hs hi hfly; simp_all [wOkAt])⟩, by omega, hasOf ⟨rfl, trivial⟩ rfl⟩
 intro h9
 try rw [nnp] at h9
 try have h9' := Et h9
 try have h9' := Beat.of_beq (y := Beat.none) h9
 try have h9' := Beat.no_beq (y := Beat.none) h9
 refine s_exit (q_seqX (q_loopX (q_blkH (Ec (Eb [0] rfl (Eh (Eh (En (Ea (Ef rfl) (Ea (Fn rfl) (Ea (o_fa rfl) ?_)))))))))))
 refine Ea (o_ldn rfl rfl) (Ea (o_new rfl rfl) (Fx (o_stnC rfl rfl rfl rfl rfl rfl rfl) (Ed (Ec (Eb [0, 8] rfl (Eh (En (Ea (Ek rfl) (Ea (Eo rfl rfl rfl) (Ea (Ef rfl) ?_))))))))))
 first | refine Ff rfl ?_ ?_ | refine Ft rfl ?_ ?_ | refine s_gNT rfl ?_ ?_ | refine Fe rfl ?_ ?_
 intro h13
 try rw [nnp] at h13
 try have h13' := Et h13
 try have h13' := Beat.of_beq (y := Beat.none) h13
 try have h13' := Beat.no_beq (y := Beat.none) h13
 refine Ea (Ek rfl) (Ei rfl (Ea (Eo rfl rfl rfl) (Ei rfl (Ea (Ef rfl) (Ei rfl (Ea (Fn rfl) (Ei rfl (Ea (o_fa rfl) (Ei rfl (Ea (o_ld rfl rfl) (Ei rfl ?_)))))))))))
 refine Ea (Ek rfl) (Ei rfl (Ea (Eo rfl rfl rfl) (Ei rfl (s_iaM rfl rfl (by first | omega | (simp; omega) | (have := fly_bd (fly_A hfly (by assumption)); omega) | (have := fly_bd (fly_D hfly (by assumption)); omega)) ?_))))
 intro y14 e14
 (try have e14m := mAt_of e14); (try have e14s := sAt_of e14); (try simp only [Int.toNat_natCast, Int.toNat_zero] at e14)
 refine Ei rfl (Ea (o_fa rfl) (Ei rfl (Ea (o_ld rfl rfl) (Er (is := [0, 8, 84, 86, 95]) rfl (Ei rfl ?_)))))
 first | refine Ea (o_subn rfl rfl (by first | omega | exact cntW_add (hcn _))) ?_ | refine Ea (o_sub rfl rfl) ?_
 refine Ei rfl (Ea (o_neq rfl rfl) (Ei rfl (Ea (Ef rfl) ?_)))
 first | refine Fq rfl ?_ ?_ | refine Fe rfl ?_ ?_
 intro h15
 try rw [nnp] at h15
 try have h15' := Et h15
 try have h15' := Beat.of_beq (y := Beat.none) h15
 try have h15' := Beat.no_beq (y := Beat.none) h15
 refine Ea (Ek rfl) (Ei rfl (Ea (Eo rfl rfl rfl) (Ei rfl (Ea (o_neq rfl rfl) (Ei rfl (Ea (Ej rfl rfl) (Ei rfl (Ea (Ef rfl) ?_))))))))
 first | refine Fq rfl ?_ ?_ | refine Fe rfl ?_ ?_
 intro h16
 try rw [nnp] at h16
 try have h16' := Et h16
 try have h16' := Beat.of_beq (y := Beat.none) h16
 try have h16' := Beat.no_beq (y := Beat.none) h16
 refine Ea (Ek rfl) (Ei rfl (Ea (Eo rfl rfl rfl) (Ei rfl (Ea (o_neq rfl rfl) (Ei rfl (Ea (Ej rfl rfl) (Ei rfl (Ea (Ef rfl) ?_))))))))
 first | refine Fq rfl ?_ ?_ | refine Fe rfl ?_ ?_
 intro h17
 try rw [nnp] at h17
 try have h17' := Et h17
 try have h17' := Beat.of_beq (y := Beat.none) h17
 try have h17' := Beat.no_beq (y := Beat.none) h17
 refine Ea (Ek rfl) (Er (is := [0, 8, 84, 108, 109]) rfl (Ei rfl (Ea (Eo rfl rfl rfl) (Ei rfl (Ea (Ej rfl rfl) (Ea (Em rfl rfl) (Ea (Ef rfl) ?_)))))))
 first | refine Fq rfl ?_ ?_ | refine Fr rfl ?_ ?_ | refine s_gNF rfl ?_ ?_ | refine Fe rfl ?_ ?_
 intro h18
 try rw [nnp] at h18
 try have h18' := Et h18
 try have h18' := Beat.of_beq (y := Beat.none) h18
 try have h18' := Beat.no_beq (y := Beat.none) h18
 refine Ea (Ek rfl) (Ei rfl (Ea (Eo rfl rfl rfl) (Ei rfl (Ea (Fg rfl) (Ei rfl (Ea (Ef rfl) ?_))))))
 first | refine Ff rfl ?_ ?_ | refine Ft rfl ?_ ?_ | refine s_gNT rfl ?_ ?_ | refine Fe rfl ?_ ?_
 intro h19
 try rw [nnp] at h19
 try have h19' := Et h19
 try have h19' := Beat.of_beq (y := Beat.none) h19
 try have h19' := Beat.no_beq (y := Beat.none) h19
 refine Ea (Fm rfl rfl rfl) (Ei rfl (Ea (o_bd rfl rfl) (Ei rfl (Ea (o_eqs rfl rfl rfl rfl rfl) (Ei rfl (Ea (Em rfl rfl) (Ea (Ej rfl rfl) (Ed (Ec (Eb [0, 122] rfl ?_))))))))))
 first | refine Fh rfl ?_ ?_ | refine Ev rfl ?_ ?_
 intro h20
 try rw [nnp] at h20
 try have h20' := Et h20
 try have h20' := Beat.of_beq (y := Beat.none) h20
 try have h20' := Beat.no_beq (y := Beat.none) h20
 refine Eh (En (Ea (Ef rfl) (Ed (Ec (Eb [2] rfl (Ep (Eu (Eg rfl rfl ?_))))))))
 rotate_left
 intro h20
 try rw [nnp] at h20
 try have h20' := Et h20
 try have h20' := Beat.of_beq (y := Beat.none) h20
 try have h20' := Beat.no_beq (y := Beat.none) h20
 refine Fa (Ec (Eb [0] rfl (Eh (En (Ea (Ef rfl) (Ea (Fn rfl) (Ea (o_fa rfl) (Ea (o_ldn rfl rfl) (Ea (o_new rfl rfl) (Fx (o_stnC rfl rfl rfl rfl rfl rfl rfl) (Ed ?_)))))))))))
 refine Ec (Eb [0, 9] rfl (Eh (Eh (En (Ea (Ek rfl) (Ea (Eo rfl rfl rfl) (Ea (Fg rfl) (Ed (Ec (Eb [0, 9, 129] rfl ?_))))))))))
 first | refine Ey rfl ?_ ?_ | refine Fp rfl ?_ ?_ | refine Fh rfl ?_ ?_ | refine Ev rfl ?_ ?_
 intro h21
 try rw [nnp] at h21
 try have h21' := Et h21
 try have h21' := Beat.of_beq (y := Beat.none) h21
 try have h21' := Beat.no_beq (y := Beat.none) h21
 refine Eh (En (Ea (Fm rfl rfl rfl) (Ea (o_bd rfl rfl) (Ea (o_eqs rfl rfl rfl rfl rfl) (Ea (Ef rfl) (Ed (Ec (Eb [2] rfl (Ep (Eu (Eg rfl rfl ?_)))))))))))
 rotate_left
 intro h21
 try rw [nnp] at h21
 try have h21' := Et h21
 try have h21' := Beat.of_beq (y := Beat.none) h21
 try have h21' := Beat.no_beq (y := Beat.none) h21
 refine Fa (Ec (Eb [0, 9] rfl (Eh (En (Ea (Ef rfl) (Ea (Fn rfl) (Ea (o_fa rfl) (Ea (o_ld rfl rfl) (Ea (Ek rfl) (Ea (Eo rfl rfl rfl) (s_iaM rfl rfl (by first | omega | (simp; omega) | (have := fly_bd (fly_A hfly (by assumption)); omega) | (have := fly_bd (fly_D hfly (by assumption)); omega)) ?_)))))))))))
 intro y22 e22
 (try have e22m := mAt_of e22); (try have e22s := sAt_of e22); (try simp only [Int.toNat_natCast, Int.toNat_zero] at e22)
 refine Ea (o_ldn rfl rfl) (Ea (o_new rfl rfl) (Fx (o_stnC rfl rfl rfl rfl rfl rfl rfl) (Ed (Ec (Eb [0, 9, 10] rfl (Eh (Fj (Eh (En (Ea (Ek rfl) (Ea (Eo rfl rfl rfl) ?_)))))))))))
 refine Ea (Ek rfl) (Ea (Eo rfl rfl rfl) (Ea (o_neq rfl rfl) (Ea (Ef rfl) ?_)))
 first | refine Fq rfl ?_ ?_ | refine Fe rfl ?_ ?_
 intro h23
 try rw [nnp] at h23
 try have h23' := Et h23
 try have h23' := Beat.of_beq (y := Beat.none) h23
 try have h23' := Beat.no_beq (y := Beat.none) h23
 refine Ea (Ek rfl) (Ei rfl (Ea (Eo rfl rfl rfl) (Ei rfl (Ea (Ef rfl) (Ei rfl (Ea (Fn rfl) (Ei rfl (Ea (o_fa rfl) (Ei rfl (Ea (o_fa rfl) (Ei rfl ?_)))))))))))
 refine Ea (o_ld rfl rfl) (Ei rfl ?_)
 first | refine Ea (Fs rfl rfl (by first | omega | exact cntW_add (hcn _))) ?_ | refine Ea (o_add rfl rfl) ?_
 refine Er (is := [0, 9, 10, 147, 149, 155]) rfl (Ei rfl ?_)
 first | refine Ez rfl rfl (c_103 ..) ?_ | refine Ew rfl rfl (by simp) (c_103 ..) rfl ?_
 refine Ei rfl (Ea (Fg rfl) (Ea (Ej rfl rfl) (Ea (Ef rfl) ?_)))
 first | refine Fq rfl ?_ ?_ | refine Fr rfl ?_ ?_ | refine s_gNF rfl ?_ ?_ | refine Fe rfl ?_ ?_
 intro h24
 try rw [nnp] at h24
 try have h24' := Et h24
 try have h24' := Beat.of_beq (y := Beat.none) h24
 try have h24' := Beat.no_beq (y := Beat.none) h24
 refine Ea (Ek rfl) (Ei rfl (Ea (Eo rfl rfl rfl) (Ei rfl ?_)))
 first | refine Ez rfl rfl (c_103 ..) ?_ | refine Ew rfl rfl (by simp) (c_103 ..) rfl ?_
 refine Ei rfl (Ea (Fg rfl) (Ea (Ej rfl rfl) (Ea (Ef rfl) (Ed (Ec (Eb [0, 9, 10, 141] rfl ?_))))))
 first | refine Ey rfl ?_ ?_ | refine Fp rfl ?_ ?_ | refine Fh rfl ?_ ?_ | refine Ev rfl ?_ ?_
 intro h25
 try rw [nnp] at h25
 try have h25' := Et h25
 try have h25' := Beat.of_beq (y := Beat.none) h25
 try have h25' := Beat.no_beq (y := Beat.none) h25
 refine Eh (En (Ea (Ef rfl) (Ed (Ec (Eb [2] rfl (Ep (Fd (Eu (Eg rfl rfl ?_)))))))))
 rotate_left
 intro h25
 try rw [nnp] at h25
 try have h25' := Et h25
 try have h25' := Beat.of_beq (y := Beat.none) h25
 try have h25' := Beat.no_beq (y := Beat.none) h25
 refine Eh (En (Ea (Ek rfl) (Ea (Eo rfl rfl rfl) (Ea (Fv rfl rfl) (Ea (Ef rfl) ?_)))))
 first | refine Ff rfl ?_ ?_ | refine Fe rfl ?_ ?_
 intro h26
 try rw [nnp] at h26
 try have h26' := Et h26
 try have h26' := Beat.of_beq (y := Beat.none) h26
 try have h26' := Beat.no_beq (y := Beat.none) h26
 refine Ea (Ek rfl) (Ei rfl (Ea (Eo rfl rfl rfl) (Ei rfl (Ea (Ef rfl) (Ei rfl (Ea (Fn rfl) (Ei rfl (Ea (o_fa rfl) (Ei rfl (Ea (o_fa rfl) (Ei rfl ?_)))))))))))
 refine Ea (o_ld rfl rfl) (Ei rfl (Ea (o_geq rfl rfl) (Ea (Em rfl rfl) (Ea (Ef rfl) (Ed (Ec (Eb [0, 9, 10, 165] rfl ?_)))))))
 first | refine Ey rfl ?_ ?_ | refine Ev rfl ?_ ?_
 intro h27
 try rw [nnp] at h27
 try have h27' := Et h27
 try have h27' := Beat.of_beq (y := Beat.none) h27
 try have h27' := Beat.no_beq (y := Beat.none) h27
 refine Eh (En (Ea (Ef rfl) (Ed (Ec (Eb [2] rfl (Ep (Fd (Eu (Eg rfl rfl ?_)))))))))
 rotate_left
 intro h27
 try rw [nnp] at h27
 try have h27' := Et h27
 try have h27' := Beat.of_beq (y := Beat.none) h27
 try have h27' := Beat.no_beq (y := Beat.none) h27
 refine Eh (En (Ea (Ek rfl) (Ea (Eo rfl rfl rfl) (Ea (Fv rfl rfl) (Ea (Ef rfl) ?_)))))
 first | refine Ff rfl ?_ ?_ | refine Fe rfl ?_ ?_
 intro h28
 try rw [nnp] at h28
 try have h28' := Et h28
 try have h28' := Beat.of_beq (y := Beat.none) h28
 try have h28' := Beat.no_beq (y := Beat.none) h28
 refine Ea (Ek rfl) (Ei rfl (Ea (Eo rfl rfl rfl) (Ei rfl (Ea (Ef rfl) ?_))))
 first | refine Fq rfl ?_ ?_ | refine Fr rfl ?_ ?_ | refine s_gNF rfl ?_ ?_ | refine Fe rfl ?_ ?_
 intro h29
 try rw [nnp] at h29
 try have h29' := Et h29
 try have h29' := Beat.of_beq (y := Beat.none) h29
 try have h29' := Beat.no_beq (y := Beat.none) h29
 refine Ea (Ek rfl) (Ei rfl (Ea (Eo rfl rfl rfl) (Ei rfl (Ea (Ef rfl) (Ei rfl (Ea (Fn rfl) (Ei rfl (Ea (o_fa rfl) (Ei rfl (Ea (o_ld rfl rfl) (Ei rfl ?_)))))))))))
 refine Ea (Fv rfl rfl) (Er (is := [0, 9, 183, 186, 193]) rfl (Ei rfl (Ea (Ej rfl rfl) (Ea (Em rfl rfl) (Ea (Ef rfl) (Ed (Ec (Eb [0, 9, 179] rfl ?_))))))))
 first | refine Ey rfl ?_ ?_ | refine Ev rfl ?_ ?_
 intro h30
 try rw [nnp] at h30
 try have h30' := Et h30
 try have h30' := Beat.of_beq (y := Beat.none) h30
 try have h30' := Beat.no_beq (y := Beat.none) h30
 refine Eh (En (Ea (Ef rfl) (Ed (Ec (Eb [2] rfl (Ep (Fd (Eu (Eg rfl rfl ?_)))))))))
 rotate_left
 intro h30
 try rw [nnp] at h30
 try have h30' := Et h30
 try have h30' := Beat.of_beq (y := Beat.none) h30
 try have h30' := Beat.no_beq (y := Beat.none) h30
 refine Fa (q_blkN (Ec (Eb [0, 9] rfl (Eh (En (Ea (Ek rfl) (Ea (Eo rfl rfl rfl) (Ea (Fg rfl) (Ea (Ef rfl) ?_)))))))))
 first | refine Fq rfl ?_ ?_ | refine Fr rfl ?_ ?_ | refine s_gNF rfl ?_ ?_ | refine Fe rfl ?_ ?_
 intro h31
 try rw [nnp] at h31
 try have h31' := Et h31
 try have h31' := Beat.of_beq (y := Beat.none) h31
 try have h31' := Beat.no_beq (y := Beat.none) h31
 refine Ea (Ek rfl) (Ei rfl (Ea (Eo rfl rfl rfl) (Ei rfl (Ea (Fv rfl rfl) (Ei rfl (Ea (Ef rfl) ?_))))))
 first | refine Ff rfl ?_ ?_ | refine Fe rfl ?_ ?_
 intro h32
 try rw [nnp] at h32
 try have h32' := Et h32
 try have h32' := Beat.of_beq (y := Beat.none) h32
 try have h32' := Beat.no_beq (y := Beat.none) h32
 refine Ea (Ek rfl) (Ei rfl (Ea (Eo rfl rfl rfl) (Ei rfl (Ea (o_neq rfl rfl) (Ei rfl (Ea (Em rfl rfl) (Ei rfl (Ea (Ef rfl) ?_))))))))
 first | refine Ff rfl ?_ ?_ | refine Fe rfl ?_ ?_
 intro h33
 try rw [nnp] at h33
 try have h33' := Et h33
 try have h33' := Beat.of_beq (y := Beat.none) h33
 try have h33' := Beat.no_beq (y := Beat.none) h33
 refine Ea (Ef rfl) (Er (is := [199, 208, 209]) rfl (Ei rfl (Ea (Fn rfl) (Ei rfl (Ea (o_fa rfl) (Ei rfl (Ea (o_fa rfl) (Ei rfl (Ea (o_ld rfl rfl) (Ei rfl (Ea (Fg rfl) ?_)))))))))))
 refine Ei rfl (Ea (Em rfl rfl) (Ea (Ej rfl rfl) (Ea (Ef rfl) (Ed (Ec (Eb [2] rfl (Ep (Eg rfl rfl ?_))))))))
 rotate_left
 intro h33
 try rw [nnp] at h33
 try have h33' := Et h33
 try have h33' := Beat.of_beq (y := Beat.none) h33
 try have h33' := Beat.no_beq (y := Beat.none) h33
 refine Ee rfl (Er (is := [199, 208, 209]) rfl (Ee rfl (Ee rfl (Ee rfl (Ee rfl (Ee rfl (Ei rfl (Ea (Ej rfl rfl) (Ea (Ej rfl rfl) (Ea (Ef rfl) (Ed ?_)))))))))))
 refine Ec (Eb [2] rfl (Ep (Eg rfl rfl ?_)))
 rotate_left
 intro h32
 try rw [nnp] at h32
 try have h32' := Et h32
 try have h32' := Beat.of_beq (y := Beat.none) h32
 try have h32' := Beat.no_beq (y := Beat.none) h32
 refine Ee rfl (Ee rfl (Ee rfl (Ei rfl (Ea (Ej rfl rfl) (Ei rfl (Ea (Ef rfl) (Ee rfl (Er (is := [199, 208, 209]) rfl (Ee rfl (Ee rfl (Ee rfl ?_)))))))))))
 refine Ee rfl (Ee rfl (Ei rfl (Ea (Ej rfl rfl) (Ea (Ej rfl rfl) (Ea (Ef rfl) (Ed (Ec (Eb [2] rfl (Ep (Eg rfl rfl ?_))))))))))
 rotate_left
 intro h31
 try rw [nnp] at h31
 try have h31' := Et h31
 try have h31' := Beat.of_beq (y := Beat.none) h31
 try have h31' := Beat.no_beq (y := Beat.none) h31
 refine Ee rfl (Ee rfl (Ee rfl (Ee rfl (Fb rfl (Fb rfl (Fb rfl (Ee rfl (Ee rfl (Fb rfl (Er (is := [199, 208, 209]) rfl (Fb rfl ?_)))))))))))
 refine Fb rfl (Fb rfl (Fb rfl (Fb rfl (Ee rfl (Ea (Em rfl rfl) (Ea (Ef rfl) (Ed (Ec (Eb [2] rfl (Ep (Eg rfl rfl ?_)))))))))))
 rotate_left
 intro h29
 try rw [nnp] at h29
 try have h29' := Et h29
 try have h29' := Beat.of_beq (y := Beat.none) h29
 try have h29' := Beat.no_beq (y := Beat.none) h29
 iterate 7 refine Ee rfl ?_
 refine Er (is := [0, 9, 183, 186, 193]) rfl (Ei rfl (Ea (Em rfl rfl) (Ea (Em rfl rfl) (Ea (Ef rfl) (Ed (Ec (Eb [0, 9, 179] rfl (Fi rfl (Eh (En (Ea (Ef rfl) ?_)))))))))))
 refine Ed (Ec (Eb [2] rfl (Ep (Fd (Eu (Eg rfl rfl ?_))))))
 rotate_left
 intro h28
 try rw [nnp] at h28
 try have h28' := Et h28
 try have h28' := Beat.of_beq (y := Beat.none) h28
 try have h28' := Beat.no_beq (y := Beat.none) h28
 refine Ee rfl (Ee rfl (Ee rfl ?_))
 iterate 7 refine Fb rfl ?_
 refine Er (is := [0, 9, 183, 186, 193]) rfl (Ee rfl (Ea (Ej rfl rfl) (Ea (Ef rfl) (Ed (Ec (Eb [0, 9, 179] rfl (s_condF rfl (Fa (q_blkN (Ec (Eb [0, 9] rfl ?_)))))))))))
 refine Eh (En (Ea (Ek rfl) (Ea (Eo rfl rfl rfl) (Ea (Fg rfl) (Ea (Ef rfl) ?_)))))
 first | refine Fq rfl ?_ ?_ | refine Fr rfl ?_ ?_ | refine s_gNF rfl ?_ ?_ | refine Fe rfl ?_ ?_
 intro h34
 try rw [nnp] at h34
 try have h34' := Et h34
 try have h34' := Beat.of_beq (y := Beat.none) h34
 try have h34' := Beat.no_beq (y := Beat.none) h34
 refine Ea (Ek rfl) (Ei rfl (Ea (Eo rfl rfl rfl) (Ei rfl (Ea (Fv rfl rfl) (Ei rfl (Ea (Ef rfl) ?_))))))
 first | refine Ff rfl ?_ ?_ | refine Fe rfl ?_ ?_
 intro h35
 try rw [nnp] at h35
 try have h35' := Et h35
 try have h35' := Beat.of_beq (y := Beat.none) h35
 try have h35' := Beat.no_beq (y := Beat.none) h35
 refine Ea (Ek rfl) (Ei rfl (Ea (Eo rfl rfl rfl) (Ei rfl (Ea (o_neq rfl rfl) (Ei rfl (Ea (Em rfl rfl) (Ei rfl (Ea (Ef rfl) ?_))))))))
 first | refine Ff rfl ?_ ?_ | refine Fe rfl ?_ ?_
 intro h36
 try rw [nnp] at h36
 try have h36' := Et h36
 try have h36' := Beat.of_beq (y := Beat.none) h36
 try have h36' := Beat.no_beq (y := Beat.none) h36
 refine Ea (Ef rfl) (Er (is := [199, 208, 209]) rfl (Ei rfl (Ea (Fn rfl) (Ei rfl (Ea (o_fa rfl) (Ei rfl (Ea (o_fa rfl) (Ei rfl (Ea (o_ld rfl rfl) (Ei rfl (Ea (Fg rfl) ?_)))))))))))
 refine Ei rfl (Ea (Em rfl rfl) (Ea (Ej rfl rfl) (Ea (Ef rfl) (Ed (Ec (Eb [2] rfl (Ep (Eg rfl rfl ?_))))))))
 rotate_left
 intro h36
 try rw [nnp] at h36
 try have h36' := Et h36
 try have h36' := Beat.of_beq (y := Beat.none) h36
 try have h36' := Beat.no_beq (y := Beat.none) h36
 refine Ee rfl (Er (is := [199, 208, 209]) rfl (Ee rfl (Ee rfl (Ee rfl (Ee rfl (Ee rfl (Ei rfl (Ea (Ej rfl rfl) (Ea (Ej rfl rfl) (Ea (Ef rfl) (Ed ?_)))))))))))
 refine Ec (Eb [2] rfl (Ep (Eg rfl rfl ?_)))
 rotate_left
 intro h35
 try rw [nnp] at h35
 try have h35' := Et h35
 try have h35' := Beat.of_beq (y := Beat.none) h35
 try have h35' := Beat.no_beq (y := Beat.none) h35
 refine Ee rfl (Ee rfl (Ee rfl (Ei rfl (Ea (Ej rfl rfl) (Ei rfl (Ea (Ef rfl) (Ee rfl (Er (is := [199, 208, 209]) rfl (Ee rfl (Ee rfl (Ee rfl ?_)))))))))))
 refine Ee rfl (Ee rfl (Ei rfl (Ea (Ej rfl rfl) (Ea (Ej rfl rfl) (Ea (Ef rfl) (Ed (Ec (Eb [2] rfl (Ep (Eg rfl rfl ?_))))))))))
 rotate_left
 intro h34
 try rw [nnp] at h34
 try have h34' := Et h34
 try have h34' := Beat.of_beq (y := Beat.none) h34
 try have h34' := Beat.no_beq (y := Beat.none) h34
 refine Ee rfl (Ee rfl (Ee rfl (Ee rfl (Fb rfl (Fb rfl (Fb rfl (Ee rfl (Ee rfl (Fb rfl (Er (is := [199, 208, 209]) rfl (Fb rfl ?_)))))))))))
 refine Fb rfl (Fb rfl (Fb rfl (Fb rfl (Ee rfl (Ea (Em rfl rfl) (Ea (Ef rfl) (Ed (Ec (Eb [2] rfl (Ep (Eg rfl rfl ?_)))))))))))
 rotate_left
 intro h26
 try rw [nnp] at h26
 try have h26' := Et h26
 try have h26' := Beat.of_beq (y := Beat.none) h26
 try have h26' := Beat.no_beq (y := Beat.none) h26
 iterate 8 refine Ee rfl ?_
 refine Ea (Ej rfl rfl) (Ea (Ef rfl) (Ed (Ec (Eb [0, 9, 10, 165] rfl (s_condF rfl (Eh (En (Ea (Ek rfl) (Ea (Eo rfl rfl rfl) (Ea (Fv rfl rfl) (Ea (Ef rfl) ?_)))))))))))
 first | refine Ff rfl ?_ ?_ | refine Fe rfl ?_ ?_
 intro h37
 try rw [nnp] at h37
 try have h37' := Et h37
 try have h37' := Beat.of_beq (y := Beat.none) h37
 try have h37' := Beat.no_beq (y := Beat.none) h37
 refine Ea (Ek rfl) (Ei rfl (Ea (Eo rfl rfl rfl) (Ei rfl (Ea (Ef rfl) ?_))))
 first | refine Fq rfl ?_ ?_ | refine Fr rfl ?_ ?_ | refine s_gNF rfl ?_ ?_ | refine Fe rfl ?_ ?_
 intro h38
 try rw [nnp] at h38
 try have h38' := Et h38
 try have h38' := Beat.of_beq (y := Beat.none) h38
 try have h38' := Beat.no_beq (y := Beat.none) h38
 refine Ea (Ek rfl) (Ei rfl (Ea (Eo rfl rfl rfl) (Ei rfl (Ea (Ef rfl) (Ei rfl (Ea (Fn rfl) (Ei rfl (Ea (o_fa rfl) (Ei rfl (Ea (o_ld rfl rfl) (Ei rfl ?_)))))))))))
 refine Ea (Fv rfl rfl) (Er (is := [0, 9, 183, 186, 193]) rfl (Ei rfl (Ea (Ej rfl rfl) (Ea (Em rfl rfl) (Ea (Ef rfl) (Ed (Ec (Eb [0, 9, 179] rfl ?_))))))))
 first | refine Ey rfl ?_ ?_ | refine Ev rfl ?_ ?_
 intro h39
 try rw [nnp] at h39
 try have h39' := Et h39
 try have h39' := Beat.of_beq (y := Beat.none) h39
 try have h39' := Beat.no_beq (y := Beat.none) h39
 refine Eh (En (Ea (Ef rfl) (Ed (Ec (Eb [2] rfl (Ep (Fd (Eu (Eg rfl rfl ?_)))))))))
 rotate_left
 intro h39
 try rw [nnp] at h39
 try have h39' := Et h39
 try have h39' := Beat.of_beq (y := Beat.none) h39
 try have h39' := Beat.no_beq (y := Beat.none) h39
 refine Fa (q_blkN (Ec (Eb [0, 9] rfl (Eh (En (Ea (Ek rfl) (Ea (Eo rfl rfl rfl) (Ea (Fg rfl) (Ea (Ef rfl) ?_)))))))))
 first | refine Fq rfl ?_ ?_ | refine Fr rfl ?_ ?_ | refine s_gNF rfl ?_ ?_ | refine Fe rfl ?_ ?_
 intro h40
 try rw [nnp] at h40
 try have h40' := Et h40
 try have h40' := Beat.of_beq (y := Beat.none) h40
 try have h40' := Beat.no_beq (y := Beat.none) h40
 refine Ea (Ek rfl) (Ei rfl (Ea (Eo rfl rfl rfl) (Ei rfl (Ea (Fv rfl rfl) (Ei rfl (Ea (Ef rfl) ?_))))))
 first | refine Ff rfl ?_ ?_ | refine Fe rfl ?_ ?_
 intro h41
 try rw [nnp] at h41
 try have h41' := Et h41
 try have h41' := Beat.of_beq (y := Beat.none) h41
 try have h41' := Beat.no_beq (y := Beat.none) h41
 refine Ea (Ek rfl) (Ei rfl (Ea (Eo rfl rfl rfl) (Ei rfl (Ea (o_neq rfl rfl) (Ei rfl (Ea (Em rfl rfl) (Ei rfl (Ea (Ef rfl) ?_))))))))
 first | refine Ff rfl ?_ ?_ | refine Fe rfl ?_ ?_
 intro h42
 try rw [nnp] at h42
 try have h42' := Et h42
 try have h42' := Beat.of_beq (y := Beat.none) h42
 try have h42' := Beat.no_beq (y := Beat.none) h42
 refine Ea (Ef rfl) (Er (is := [199, 208, 209]) rfl (Ei rfl (Ea (Fn rfl) (Ei rfl (Ea (o_fa rfl) (Ei rfl (Ea (o_fa rfl) (Ei rfl (Ea (o_ld rfl rfl) (Ei rfl (Ea (Fg rfl) ?_)))))))))))
 refine Ei rfl (Ea (Em rfl rfl) (Ea (Ej rfl rfl) (Ea (Ef rfl) (Ed (Ec (Eb [2] rfl (Ep (Eg rfl rfl ?_))))))))
 rotate_left
 intro h42
 try rw [nnp] at h42
 try have h42' := Et h42
 try have h42' := Beat.of_beq (y := Beat.none) h42
 try have h42' := Beat.no_beq (y := Beat.none) h42
 refine Ee rfl (Er (is := [199, 208, 209]) rfl (Ee rfl (Ee rfl (Ee rfl (Ee rfl (Ee rfl (Ei rfl (Ea (Ej rfl rfl) (Ea (Ej rfl rfl) (Ea (Ef rfl) (Ed ?_)))))))))))
 refine Ec (Eb [2] rfl (Ep (Eg rfl rfl ?_)))
 rotate_left
 intro h41
 try rw [nnp] at h41
 try have h41' := Et h41
 try have h41' := Beat.of_beq (y := Beat.none) h41
 try have h41' := Beat.no_beq (y := Beat.none) h41
 refine Ee rfl (Ee rfl (Ee rfl (Ei rfl (Ea (Ej rfl rfl) (Ei rfl (Ea (Ef rfl) (Ee rfl (Er (is := [199, 208, 209]) rfl (Ee rfl (Ee rfl (Ee rfl ?_)))))))))))
 refine Ee rfl (Ee rfl (Ei rfl (Ea (Ej rfl rfl) (Ea (Ej rfl rfl) (Ea (Ef rfl) (Ed (Ec (Eb [2] rfl (Ep (Eg rfl rfl ?_))))))))))
 rotate_left
 intro h40
 try rw [nnp] at h40
 try have h40' := Et h40
 try have h40' := Beat.of_beq (y := Beat.none) h40
 try have h40' := Beat.no_beq (y := Beat.none) h40
 refine Ee rfl (Ee rfl (Ee rfl (Ee rfl (Fb rfl (Fb rfl (Fb rfl (Ee rfl (Ee rfl (Fb rfl (Er (is := [199, 208, 209]) rfl (Fb rfl ?_)))))))))))
 refine Fb rfl (Fb rfl (Fb rfl (Fb rfl (Ee rfl (Ea (Em rfl rfl) (Ea (Ef rfl) (Ed (Ec (Eb [2] rfl (Ep (Eg rfl rfl ?_)))))))))))
 rotate_left
 intro h38
 try rw [nnp] at h38
 try have h38' := Et h38
 try have h38' := Beat.of_beq (y := Beat.none) h38
 try have h38' := Beat.no_beq (y := Beat.none) h38
 iterate 7 refine Ee rfl ?_
 refine Er (is := [0, 9, 183, 186, 193]) rfl (Ei rfl (Ea (Em rfl rfl) (Ea (Em rfl rfl) (Ea (Ef rfl) (Ed (Ec (Eb [0, 9, 179] rfl (Fi rfl (Eh (En (Ea (Ef rfl) ?_)))))))))))
 refine Ed (Ec (Eb [2] rfl (Ep (Fd (Eu (Eg rfl rfl ?_))))))
 rotate_left
 intro h37
 try rw [nnp] at h37
 try have h37' := Et h37
 try have h37' := Beat.of_beq (y := Beat.none) h37
 try have h37' := Beat.no_beq (y := Beat.none) h37
 refine Ee rfl (Ee rfl (Ee rfl ?_))
 iterate 7 refine Fb rfl ?_
 refine Er (is := [0, 9, 183, 186, 193]) rfl (Ee rfl (Ea (Ej rfl rfl) (Ea (Ef rfl) (Ed (Ec (Eb [0, 9, 179] rfl (s_condF rfl (Fa (q_blkN (Ec (Eb [0, 9] rfl ?_)))))))))))
 refine Eh (En (Ea (Ek rfl) (Ea (Eo rfl rfl rfl) (Ea (Fg rfl) (Ea (Ef rfl) ?_)))))
 first | refine Fq rfl ?_ ?_ | refine Fr rfl ?_ ?_ | refine s_gNF rfl ?_ ?_ | refine Fe rfl ?_ ?_
 intro h43
 try rw [nnp] at h43
 try have h43' := Et h43
 try have h43' := Beat.of_beq (y := Beat.none) h43
 try have h43' := Beat.no_beq (y := Beat.none) h43
 refine Ea (Ek rfl) (Ei rfl (Ea (Eo rfl rfl rfl) (Ei rfl (Ea (Fv rfl rfl) (Ei rfl (Ea (Ef rfl) ?_))))))
 first | refine Ff rfl ?_ ?_ | refine Fe rfl ?_ ?_
 intro h44
 try rw [nnp] at h44
 try have h44' := Et h44
 try have h44' := Beat.of_beq (y := Beat.none) h44
 try have h44' := Beat.no_beq (y := Beat.none) h44
 refine Ea (Ek rfl) (Ei rfl (Ea (Eo rfl rfl rfl) (Ei rfl (Ea (o_neq rfl rfl) (Ei rfl (Ea (Em rfl rfl) (Ei rfl (Ea (Ef rfl) ?_))))))))
 first | refine Ff rfl ?_ ?_ | refine Fe rfl ?_ ?_
 intro h45
 try rw [nnp] at h45
 try have h45' := Et h45
 try have h45' := Beat.of_beq (y := Beat.none) h45
 try have h45' := Beat.no_beq (y := Beat.none) h45
 refine Ea (Ef rfl) (Er (is := [199, 208, 209]) rfl (Ei rfl (Ea (Fn rfl) (Ei rfl (Ea (o_fa rfl) (Ei rfl (Ea (o_fa rfl) (Ei rfl (Ea (o_ld rfl rfl) (Ei rfl (Ea (Fg rfl) ?_)))))))))))
 refine Ei rfl (Ea (Em rfl rfl) (Ea (Ej rfl rfl) (Ea (Ef rfl) (Ed (Ec (Eb [2] rfl (Ep (Eg rfl rfl ?_))))))))
 rotate_left
 intro h45
 try rw [nnp] at h45
 try have h45' := Et h45
 try have h45' := Beat.of_beq (y := Beat.none) h45
 try have h45' := Beat.no_beq (y := Beat.none) h45
 refine Ee rfl (Er (is := [199, 208, 209]) rfl (Ee rfl (Ee rfl (Ee rfl (Ee rfl (Ee rfl (Ei rfl (Ea (Ej rfl rfl) (Ea (Ej rfl rfl) (Ea (Ef rfl) (Ed ?_)))))))))))
 refine Ec (Eb [2] rfl (Ep (Eg rfl rfl ?_)))
 rotate_left
 intro h44
 try rw [nnp] at h44
 try have h44' := Et h44
 try have h44' := Beat.of_beq (y := Beat.none) h44
 try have h44' := Beat.no_beq (y := Beat.none) h44
 refine Ee rfl (Ee rfl (Ee rfl (Ei rfl (Ea (Ej rfl rfl) (Ei rfl (Ea (Ef rfl) (Ee rfl (Er (is := [199, 208, 209]) rfl (Ee rfl (Ee rfl (Ee rfl ?_)))))))))))
 refine Ee rfl (Ee rfl (Ei rfl (Ea (Ej rfl rfl) (Ea (Ej rfl rfl) (Ea (Ef rfl) (Ed (Ec (Eb [2] rfl (Ep (Eg rfl rfl ?_))))))))))
 rotate_left
 intro h43
 try rw [nnp] at h43
 try have h43' := Et h43
 try have h43' := Beat.of_beq (y := Beat.none) h43
 try have h43' := Beat.no_beq (y := Beat.none) h43
 refine Ee rfl (Ee rfl (Ee rfl (Ee rfl (Fb rfl (Fb rfl (Fb rfl (Ee rfl (Ee rfl (Fb rfl (Er (is := [199, 208, 209]) rfl (Fb rfl ?_)))))))))))
 refine Fb rfl (Fb rfl (Fb rfl (Fb rfl (Ee rfl (Ea (Em rfl rfl) (Ea (Ef rfl) (Ed (Ec (Eb [2] rfl (Ep (Eg rfl rfl ?_)))))))))))
 rotate_left
 intro h24
 try rw [nnp] at h24
 try have h24' := Et h24
 try have h24' := Beat.of_beq (y := Beat.none) h24
 try have h24' := Beat.no_beq (y := Beat.none) h24
 refine Ee rfl (Ee rfl (Ee rfl (Ee rfl (Ea (Em rfl rfl) (Ea (Ef rfl) (Ed (Ec (Eb [0, 9, 10, 141] rfl (Fi rfl (Eh (En ?_)))))))))))
 refine Ea (Ef rfl) (Ed (Ec (Eb [2] rfl (Ep (Fd (Eu (Eg rfl rfl ?_)))))))
 rotate_left
 intro h23
 try rw [nnp] at h23
 try have h23' := Et h23
 try have h23' := Beat.of_beq (y := Beat.none) h23
 try have h23' := Beat.no_beq (y := Beat.none) h23
 iterate 8 refine Ee rfl ?_
 refine Er (is := [0, 9, 10, 147, 149, 155]) rfl (Ee rfl (Ee rfl (Ea (Em rfl rfl) (Ea (Ef rfl) (Ee rfl (Ee rfl (Ee rfl (Ee rfl (Ea (Em rfl rfl) (Ea (Ef rfl) (Ed ?_)))))))))))
 refine Ec (Eb [0, 9, 10, 141] rfl (Fi rfl (Eh (En (Ea (Ef rfl) (Ed (Ec (Eb [2] rfl (Ep (Fd (Eu ?_)))))))))))
 refine Eg rfl rfl ?_
 rotate_left
 intro h19
 try rw [nnp] at h19
 try have h19' := Et h19
 try have h19' := Beat.of_beq (y := Beat.none) h19
 try have h19' := Beat.no_beq (y := Beat.none) h19
 refine Ee rfl (Ee rfl (Ee rfl (Ei rfl (Ea (Ej rfl rfl) (Ea (Ej rfl rfl) (Ed (Ec (Eb [0, 122] rfl (s_condF rfl (Fa (Ec ?_)))))))))))
 refine Eb [0] rfl (Eh (En (Ea (Ef rfl) (Ea (Fn rfl) (Ea (o_fa rfl) (Ea (o_ldn rfl rfl) (Ea (o_new rfl rfl) (Fx (o_stnC rfl rfl rfl rfl rfl rfl rfl) (Ed (Ec (Eb [0, 9] rfl ?_)))))))))))
 refine Eh (Eh (En (Ea (Ek rfl) (Ea (Eo rfl rfl rfl) (Ea (Fg rfl) (Ed (Ec (Eb [0, 9, 129] rfl ?_))))))))
 first | refine Ey rfl ?_ ?_ | refine Fp rfl ?_ ?_ | refine Fh rfl ?_ ?_ | refine Ev rfl ?_ ?_
 intro h46
 try rw [nnp] at h46
 try have h46' := Et h46
 try have h46' := Beat.of_beq (y := Beat.none) h46
 try have h46' := Beat.no_beq (y := Beat.none) h46
 refine Eh (En (Ea (Fm rfl rfl rfl) (Ea (o_bd rfl rfl) (Ea (o_eqs rfl rfl rfl rfl rfl) (Ea (Ef rfl) (Ed (Ec (Eb [2] rfl (Ep (Eu (Eg rfl rfl ?_)))))))))))
 rotate_left
 intro h46
 try rw [nnp] at h46
 try have h46' := Et h46
 try have h46' := Beat.of_beq (y := Beat.none) h46
 try have h46' := Beat.no_beq (y := Beat.none) h46
 refine Fa (Ec (Eb [0, 9] rfl (Eh (En (Ea (Ef rfl) (Ea (Fn rfl) (Ea (o_fa rfl) (Ea (o_ld rfl rfl) (Ea (Ek rfl) (Ea (Eo rfl rfl rfl) (s_iaM rfl rfl (by first | omega | (simp; omega) | (have := fly_bd (fly_A hfly (by assumption)); omega) | (have := fly_bd (fly_D hfly (by assumption)); omega)) ?_)))))))))))
 intro y47 e47
 (try have e47m := mAt_of e47); (try have e47s := sAt_of e47); (try simp only [Int.toNat_natCast, Int.toNat_zero] at e47)
 refine Ea (o_ldn rfl rfl) (Ea (o_new rfl rfl) (Fx (o_stnC rfl rfl rfl rfl rfl rfl rfl) (Ed (Ec (Eb [0, 9, 10] rfl (Eh (Fj (Eh (En (Ea (Ek rfl) (Ea (Eo rfl rfl rfl) ?_)))))))))))
 refine Ea (Ek rfl) (Ea (Eo rfl rfl rfl) (Ea (o_neq rfl rfl) (Ea (Ef rfl) ?_)))
 first | refine Fq rfl ?_ ?_ | refine Fe rfl ?_ ?_
 intro h48
 try rw [nnp] at h48
 try have h48' := Et h48
 try have h48' := Beat.of_beq (y := Beat.none) h48
 try have h48' := Beat.no_beq (y := Beat.none) h48
 refine Ea (Ek rfl) (Ei rfl (Ea (Eo rfl rfl rfl) (Ei rfl (Ea (Ef rfl) (Ei rfl (Ea (Fn rfl) (Ei rfl (Ea (o_fa rfl) (Ei rfl (Ea (o_fa rfl) (Ei rfl ?_)))))))))))
 refine Ea (o_ld rfl rfl) (Ei rfl ?_)
 first | refine Ea (Fs rfl rfl (by first | omega | exact cntW_add (hcn _))) ?_ | refine Ea (o_add rfl rfl) ?_
 refine Er (is := [0, 9, 10, 147, 149, 155]) rfl (Ei rfl ?_)
 first | refine Ez rfl rfl (c_103 ..) ?_ | refine Ew rfl rfl (by simp) (c_103 ..) rfl ?_
 refine Ei rfl (Ea (Fg rfl) (Ea (Ej rfl rfl) (Ea (Ef rfl) ?_)))
 first | refine Fq rfl ?_ ?_ | refine Fr rfl ?_ ?_ | refine s_gNF rfl ?_ ?_ | refine Fe rfl ?_ ?_
 intro h49
 try rw [nnp] at h49
 try have h49' := Et h49
 try have h49' := Beat.of_beq (y := Beat.none) h49
 try have h49' := Beat.no_beq (y := Beat.none) h49
 refine Ea (Ek rfl) (Ei rfl (Ea (Eo rfl rfl rfl) (Ei rfl ?_)))
 first | refine Ez rfl rfl (c_103 ..) ?_ | refine Ew rfl rfl (by simp) (c_103 ..) rfl ?_
 refine Ei rfl (Ea (Fg rfl) (Ea (Ej rfl rfl) (Ea (Ef rfl) (Ed (Ec (Eb [0, 9, 10, 141] rfl ?_))))))
 first | refine Ey rfl ?_ ?_ | refine Fp rfl ?_ ?_ | refine Fh rfl ?_ ?_ | refine Ev rfl ?_ ?_
 intro h50
 try rw [nnp] at h50
 try have h50' := Et h50
 try have h50' := Beat.of_beq (y := Beat.none) h50
 try have h50' := Beat.no_beq (y := Beat.none) h50
 refine Eh (En (Ea (Ef rfl) (Ed (Ec (Eb [2] rfl (Ep (Fd (Eu (Eg rfl rfl ?_)))))))))
 rotate_left
 intro h50
 try rw [nnp] at h50
 try have h50' := Et h50
 try have h50' := Beat.of_beq (y := Beat.none) h50
 try have h50' := Beat.no_beq (y := Beat.none) h50
 refine Eh (En (Ea (Ek rfl) (Ea (Eo rfl rfl rfl) (Ea (Fv rfl rfl) (Ea (Ef rfl) ?_)))))
 first | refine Ff rfl ?_ ?_ | refine Fe rfl ?_ ?_
 intro h51
 try rw [nnp] at h51
 try have h51' := Et h51
 try have h51' := Beat.of_beq (y := Beat.none) h51
 try have h51' := Beat.no_beq (y := Beat.none) h51
 refine Ea (Ek rfl) (Ei rfl (Ea (Eo rfl rfl rfl) (Ei rfl (Ea (Ef rfl) (Ei rfl (Ea (Fn rfl) (Ei rfl (Ea (o_fa rfl) (Ei rfl (Ea (o_fa rfl) (Ei rfl ?_)))))))))))
 refine Ea (o_ld rfl rfl) (Ei rfl (Ea (o_geq rfl rfl) (Ea (Em rfl rfl) (Ea (Ef rfl) (Ed (Ec (Eb [0, 9, 10, 165] rfl ?_)))))))
 first | refine Ey rfl ?_ ?_ | refine Ev rfl ?_ ?_
 intro h52
 try rw [nnp] at h52
 try have h52' := Et h52
 try have h52' := Beat.of_beq (y := Beat.none) h52
 try have h52' := Beat.no_beq (y := Beat.none) h52
 refine Eh (En (Ea (Ef rfl) (Ed (Ec (Eb [2] rfl (Ep (Fd (Eu (Eg rfl rfl ?_)))))))))
 rotate_left
 intro h52
 try rw [nnp] at h52
 try have h52' := Et h52
 try have h52' := Beat.of_beq (y := Beat.none) h52
 try have h52' := Beat.no_beq (y := Beat.none) h52
 refine Eh (En (Ea (Ek rfl) (Ea (Eo rfl rfl rfl) (Ea (Fv rfl rfl) (Ea (Ef rfl) ?_)))))
 first | refine Ff rfl ?_ ?_ | refine Fe rfl ?_ ?_
 intro h53
 try rw [nnp] at h53
 try have h53' := Et h53
 try have h53' := Beat.of_beq (y := Beat.none) h53
 try have h53' := Beat.no_beq (y := Beat.none) h53
 refine Ea (Ek rfl) (Ei rfl (Ea (Eo rfl rfl rfl) (Ei rfl (Ea (Ef rfl) ?_))))
 first | refine Fq rfl ?_ ?_ | refine Fr rfl ?_ ?_ | refine s_gNF rfl ?_ ?_ | refine Fe rfl ?_ ?_
 intro h54
 try rw [nnp] at h54
 try have h54' := Et h54
 try have h54' := Beat.of_beq (y := Beat.none) h54
 try have h54' := Beat.no_beq (y := Beat.none) h54
 refine Ea (Ek rfl) (Ei rfl (Ea (Eo rfl rfl rfl) (Ei rfl (Ea (Ef rfl) (Ei rfl (Ea (Fn rfl) (Ei rfl (Ea (o_fa rfl) (Ei rfl (Ea (o_ld rfl rfl) (Ei rfl ?_)))))))))))
 refine Ea (Fv rfl rfl) (Er (is := [0, 9, 183, 186, 193]) rfl (Ei rfl (Ea (Ej rfl rfl) (Ea (Em rfl rfl) (Ea (Ef rfl) (Ed (Ec (Eb [0, 9, 179] rfl ?_))))))))
 first | refine Ey rfl ?_ ?_ | refine Ev rfl ?_ ?_
 intro h55
 try rw [nnp] at h55
 try have h55' := Et h55
 try have h55' := Beat.of_beq (y := Beat.none) h55
 try have h55' := Beat.no_beq (y := Beat.none) h55
 refine Eh (En (Ea (Ef rfl) (Ed (Ec (Eb [2] rfl (Ep (Fd (Eu (Eg rfl rfl ?_)))))))))
 rotate_left
 intro h55
 try rw [nnp] at h55
 try have h55' := Et h55
 try have h55' := Beat.of_beq (y := Beat.none) h55
 try have h55' := Beat.no_beq (y := Beat.none) h55
 refine Fa (q_blkN (Ec (Eb [0, 9] rfl (Eh (En (Ea (Ek rfl) (Ea (Eo rfl rfl rfl) (Ea (Fg rfl) (Ea (Ef rfl) ?_)))))))))
 first | refine Fq rfl ?_ ?_ | refine Fr rfl ?_ ?_ | refine s_gNF rfl ?_ ?_ | refine Fe rfl ?_ ?_
 intro h56
 try rw [nnp] at h56
 try have h56' := Et h56
 try have h56' := Beat.of_beq (y := Beat.none) h56
 try have h56' := Beat.no_beq (y := Beat.none) h56
 refine Ea (Ek rfl) (Ei rfl (Ea (Eo rfl rfl rfl) (Ei rfl (Ea (Fv rfl rfl) (Ei rfl (Ea (Ef rfl) ?_))))))
 first | refine Ff rfl ?_ ?_ | refine Fe rfl ?_ ?_
 intro h57
 try rw [nnp] at h57
 try have h57' := Et h57
 try have h57' := Beat.of_beq (y := Beat.none) h57
 try have h57' := Beat.no_beq (y := Beat.none) h57
 refine Ea (Ek rfl) (Ei rfl (Ea (Eo rfl rfl rfl) (Ei rfl (Ea (o_neq rfl rfl) (Ei rfl (Ea (Em rfl rfl) (Ei rfl (Ea (Ef rfl) ?_))))))))
 first | refine Ff rfl ?_ ?_ | refine Fe rfl ?_ ?_
 intro h58
 try rw [nnp] at h58
 try have h58' := Et h58
 try have h58' := Beat.of_beq (y := Beat.none) h58
 try have h58' := Beat.no_beq (y := Beat.none) h58
 refine Ea (Ef rfl) (Er (is := [199, 208, 209]) rfl (Ei rfl (Ea (Fn rfl) (Ei rfl (Ea (o_fa rfl) (Ei rfl (Ea (o_fa rfl) (Ei rfl (Ea (o_ld rfl rfl) (Ei rfl (Ea (Fg rfl) ?_)))))))))))
 refine Ei rfl (Ea (Em rfl rfl) (Ea (Ej rfl rfl) (Ea (Ef rfl) (Ed (Ec (Eb [2] rfl (Ep (Eg rfl rfl ?_))))))))
 rotate_left
 intro h58
 try rw [nnp] at h58
 try have h58' := Et h58
 try have h58' := Beat.of_beq (y := Beat.none) h58
 try have h58' := Beat.no_beq (y := Beat.none) h58
 refine Ee rfl (Er (is := [199, 208, 209]) rfl (Ee rfl (Ee rfl (Ee rfl (Ee rfl (Ee rfl (Ei rfl (Ea (Ej rfl rfl) (Ea (Ej rfl rfl) (Ea (Ef rfl) (Ed ?_)))))))))))
 refine Ec (Eb [2] rfl (Ep (Eg rfl rfl ?_)))
 rotate_left
 intro h57
 try rw [nnp] at h57
 try have h57' := Et h57
 try have h57' := Beat.of_beq (y := Beat.none) h57
 try have h57' := Beat.no_beq (y := Beat.none) h57
 refine Ee rfl (Ee rfl (Ee rfl (Ei rfl (Ea (Ej rfl rfl) (Ei rfl (Ea (Ef rfl) (Ee rfl (Er (is := [199, 208, 209]) rfl (Ee rfl (Ee rfl (Ee rfl ?_)))))))))))
 refine Ee rfl (Ee rfl (Ei rfl (Ea (Ej rfl rfl) (Ea (Ej rfl rfl) (Ea (Ef rfl) (Ed (Ec (Eb [2] rfl (Ep (Eg rfl rfl ?_))))))))))
 rotate_left
 intro h56
 try rw [nnp] at h56
 try have h56' := Et h56
 try have h56' := Beat.of_beq (y := Beat.none) h56
 try have h56' := Beat.no_beq (y := Beat.none) h56
 refine Ee rfl (Ee rfl (Ee rfl (Ee rfl (Fb rfl (Fb rfl (Fb rfl (Ee rfl (Ee rfl (Fb rfl (Er (is := [199, 208, 209]) rfl (Fb rfl ?_)))))))))))
 refine Fb rfl (Fb rfl (Fb rfl (Fb rfl (Ee rfl (Ea (Em rfl rfl) (Ea (Ef rfl) (Ed (Ec (Eb [2] rfl (Ep (Eg rfl rfl ?_)))))))))))
 rotate_left
 intro h54
 try rw [nnp] at h54
 try have h54' := Et h54
 try have h54' := Beat.of_beq (y := Beat.none) h54
 try have h54' := Beat.no_beq (y := Beat.none) h54
 iterate 7 refine Ee rfl ?_
 refine Er (is := [0, 9, 183, 186, 193]) rfl (Ei rfl (Ea (Em rfl rfl) (Ea (Em rfl rfl) (Ea (Ef rfl) (Ed (Ec (Eb [0, 9, 179] rfl (Fi rfl (Eh (En (Ea (Ef rfl) ?_)))))))))))
 refine Ed (Ec (Eb [2] rfl (Ep (Fd (Eu (Eg rfl rfl ?_))))))
 rotate_left
 intro h53
 try rw [nnp] at h53
 try have h53' := Et h53
 try have h53' := Beat.of_beq (y := Beat.none) h53
 try have h53' := Beat.no_beq (y := Beat.none) h53
 refine Ee rfl (Ee rfl (Ee rfl ?_))
 iterate 7 refine Fb rfl ?_
 refine Er (is := [0, 9, 183, 186, 193]) rfl (Ee rfl (Ea (Ej rfl rfl) (Ea (Ef rfl) (Ed (Ec (Eb [0, 9, 179] rfl (s_condF rfl (Fa (q_blkN (Ec (Eb [0, 9] rfl ?_)))))))))))
 refine Eh (En (Ea (Ek rfl) (Ea (Eo rfl rfl rfl) (Ea (Fg rfl) (Ea (Ef rfl) ?_)))))
 first | refine Fq rfl ?_ ?_ | refine Fr rfl ?_ ?_ | refine s_gNF rfl ?_ ?_ | refine Fe rfl ?_ ?_
 intro h59
 try rw [nnp] at h59
 try have h59' := Et h59
 try have h59' := Beat.of_beq (y := Beat.none) h59
 try have h59' := Beat.no_beq (y := Beat.none) h59
 refine Ea (Ek rfl) (Ei rfl (Ea (Eo rfl rfl rfl) (Ei rfl (Ea (Fv rfl rfl) (Ei rfl (Ea (Ef rfl) ?_))))))
 first | refine Ff rfl ?_ ?_ | refine Fe rfl ?_ ?_
 intro h60
 try rw [nnp] at h60
 try have h60' := Et h60
 try have h60' := Beat.of_beq (y := Beat.none) h60
 try have h60' := Beat.no_beq (y := Beat.none) h60
 refine Ea (Ek rfl) (Ei rfl (Ea (Eo rfl rfl rfl) (Ei rfl (Ea (o_neq rfl rfl) (Ei rfl (Ea (Em rfl rfl) (Ei rfl (Ea (Ef rfl) ?_))))))))
 first | refine Ff rfl ?_ ?_ | refine Fe rfl ?_ ?_
 intro h61
 try rw [nnp] at h61
 try have h61' := Et h61
 try have h61' := Beat.of_beq (y := Beat.none) h61
 try have h61' := Beat.no_beq (y := Beat.none) h61
 refine Ea (Ef rfl) (Er (is := [199, 208, 209]) rfl (Ei rfl (Ea (Fn rfl) (Ei rfl (Ea (o_fa rfl) (Ei rfl (Ea (o_fa rfl) (Ei rfl (Ea (o_ld rfl rfl) (Ei rfl (Ea (Fg rfl) ?_)))))))))))
 refine Ei rfl (Ea (Em rfl rfl) (Ea (Ej rfl rfl) (Ea (Ef rfl) (Ed (Ec (Eb [2] rfl (Ep (Eg rfl rfl ?_))))))))
 rotate_left
 intro h61
 try rw [nnp] at h61
 try have h61' := Et h61
 try have h61' := Beat.of_beq (y := Beat.none) h61
 try have h61' := Beat.no_beq (y := Beat.none) h61
 refine Ee rfl (Er (is := [199, 208, 209]) rfl (Ee rfl (Ee rfl (Ee rfl (Ee rfl (Ee rfl (Ei rfl (Ea (Ej rfl rfl) (Ea (Ej rfl rfl) (Ea (Ef rfl) (Ed ?_)))))))))))
 refine Ec (Eb [2] rfl (Ep (Eg rfl rfl ?_)))
 rotate_left
 intro h60
 try rw [nnp] at h60
 try have h60' := Et h60
 try have h60' := Beat.of_beq (y := Beat.none) h60
 try have h60' := Beat.no_beq (y := Beat.none) h60
 refine Ee rfl (Ee rfl (Ee rfl (Ei rfl (Ea (Ej rfl rfl) (Ei rfl (Ea (Ef rfl) (Ee rfl (Er (is := [199, 208, 209]) rfl (Ee rfl (Ee rfl (Ee rfl ?_)))))))))))
 refine Ee rfl (Ee rfl (Ei rfl (Ea (Ej rfl rfl) (Ea (Ej rfl rfl) (Ea (Ef rfl) (Ed (Ec (Eb [2] rfl (Ep (Eg rfl rfl ?_))))))))))
 rotate_left
 intro h59
 try rw [nnp] at h59
 try have h59' := Et h59
 try have h59' := Beat.of_beq (y := Beat.none) h59
 try have h59' := Beat.no_beq (y := Beat.none) h59
 refine Ee rfl (Ee rfl (Ee rfl (Ee rfl (Fb rfl (Fb rfl (Fb rfl (Ee rfl (Ee rfl (Fb rfl (Er (is := [199, 208, 209]) rfl (Fb rfl ?_)))))))))))
 refine Fb rfl (Fb rfl (Fb rfl (Fb rfl (Ee rfl (Ea (Em rfl rfl) (Ea (Ef rfl) (Ed (Ec (Eb [2] rfl (Ep (Eg rfl rfl ?_)))))))))))
 rotate_left
 intro h51
 try rw [nnp] at h51
 try have h51' := Et h51
 try have h51' := Beat.of_beq (y := Beat.none) h51
 try have h51' := Beat.no_beq (y := Beat.none) h51
 iterate 8 refine Ee rfl ?_
 refine Ea (Ej rfl rfl) (Ea (Ef rfl) (Ed (Ec (Eb [0, 9, 10, 165] rfl (s_condF rfl (Eh (En (Ea (Ek rfl) (Ea (Eo rfl rfl rfl) (Ea (Fv rfl rfl) (Ea (Ef rfl) ?_)))))))))))
 first | refine Ff rfl ?_ ?_ | refine Fe rfl ?_ ?_
 intro h62
 try rw [nnp] at h62
 try have h62' := Et h62
 try have h62' := Beat.of_beq (y := Beat.none) h62
 try have h62' := Beat.no_beq (y := Beat.none) h62
 refine Ea (Ek rfl) (Ei rfl (Ea (Eo rfl rfl rfl) (Ei rfl (Ea (Ef rfl) ?_))))
 first | refine Fq rfl ?_ ?_ | refine Fr rfl ?_ ?_ | refine s_gNF rfl ?_ ?_ | refine Fe rfl ?_ ?_
 intro h63
 try rw [nnp] at h63
 try have h63' := Et h63
 try have h63' := Beat.of_beq (y := Beat.none) h63
 try have h63' := Beat.no_beq (y := Beat.none) h63
 refine Ea (Ek rfl) (Ei rfl (Ea (Eo rfl rfl rfl) (Ei rfl (Ea (Ef rfl) (Ei rfl (Ea (Fn rfl) (Ei rfl (Ea (o_fa rfl) (Ei rfl (Ea (o_ld rfl rfl) (Ei rfl ?_)))))))))))
 refine Ea (Fv rfl rfl) (Er (is := [0, 9, 183, 186, 193]) rfl (Ei rfl (Ea (Ej rfl rfl) (Ea (Em rfl rfl) (Ea (Ef rfl) (Ed (Ec (Eb [0, 9, 179] rfl ?_))))))))
 first | refine Ey rfl ?_ ?_ | refine Ev rfl ?_ ?_
 intro h64
 try rw [nnp] at h64
 try have h64' := Et h64
 try have h64' := Beat.of_beq (y := Beat.none) h64
 try have h64' := Beat.no_beq (y := Beat.none) h64
 refine Eh (En (Ea (Ef rfl) (Ed (Ec (Eb [2] rfl (Ep (Fd (Eu (Eg rfl rfl ?_)))))))))
 rotate_left
 intro h64
 try rw [nnp] at h64
 try have h64' := Et h64
 try have h64' := Beat.of_beq (y := Beat.none) h64
 try have h64' := Beat.no_beq (y := Beat.none) h64
 refine Fa (q_blkN (Ec (Eb [0, 9] rfl (Eh (En (Ea (Ek rfl) (Ea (Eo rfl rfl rfl) (Ea (Fg rfl) (Ea (Ef rfl) ?_)))))))))
 first | refine Fq rfl ?_ ?_ | refine Fr rfl ?_ ?_ | refine s_gNF rfl ?_ ?_ | refine Fe rfl ?_ ?_
 intro h65
 try rw [nnp] at h65
 try have h65' := Et h65
 try have h65' := Beat.of_beq (y := Beat.none) h65
 try have h65' := Beat.no_beq (y := Beat.none) h65
 refine Ea (Ek rfl) (Ei rfl (Ea (Eo rfl rfl rfl) (Ei rfl (Ea (Fv rfl rfl) (Ei rfl (Ea (Ef rfl) ?_))))))
 first | refine Ff rfl ?_ ?_ | refine Fe rfl ?_ ?_
 intro h66
 try rw [nnp] at h66
 try have h66' := Et h66
 try have h66' := Beat.of_beq (y := Beat.none) h66
 try have h66' := Beat.no_beq (y := Beat.none) h66
 refine Ea (Ek rfl) (Ei rfl (Ea (Eo rfl rfl rfl) (Ei rfl (Ea (o_neq rfl rfl) (Ei rfl (Ea (Em rfl rfl) (Ei rfl (Ea (Ef rfl) ?_))))))))
 first | refine Ff rfl ?_ ?_ | refine Fe rfl ?_ ?_
 intro h67
 try rw [nnp] at h67
 try have h67' := Et h67
 try have h67' := Beat.of_beq (y := Beat.none) h67
 try have h67' := Beat.no_beq (y := Beat.none) h67
 refine Ea (Ef rfl) (Er (is := [199, 208, 209]) rfl (Ei rfl (Ea (Fn rfl) (Ei rfl (Ea (o_fa rfl) (Ei rfl (Ea (o_fa rfl) (Ei rfl (Ea (o_ld rfl rfl) (Ei rfl (Ea (Fg rfl) ?_)))))))))))
 refine Ei rfl (Ea (Em rfl rfl) (Ea (Ej rfl rfl) (Ea (Ef rfl) (Ed (Ec (Eb [2] rfl (Ep (Eg rfl rfl ?_))))))))
 rotate_left
 intro h67
 try rw [nnp] at h67
 try have h67' := Et h67
 try have h67' := Beat.of_beq (y := Beat.none) h67
 try have h67' := Beat.no_beq (y := Beat.none) h67
 refine Ee rfl (Er (is := [199, 208, 209]) rfl (Ee rfl (Ee rfl (Ee rfl (Ee rfl (Ee rfl (Ei rfl (Ea (Ej rfl rfl) (Ea (Ej rfl rfl) (Ea (Ef rfl) (Ed ?_)))))))))))
 refine Ec (Eb [2] rfl (Ep (Eg rfl rfl ?_)))
 rotate_left
 intro h66
 try rw [nnp] at h66
 try have h66' := Et h66
 try have h66' := Beat.of_beq (y := Beat.none) h66
 try have h66' := Beat.no_beq (y := Beat.none) h66
 refine Ee rfl (Ee rfl (Ee rfl (Ei rfl (Ea (Ej rfl rfl) (Ei rfl (Ea (Ef rfl) (Ee rfl (Er (is := [199, 208, 209]) rfl (Ee rfl (Ee rfl (Ee rfl ?_)))))))))))
 refine Ee rfl (Ee rfl (Ei rfl (Ea (Ej rfl rfl) (Ea (Ej rfl rfl) (Ea (Ef rfl) (Ed (Ec (Eb [2] rfl (Ep (Eg rfl rfl ?_))))))))))
 rotate_left
 intro h65
 try rw [nnp] at h65
 try have h65' := Et h65
 try have h65' := Beat.of_beq (y := Beat.none) h65
 try have h65' := Beat.no_beq (y := Beat.none) h65
 refine Ee rfl (Ee rfl (Ee rfl (Ee rfl (Fb rfl (Fb rfl (Fb rfl (Ee rfl (Ee rfl (Fb rfl (Er (is := [199, 208, 209]) rfl (Fb rfl ?_)))))))))))
 refine Fb rfl (Fb rfl (Fb rfl (Fb rfl (Ee rfl (Ea (Em rfl rfl) (Ea (Ef rfl) (Ed (Ec (Eb [2] rfl (Ep (Eg rfl rfl ?_)))))))))))
 rotate_left
 intro h63
 try rw [nnp] at h63
 try have h63' := Et h63
 try have h63' := Beat.of_beq (y := Beat.none) h63
 try have h63' := Beat.no_beq (y := Beat.none) h63
 iterate 7 refine Ee rfl ?_
 refine Er (is := [0, 9, 183, 186, 193]) rfl (Ei rfl (Ea (Em rfl rfl) (Ea (Em rfl rfl) (Ea (Ef rfl) (Ed (Ec (Eb [0, 9, 179] rfl (Fi rfl (Eh (En (Ea (Ef rfl) ?_)))))))))))
 refine Ed (Ec (Eb [2] rfl (Ep (Fd (Eu (Eg rfl rfl ?_))))))
 rotate_left
 intro h62
 try rw [nnp] at h62
 try have h62' := Et h62
 try have h62' := Beat.of_beq (y := Beat.none) h62
 try have h62' := Beat.no_beq (y := Beat.none) h62
 refine Ee rfl (Ee rfl (Ee rfl ?_))
 iterate 7 refine Fb rfl ?_
 refine Er (is := [0, 9, 183, 186, 193]) rfl (Ee rfl (Ea (Ej rfl rfl) (Ea (Ef rfl) (Ed (Ec (Eb [0, 9, 179] rfl (s_condF rfl (Fa (q_blkN (Ec (Eb [0, 9] rfl ?_)))))))))))
 refine Eh (En (Ea (Ek rfl) (Ea (Eo rfl rfl rfl) (Ea (Fg rfl) (Ea (Ef rfl) ?_)))))
 first | refine Fq rfl ?_ ?_ | refine Fr rfl ?_ ?_ | refine s_gNF rfl ?_ ?_ | refine Fe rfl ?_ ?_
 intro h68
 try rw [nnp] at h68
 try have h68' := Et h68
 try have h68' := Beat.of_beq (y := Beat.none) h68
 try have h68' := Beat.no_beq (y := Beat.none) h68
 refine Ea (Ek rfl) (Ei rfl (Ea (Eo rfl rfl rfl) (Ei rfl (Ea (Fv rfl rfl) (Ei rfl (Ea (Ef rfl) ?_))))))
 first | refine Ff rfl ?_ ?_ | refine Fe rfl ?_ ?_
 intro h69
 try rw [nnp] at h69
 try have h69' := Et h69
 try have h69' := Beat.of_beq (y := Beat.none) h69
 try have h69' := Beat.no_beq (y := Beat.none) h69
 refine Ea (Ek rfl) (Ei rfl (Ea (Eo rfl rfl rfl) (Ei rfl (Ea (o_neq rfl rfl) (Ei rfl (Ea (Em rfl rfl) (Ei rfl (Ea (Ef rfl) ?_))))))))
 first | refine Ff rfl ?_ ?_ | refine Fe rfl ?_ ?_
 intro h70
 try rw [nnp] at h70
 try have h70' := Et h70
 try have h70' := Beat.of_beq (y := Beat.none) h70
 try have h70' := Beat.no_beq (y := Beat.none) h70
 refine Ea (Ef rfl) (Er (is := [199, 208, 209]) rfl (Ei rfl (Ea (Fn rfl) (Ei rfl (Ea (o_fa rfl) (Ei rfl (Ea (o_fa rfl) (Ei rfl (Ea (o_ld rfl rfl) (Ei rfl (Ea (Fg rfl) ?_)))))))))))
 refine Ei rfl (Ea (Em rfl rfl) (Ea (Ej rfl rfl) (Ea (Ef rfl) (Ed (Ec (Eb [2] rfl (Ep (Eg rfl rfl ?_))))))))
 rotate_left
 intro h70
 try rw [nnp] at h70
 try have h70' := Et h70
 try have h70' := Beat.of_beq (y := Beat.none) h70
 try have h70' := Beat.no_beq (y := Beat.none) h70
 refine Ee rfl (Er (is := [199, 208, 209]) rfl (Ee rfl (Ee rfl (Ee rfl (Ee rfl (Ee rfl (Ei rfl (Ea (Ej rfl rfl) (Ea (Ej rfl rfl) (Ea (Ef rfl) (Ed ?_)))))))))))
 refine Ec (Eb [2] rfl (Ep (Eg rfl rfl ?_)))
 rotate_left
 intro h69
 try rw [nnp] at h69
 try have h69' := Et h69
 try have h69' := Beat.of_beq (y := Beat.none) h69
 try have h69' := Beat.no_beq (y := Beat.none) h69
 refine Ee rfl (Ee rfl (Ee rfl (Ei rfl (Ea (Ej rfl rfl) (Ei rfl (Ea (Ef rfl) (Ee rfl (Er (is := [199, 208, 209]) rfl (Ee rfl (Ee rfl (Ee rfl ?_)))))))))))
 refine Ee rfl (Ee rfl (Ei rfl (Ea (Ej rfl rfl) (Ea (Ej rfl rfl) (Ea (Ef rfl) (Ed (Ec (Eb [2] rfl (Ep (Eg rfl rfl ?_))))))))))
 rotate_left
 intro h68
 try rw [nnp] at h68
 try have h68' := Et h68
 try have h68' := Beat.of_beq (y := Beat.none) h68
 try have h68' := Beat.no_beq (y := Beat.none) h68
 refine Ee rfl (Ee rfl (Ee rfl (Ee rfl (Fb rfl (Fb rfl (Fb rfl (Ee rfl (Ee rfl (Fb rfl (Er (is := [199, 208, 209]) rfl (Fb rfl ?_)))))))))))
 refine Fb rfl (Fb rfl (Fb rfl (Fb rfl (Ee rfl (Ea (Em rfl rfl) (Ea (Ef rfl) (Ed (Ec (Eb [2] rfl (Ep (Eg rfl rfl ?_)))))))))))
 rotate_left
 intro h49
 try rw [nnp] at h49
 try have h49' := Et h49
 try have h49' := Beat.of_beq (y := Beat.none) h49
 try have h49' := Beat.no_beq (y := Beat.none) h49
 refine Ee rfl (Ee rfl (Ee rfl (Ee rfl (Ea (Em rfl rfl) (Ea (Ef rfl) (Ed (Ec (Eb [0, 9, 10, 141] rfl (Fi rfl (Eh (En ?_)))))))))))
 refine Ea (Ef rfl) (Ed (Ec (Eb [2] rfl (Ep (Fd (Eu (Eg rfl rfl ?_)))))))
 rotate_left
 intro h48
 try rw [nnp] at h48
 try have h48' := Et h48
 try have h48' := Beat.of_beq (y := Beat.none) h48
 try have h48' := Beat.no_beq (y := Beat.none) h48
 iterate 8 refine Ee rfl ?_
 refine Er (is := [0, 9, 10, 147, 149, 155]) rfl (Ee rfl (Ee rfl (Ea (Em rfl rfl) (Ea (Ef rfl) (Ee rfl (Ee rfl (Ee rfl (Ee rfl (Ea (Em rfl rfl) (Ea (Ef rfl) (Ed ?_)))))))))))
 refine Ec (Eb [0, 9, 10, 141] rfl (Fi rfl (Eh (En (Ea (Ef rfl) (Ed (Ec (Eb [2] rfl (Ep (Fd (Eu ?_)))))))))))
 refine Eg rfl rfl ?_
 rotate_left
 intro h18
 try rw [nnp] at h18
 try have h18' := Et h18
 try have h18' := Beat.of_beq (y := Beat.none) h18
 try have h18' := Beat.no_beq (y := Beat.none) h18
 refine Ee rfl (Ee rfl (Ee rfl (Ee rfl (Fb rfl (Fb rfl (Fb rfl (Ee rfl (Ea (Em rfl rfl) (Ed (Ec (Eb [0, 122] rfl ?_)))))))))))
 refine Fi rfl (Eh (En (Ea (Ef rfl) (Ed (Ec (Eb [2] rfl (Ep (Eu (Eg rfl rfl ?_)))))))))
 rotate_left
 intro h17
 try rw [nnp] at h17
 try have h17' := Et h17
 try have h17' := Beat.of_beq (y := Beat.none) h17
 try have h17' := Beat.no_beq (y := Beat.none) h17
 refine Ee rfl (Er (is := [0, 8, 84, 108, 109]) rfl (Ee rfl (Ei rfl (Ea (Em rfl rfl) (Ea (Em rfl rfl) (Ea (Ef rfl) (Ee rfl (Ee rfl (Ee rfl (Ee rfl (Fb rfl ?_)))))))))))
 refine Fb rfl (Fb rfl (Ee rfl (Ea (Em rfl rfl) (Ed (Ec (Eb [0, 122] rfl (Fi rfl (Eh (En (Ea (Ef rfl) (Ed ?_)))))))))))
 refine Ec (Eb [2] rfl (Ep (Eu (Eg rfl rfl ?_))))
 rotate_left
 intro h16
 try rw [nnp] at h16
 try have h16' := Et h16
 try have h16' := Beat.of_beq (y := Beat.none) h16
 try have h16' := Beat.no_beq (y := Beat.none) h16
 refine Ee rfl (Ee rfl (Ee rfl (Ei rfl (Ea (Em rfl rfl) (Ei rfl (Ea (Ef rfl) (Ee rfl (Er (is := [0, 8, 84, 108, 109]) rfl (Ee rfl (Ei rfl (Ea (Em rfl rfl) ?_)))))))))))
 refine Ea (Em rfl rfl) (Ea (Ef rfl) (Ee rfl (Ee rfl (Ee rfl (Ee rfl (Fb rfl (Fb rfl (Fb rfl (Ee rfl (Ea (Em rfl rfl) (Ed ?_)))))))))))
 refine Ec (Eb [0, 122] rfl (Fi rfl (Eh (En (Ea (Ef rfl) (Ed (Ec (Eb [2] rfl (Ep (Eu (Eg rfl rfl ?_)))))))))))
 rotate_left
 intro h15
 try rw [nnp] at h15
 try have h15' := Et h15
 try have h15' := Beat.of_beq (y := Beat.none) h15
 try have h15' := Beat.no_beq (y := Beat.none) h15
 refine Ee rfl (Ee rfl (Ee rfl (Ei rfl (Ea (Em rfl rfl) (Ei rfl (Ea (Ef rfl) (Ee rfl (Ee rfl (Ee rfl (Ei rfl (Ea (Em rfl rfl) ?_)))))))))))
 refine Ei rfl (Ea (Ef rfl) (Ee rfl (Er (is := [0, 8, 84, 108, 109]) rfl (Ee rfl (Ei rfl (Ea (Em rfl rfl) (Ea (Em rfl rfl) (Ea (Ef rfl) (Ee rfl (Ee rfl (Ee rfl ?_)))))))))))
 refine Ee rfl (Fb rfl (Fb rfl (Fb rfl (Ee rfl (Ea (Em rfl rfl) (Ed (Ec (Eb [0, 122] rfl (Fi rfl (Eh (En ?_)))))))))))
 refine Ea (Ef rfl) (Ed (Ec (Eb [2] rfl (Ep (Eu (Eg rfl rfl ?_))))))
 rotate_left
 intro h13
 try rw [nnp] at h13
 try have h13' := Et h13
 try have h13' := Beat.of_beq (y := Beat.none) h13
 try have h13' := Beat.no_beq (y := Beat.none) h13
 iterate 11 refine Ee rfl ?_
 refine Er (is := [0, 8, 84, 86, 95]) rfl (Ee rfl (Ee rfl (Ee rfl (Fb rfl (Fb rfl (Fb rfl (Ee rfl (Ee rfl (Fb rfl (Fb rfl (Fb rfl ?_)))))))))))
 refine Ee rfl (Ee rfl (Fb rfl (Er (is := [0, 8, 84, 108, 109]) rfl (Fb rfl (Ee rfl (Ea (Ej rfl rfl) (Ea (Ef rfl) (Ei rfl (Ea (Ek rfl) (Ei rfl (Ea (Eo rfl rfl rfl) ?_)))))))))))
 refine Ei rfl (Ea (Fg rfl) (Ei rfl (Ea (Ef rfl) ?_)))
 first | refine Ff rfl ?_ ?_ | refine Ft rfl ?_ ?_ | refine s_gNT rfl ?_ ?_ | refine Fe rfl ?_ ?_
 intro h71
 try rw [nnp] at h71
 try have h71' := Et h71
 try have h71' := Beat.of_beq (y := Beat.none) h71
 try have h71' := Beat.no_beq (y := Beat.none) h71
 refine Ea (Fm rfl rfl rfl) (Ei rfl (Ea (o_bd rfl rfl) (Ei rfl (Ea (o_eqs rfl rfl rfl rfl rfl) (Ei rfl (Ea (Em rfl rfl) (Ea (Ej rfl rfl) (Ed (Ec (Eb [0, 122] rfl ?_))))))))))
 first | refine Fh rfl ?_ ?_ | refine Ev rfl ?_ ?_
 intro h72
 try rw [nnp] at h72
 try have h72' := Et h72
 try have h72' := Beat.of_beq (y := Beat.none) h72
 try have h72' := Beat.no_beq (y := Beat.none) h72
 refine Eh (En (Ea (Ef rfl) (Ed (Ec (Eb [2] rfl (Ep (Eu (Eg rfl rfl ?_))))))))
 rotate_left
 intro h72
 try rw [nnp] at h72
 try have h72' := Et h72
 try have h72' := Beat.of_beq (y := Beat.none) h72
 try have h72' := Beat.no_beq (y := Beat.none) h72
 refine Fa (Ec (Eb [0] rfl (Eh (En (Ea (Ef rfl) (Ea (Fn rfl) (Ea (o_fa rfl) (Ea (o_ldn rfl rfl) (Ea (o_new rfl rfl) (Fx (o_stnC rfl rfl rfl rfl rfl rfl rfl) (Ed ?_)))))))))))
 refine Ec (Eb [0, 9] rfl (Eh (Eh (En (Ea (Ek rfl) (Ea (Eo rfl rfl rfl) (Ea (Fg rfl) (Ed (Ec (Eb [0, 9, 129] rfl ?_))))))))))
 first | refine Ey rfl ?_ ?_ | refine Fp rfl ?_ ?_ | refine Fh rfl ?_ ?_ | refine Ev rfl ?_ ?_
 intro h73
 try rw [nnp] at h73
 try have h73' := Et h73
 try have h73' := Beat.of_beq (y := Beat.none) h73
 try have h73' := Beat.no_beq (y := Beat.none) h73
 refine Eh (En (Ea (Fm rfl rfl rfl) (Ea (o_bd rfl rfl) (Ea (o_eqs rfl rfl rfl rfl rfl) (Ea (Ef rfl) (Ed (Ec (Eb [2] rfl (Ep (Eu (Eg rfl rfl ?_)))))))))))
 rotate_left
 intro h73
 try rw [nnp] at h73
 try have h73' := Et h73
 try have h73' := Beat.of_beq (y := Beat.none) h73
 try have h73' := Beat.no_beq (y := Beat.none) h73
 refine Fa (Ec (Eb [0, 9] rfl (Eh (En (Ea (Ef rfl) (Ea (Fn rfl) (Ea (o_fa rfl) (Ea (o_ld rfl rfl) (Ea (Ek rfl) (Ea (Eo rfl rfl rfl) (s_iaM rfl rfl (by first | omega | (simp; omega) | (have := fly_bd (fly_A hfly (by assumption)); omega) | (have := fly_bd (fly_D hfly (by assumption)); omega)) ?_)))))))))))
 intro y74 e74
 (try have e74m := mAt_of e74); (try have e74s := sAt_of e74); (try simp only [Int.toNat_natCast, Int.toNat_zero] at e74)
 refine Ea (o_ldn rfl rfl) (Ea (o_new rfl rfl) (Fx (o_stnC rfl rfl rfl rfl rfl rfl rfl) (Ed (Ec (Eb [0, 9, 10] rfl (Eh (Fj (Eh (En (Ea (Ek rfl) (Ea (Eo rfl rfl rfl) ?_)))))))))))
 refine Ea (Ek rfl) (Ea (Eo rfl rfl rfl) (Ea (o_neq rfl rfl) (Ea (Ef rfl) ?_)))
 first | refine Fq rfl ?_ ?_ | refine Fe rfl ?_ ?_
 intro h75
 try rw [nnp] at h75
 try have h75' := Et h75
 try have h75' := Beat.of_beq (y := Beat.none) h75
 try have h75' := Beat.no_beq (y := Beat.none) h75
 refine Ea (Ek rfl) (Ei rfl (Ea (Eo rfl rfl rfl) (Ei rfl (Ea (Ef rfl) (Ei rfl (Ea (Fn rfl) (Ei rfl (Ea (o_fa rfl) (Ei rfl (Ea (o_fa rfl) (Ei rfl ?_)))))))))))
 refine Ea (o_ld rfl rfl) (Ei rfl ?_)
 first | refine Ea (Fs rfl rfl (by first | omega | exact cntW_add (hcn _))) ?_ | refine Ea (o_add rfl rfl) ?_
 refine Er (is := [0, 9, 10, 147, 149, 155]) rfl (Ei rfl ?_)
 first | refine Ez rfl rfl (c_103 ..) ?_ | refine Ew rfl rfl (by simp) (c_103 ..) rfl ?_
 refine Ei rfl (Ea (Fg rfl) (Ea (Ej rfl rfl) (Ea (Ef rfl) ?_)))
 first | refine Fq rfl ?_ ?_ | refine Fr rfl ?_ ?_ | refine s_gNF rfl ?_ ?_ | refine Fe rfl ?_ ?_
 intro h76
 try rw [nnp] at h76
 try have h76' := Et h76
 try have h76' := Beat.of_beq (y := Beat.none) h76
 try have h76' := Beat.no_beq (y := Beat.none) h76
 refine Ea (Ek rfl) (Ei rfl (Ea (Eo rfl rfl rfl) (Ei rfl ?_)))
 first | refine Ez rfl rfl (c_103 ..) ?_ | refine Ew rfl rfl (by simp) (c_103 ..) rfl ?_
 refine Ei rfl (Ea (Fg rfl) (Ea (Ej rfl rfl) (Ea (Ef rfl) (Ed (Ec (Eb [0, 9, 10, 141] rfl ?_))))))
 first | refine Ey rfl ?_ ?_ | refine Fp rfl ?_ ?_ | refine Fh rfl ?_ ?_ | refine Ev rfl ?_ ?_
 intro h77
 try rw [nnp] at h77
 try have h77' := Et h77
 try have h77' := Beat.of_beq (y := Beat.none) h77
 try have h77' := Beat.no_beq (y := Beat.none) h77
 refine Eh (En (Ea (Ef rfl) (Ed (Ec (Eb [2] rfl (Ep (Fd (Eu (Eg rfl rfl ?_)))))))))
 rotate_left
 intro h77
 try rw [nnp] at h77
 try have h77' := Et h77
 try have h77' := Beat.of_beq (y := Beat.none) h77
 try have h77' := Beat.no_beq (y := Beat.none) h77
 refine Eh (En (Ea (Ek rfl) (Ea (Eo rfl rfl rfl) (Ea (Fv rfl rfl) (Ea (Ef rfl) ?_)))))
 first | refine Ff rfl ?_ ?_ | refine Fe rfl ?_ ?_
 intro h78
 try rw [nnp] at h78
 try have h78' := Et h78
 try have h78' := Beat.of_beq (y := Beat.none) h78
 try have h78' := Beat.no_beq (y := Beat.none) h78
 refine Ea (Ek rfl) (Ei rfl (Ea (Eo rfl rfl rfl) (Ei rfl (Ea (Ef rfl) (Ei rfl (Ea (Fn rfl) (Ei rfl (Ea (o_fa rfl) (Ei rfl (Ea (o_fa rfl) (Ei rfl ?_)))))))))))
 refine Ea (o_ld rfl rfl) (Ei rfl (Ea (o_geq rfl rfl) (Ea (Em rfl rfl) (Ea (Ef rfl) (Ed (Ec (Eb [0, 9, 10, 165] rfl ?_)))))))
 first | refine Ey rfl ?_ ?_ | refine Ev rfl ?_ ?_
 intro h79
 try rw [nnp] at h79
 try have h79' := Et h79
 try have h79' := Beat.of_beq (y := Beat.none) h79
 try have h79' := Beat.no_beq (y := Beat.none) h79
 refine Eh (En (Ea (Ef rfl) (Ed (Ec (Eb [2] rfl (Ep (Fd (Eu (Eg rfl rfl ?_)))))))))
 rotate_left
 intro h79
 try rw [nnp] at h79
 try have h79' := Et h79
 try have h79' := Beat.of_beq (y := Beat.none) h79
 try have h79' := Beat.no_beq (y := Beat.none) h79
 refine Eh (En (Ea (Ek rfl) (Ea (Eo rfl rfl rfl) (Ea (Fv rfl rfl) (Ea (Ef rfl) ?_)))))
 first | refine Ff rfl ?_ ?_ | refine Fe rfl ?_ ?_
 intro h80
 try rw [nnp] at h80
 try have h80' := Et h80
 try have h80' := Beat.of_beq (y := Beat.none) h80
 try have h80' := Beat.no_beq (y := Beat.none) h80
 refine Ea (Ek rfl) (Ei rfl (Ea (Eo rfl rfl rfl) (Ei rfl (Ea (Ef rfl) ?_))))
 first | refine Fq rfl ?_ ?_ | refine Fr rfl ?_ ?_ | refine s_gNF rfl ?_ ?_ | refine Fe rfl ?_ ?_
 intro h81
 try rw [nnp] at h81
 try have h81' := Et h81
 try have h81' := Beat.of_beq (y := Beat.none) h81
 try have h81' := Beat.no_beq (y := Beat.none) h81
 refine Ea (Ek rfl) (Ei rfl (Ea (Eo rfl rfl rfl) (Ei rfl (Ea (Ef rfl) (Ei rfl (Ea (Fn rfl) (Ei rfl (Ea (o_fa rfl) (Ei rfl (Ea (o_ld rfl rfl) (Ei rfl ?_)))))))))))
 refine Ea (Fv rfl rfl) (Er (is := [0, 9, 183, 186, 193]) rfl (Ei rfl (Ea (Ej rfl rfl) (Ea (Em rfl rfl) (Ea (Ef rfl) (Ed (Ec (Eb [0, 9, 179] rfl ?_))))))))
 first | refine Ey rfl ?_ ?_ | refine Ev rfl ?_ ?_
 intro h82
 try rw [nnp] at h82
 try have h82' := Et h82
 try have h82' := Beat.of_beq (y := Beat.none) h82
 try have h82' := Beat.no_beq (y := Beat.none) h82
 refine Eh (En (Ea (Ef rfl) (Ed (Ec (Eb [2] rfl (Ep (Fd (Eu (Eg rfl rfl ?_)))))))))
 rotate_left
 intro h82
 try rw [nnp] at h82
 try have h82' := Et h82
 try have h82' := Beat.of_beq (y := Beat.none) h82
 try have h82' := Beat.no_beq (y := Beat.none) h82
 refine Fa (q_blkN (Ec (Eb [0, 9] rfl (Eh (En (Ea (Ek rfl) (Ea (Eo rfl rfl rfl) (Ea (Fg rfl) (Ea (Ef rfl) ?_)))))))))
 first | refine Fq rfl ?_ ?_ | refine Fr rfl ?_ ?_ | refine s_gNF rfl ?_ ?_ | refine Fe rfl ?_ ?_
 intro h83
 try rw [nnp] at h83
 try have h83' := Et h83
 try have h83' := Beat.of_beq (y := Beat.none) h83
 try have h83' := Beat.no_beq (y := Beat.none) h83
 refine Ea (Ek rfl) (Ei rfl (Ea (Eo rfl rfl rfl) (Ei rfl (Ea (Fv rfl rfl) (Ei rfl (Ea (Ef rfl) ?_))))))
 first | refine Ff rfl ?_ ?_ | refine Fe rfl ?_ ?_
 intro h84
 try rw [nnp] at h84
 try have h84' := Et h84
 try have h84' := Beat.of_beq (y := Beat.none) h84
 try have h84' := Beat.no_beq (y := Beat.none) h84
 refine Ea (Ek rfl) (Ei rfl (Ea (Eo rfl rfl rfl) (Ei rfl (Ea (o_neq rfl rfl) (Ei rfl (Ea (Em rfl rfl) (Ei rfl (Ea (Ef rfl) ?_))))))))
 first | refine Ff rfl ?_ ?_ | refine Fe rfl ?_ ?_
 intro h85
 try rw [nnp] at h85
 try have h85' := Et h85
 try have h85' := Beat.of_beq (y := Beat.none) h85
 try have h85' := Beat.no_beq (y := Beat.none) h85
 refine Ea (Ef rfl) (Er (is := [199, 208, 209]) rfl (Ei rfl (Ea (Fn rfl) (Ei rfl (Ea (o_fa rfl) (Ei rfl (Ea (o_fa rfl) (Ei rfl (Ea (o_ld rfl rfl) (Ei rfl (Ea (Fg rfl) ?_)))))))))))
 refine Ei rfl (Ea (Em rfl rfl) (Ea (Ej rfl rfl) (Ea (Ef rfl) (Ed (Ec (Eb [2] rfl (Ep (Eg rfl rfl ?_))))))))
 rotate_left
 intro h85
 try rw [nnp] at h85
 try have h85' := Et h85
 try have h85' := Beat.of_beq (y := Beat.none) h85
 try have h85' := Beat.no_beq (y := Beat.none) h85
 refine Ee rfl (Er (is := [199, 208, 209]) rfl (Ee rfl (Ee rfl (Ee rfl (Ee rfl (Ee rfl (Ei rfl (Ea (Ej rfl rfl) (Ea (Ej rfl rfl) (Ea (Ef rfl) (Ed ?_)))))))))))
 refine Ec (Eb [2] rfl (Ep (Eg rfl rfl ?_)))
 rotate_left
 intro h84
 try rw [nnp] at h84
 try have h84' := Et h84
 try have h84' := Beat.of_beq (y := Beat.none) h84
 try have h84' := Beat.no_beq (y := Beat.none) h84
 refine Ee rfl (Ee rfl (Ee rfl (Ei rfl (Ea (Ej rfl rfl) (Ei rfl (Ea (Ef rfl) (Ee rfl (Er (is := [199, 208, 209]) rfl (Ee rfl (Ee rfl (Ee rfl ?_)))))))))))
 refine Ee rfl (Ee rfl (Ei rfl (Ea (Ej rfl rfl) (Ea (Ej rfl rfl) (Ea (Ef rfl) (Ed (Ec (Eb [2] rfl (Ep (Eg rfl rfl ?_))))))))))
 rotate_left
 intro h83
 try rw [nnp] at h83
 try have h83' := Et h83
 try have h83' := Beat.of_beq (y := Beat.none) h83
 try have h83' := Beat.no_beq (y := Beat.none) h83
 refine Ee rfl (Ee rfl (Ee rfl (Ee rfl (Fb rfl (Fb rfl (Fb rfl (Ee rfl (Ee rfl (Fb rfl (Er (is := [199, 208, 209]) rfl (Fb rfl ?_)))))))))))
 refine Fb rfl (Fb rfl (Fb rfl (Fb rfl (Ee rfl (Ea (Em rfl rfl) (Ea (Ef rfl) (Ed (Ec (Eb [2] rfl (Ep (Eg rfl rfl ?_)))))))))))
 rotate_left
 intro h81
 try rw [nnp] at h81
 try have h81' := Et h81
 try have h81' := Beat.of_beq (y := Beat.none) h81
 try have h81' := Beat.no_beq (y := Beat.none) h81
 iterate 7 refine Ee rfl ?_
 refine Er (is := [0, 9, 183, 186, 193]) rfl (Ei rfl (Ea (Em rfl rfl) (Ea (Em rfl rfl) (Ea (Ef rfl) (Ed (Ec (Eb [0, 9, 179] rfl (Fi rfl (Eh (En (Ea (Ef rfl) ?_)))))))))))
 refine Ed (Ec (Eb [2] rfl (Ep (Fd (Eu (Eg rfl rfl ?_))))))
 rotate_left
 intro h80
 try rw [nnp] at h80
 try have h80' := Et h80
 try have h80' := Beat.of_beq (y := Beat.none) h80
 try have h80' := Beat.no_beq (y := Beat.none) h80
 refine Ee rfl (Ee rfl (Ee rfl ?_))
 iterate 7 refine Fb rfl ?_
 refine Er (is := [0, 9, 183, 186, 193]) rfl (Ee rfl (Ea (Ej rfl rfl) (Ea (Ef rfl) (Ed (Ec (Eb [0, 9, 179] rfl (s_condF rfl (Fa (q_blkN (Ec (Eb [0, 9] rfl ?_)))))))))))
 refine Eh (En (Ea (Ek rfl) (Ea (Eo rfl rfl rfl) (Ea (Fg rfl) (Ea (Ef rfl) ?_)))))
 first | refine Fq rfl ?_ ?_ | refine Fr rfl ?_ ?_ | refine s_gNF rfl ?_ ?_ | refine Fe rfl ?_ ?_
 intro h86
 try rw [nnp] at h86
 try have h86' := Et h86
 try have h86' := Beat.of_beq (y := Beat.none) h86
 try have h86' := Beat.no_beq (y := Beat.none) h86
 refine Ea (Ek rfl) (Ei rfl (Ea (Eo rfl rfl rfl) (Ei rfl (Ea (Fv rfl rfl) (Ei rfl (Ea (Ef rfl) ?_))))))
 first | refine Ff rfl ?_ ?_ | refine Fe rfl ?_ ?_
 intro h87
 try rw [nnp] at h87
 try have h87' := Et h87
 try have h87' := Beat.of_beq (y := Beat.none) h87
 try have h87' := Beat.no_beq (y := Beat.none) h87
 refine Ea (Ek rfl) (Ei rfl (Ea (Eo rfl rfl rfl) (Ei rfl (Ea (o_neq rfl rfl) (Ei rfl (Ea (Em rfl rfl) (Ei rfl (Ea (Ef rfl) ?_))))))))
 first | refine Ff rfl ?_ ?_ | refine Fe rfl ?_ ?_
 intro h88
 try rw [nnp] at h88
 try have h88' := Et h88
 try have h88' := Beat.of_beq (y := Beat.none) h88
 try have h88' := Beat.no_beq (y := Beat.none) h88
 refine Ea (Ef rfl) (Er (is := [199, 208, 209]) rfl (Ei rfl (Ea (Fn rfl) (Ei rfl (Ea (o_fa rfl) (Ei rfl (Ea (o_fa rfl) (Ei rfl (Ea (o_ld rfl rfl) (Ei rfl (Ea (Fg rfl) ?_)))))))))))
 refine Ei rfl (Ea (Em rfl rfl) (Ea (Ej rfl rfl) (Ea (Ef rfl) (Ed (Ec (Eb [2] rfl (Ep (Eg rfl rfl ?_))))))))
 rotate_left
 intro h88
 try rw [nnp] at h88
 try have h88' := Et h88
 try have h88' := Beat.of_beq (y := Beat.none) h88
 try have h88' := Beat.no_beq (y := Beat.none) h88
 refine Ee rfl (Er (is := [199, 208, 209]) rfl (Ee rfl (Ee rfl (Ee rfl (Ee rfl (Ee rfl (Ei rfl (Ea (Ej rfl rfl) (Ea (Ej rfl rfl) (Ea (Ef rfl) (Ed ?_)))))))))))
 refine Ec (Eb [2] rfl (Ep (Eg rfl rfl ?_)))
 rotate_left
 intro h87
 try rw [nnp] at h87
 try have h87' := Et h87
 try have h87' := Beat.of_beq (y := Beat.none) h87
 try have h87' := Beat.no_beq (y := Beat.none) h87
 refine Ee rfl (Ee rfl (Ee rfl (Ei rfl (Ea (Ej rfl rfl) (Ei rfl (Ea (Ef rfl) (Ee rfl (Er (is := [199, 208, 209]) rfl (Ee rfl (Ee rfl (Ee rfl ?_)))))))))))
 refine Ee rfl (Ee rfl (Ei rfl (Ea (Ej rfl rfl) (Ea (Ej rfl rfl) (Ea (Ef rfl) (Ed (Ec (Eb [2] rfl (Ep (Eg rfl rfl ?_))))))))))
 rotate_left
 intro h86
 try rw [nnp] at h86
 try have h86' := Et h86
 try have h86' := Beat.of_beq (y := Beat.none) h86
 try have h86' := Beat.no_beq (y := Beat.none) h86
 refine Ee rfl (Ee rfl (Ee rfl (Ee rfl (Fb rfl (Fb rfl (Fb rfl (Ee rfl (Ee rfl (Fb rfl (Er (is := [199, 208, 209]) rfl (Fb rfl ?_)))))))))))
 refine Fb rfl (Fb rfl (Fb rfl (Fb rfl (Ee rfl (Ea (Em rfl rfl) (Ea (Ef rfl) (Ed (Ec (Eb [2] rfl (Ep (Eg rfl rfl ?_)))))))))))
 rotate_left
 intro h78
 try rw [nnp] at h78
 try have h78' := Et h78
 try have h78' := Beat.of_beq (y := Beat.none) h78
 try have h78' := Beat.no_beq (y := Beat.none) h78
 iterate 8 refine Ee rfl ?_
 refine Ea (Ej rfl rfl) (Ea (Ef rfl) (Ed (Ec (Eb [0, 9, 10, 165] rfl (s_condF rfl (Eh (En (Ea (Ek rfl) (Ea (Eo rfl rfl rfl) (Ea (Fv rfl rfl) (Ea (Ef rfl) ?_)))))))))))
 first | refine Ff rfl ?_ ?_ | refine Fe rfl ?_ ?_
 intro h89
 try rw [nnp] at h89
 try have h89' := Et h89
 try have h89' := Beat.of_beq (y := Beat.none) h89
 try have h89' := Beat.no_beq (y := Beat.none) h89
 refine Ea (Ek rfl) (Ei rfl (Ea (Eo rfl rfl rfl) (Ei rfl (Ea (Ef rfl) ?_))))
 first | refine Fq rfl ?_ ?_ | refine Fr rfl ?_ ?_ | refine s_gNF rfl ?_ ?_ | refine Fe rfl ?_ ?_
 intro h90
 try rw [nnp] at h90
 try have h90' := Et h90
 try have h90' := Beat.of_beq (y := Beat.none) h90
 try have h90' := Beat.no_beq (y := Beat.none) h90
 refine Ea (Ek rfl) (Ei rfl (Ea (Eo rfl rfl rfl) (Ei rfl (Ea (Ef rfl) (Ei rfl (Ea (Fn rfl) (Ei rfl (Ea (o_fa rfl) (Ei rfl (Ea (o_ld rfl rfl) (Ei rfl ?_)))))))))))
 refine Ea (Fv rfl rfl) (Er (is := [0, 9, 183, 186, 193]) rfl (Ei rfl (Ea (Ej rfl rfl) (Ea (Em rfl rfl) (Ea (Ef rfl) (Ed (Ec (Eb [0, 9, 179] rfl ?_))))))))
 first | refine Ey rfl ?_ ?_ | refine Ev rfl ?_ ?_
 intro h91
 try rw [nnp] at h91
 try have h91' := Et h91
 try have h91' := Beat.of_beq (y := Beat.none) h91
 try have h91' := Beat.no_beq (y := Beat.none) h91
 refine Eh (En (Ea (Ef rfl) (Ed (Ec (Eb [2] rfl (Ep (Fd (Eu (Eg rfl rfl ?_)))))))))
 rotate_left
 intro h91
 try rw [nnp] at h91
 try have h91' := Et h91
 try have h91' := Beat.of_beq (y := Beat.none) h91
 try have h91' := Beat.no_beq (y := Beat.none) h91
 refine Fa (q_blkN (Ec (Eb [0, 9] rfl (Eh (En (Ea (Ek rfl) (Ea (Eo rfl rfl rfl) (Ea (Fg rfl) (Ea (Ef rfl) ?_)))))))))
 first | refine Fq rfl ?_ ?_ | refine Fr rfl ?_ ?_ | refine s_gNF rfl ?_ ?_ | refine Fe rfl ?_ ?_
 intro h92
 try rw [nnp] at h92
 try have h92' := Et h92
 try have h92' := Beat.of_beq (y := Beat.none) h92
 try have h92' := Beat.no_beq (y := Beat.none) h92
 refine Ea (Ek rfl) (Ei rfl (Ea (Eo rfl rfl rfl) (Ei rfl (Ea (Fv rfl rfl) (Ei rfl (Ea (Ef rfl) ?_))))))
 first | refine Ff rfl ?_ ?_ | refine Fe rfl ?_ ?_
 intro h93
 try rw [nnp] at h93
 try have h93' := Et h93
 try have h93' := Beat.of_beq (y := Beat.none) h93
 try have h93' := Beat.no_beq (y := Beat.none) h93
 refine Ea (Ek rfl) (Ei rfl (Ea (Eo rfl rfl rfl) (Ei rfl (Ea (o_neq rfl rfl) (Ei rfl (Ea (Em rfl rfl) (Ei rfl (Ea (Ef rfl) ?_))))))))
 first | refine Ff rfl ?_ ?_ | refine Fe rfl ?_ ?_
 intro h94
 try rw [nnp] at h94
 try have h94' := Et h94
 try have h94' := Beat.of_beq (y := Beat.none) h94
 try have h94' := Beat.no_beq (y := Beat.none) h94
 refine Ea (Ef rfl) (Er (is := [199, 208, 209]) rfl (Ei rfl (Ea (Fn rfl) (Ei rfl (Ea (o_fa rfl) (Ei rfl (Ea (o_fa rfl) (Ei rfl (Ea (o_ld rfl rfl) (Ei rfl (Ea (Fg rfl) ?_)))))))))))
 refine Ei rfl (Ea (Em rfl rfl) (Ea (Ej rfl rfl) (Ea (Ef rfl) (Ed (Ec (Eb [2] rfl (Ep (Eg rfl rfl ?_))))))))
 rotate_left
 intro h94
 try rw [nnp] at h94
 try have h94' := Et h94
 try have h94' := Beat.of_beq (y := Beat.none) h94
 try have h94' := Beat.no_beq (y := Beat.none) h94
 refine Ee rfl (Er (is := [199, 208, 209]) rfl (Ee rfl (Ee rfl (Ee rfl (Ee rfl (Ee rfl (Ei rfl (Ea (Ej rfl rfl) (Ea (Ej rfl rfl) (Ea (Ef rfl) (Ed ?_)))))))))))
 refine Ec (Eb [2] rfl (Ep (Eg rfl rfl ?_)))
 rotate_left
 intro h93
 try rw [nnp] at h93
 try have h93' := Et h93
 try have h93' := Beat.of_beq (y := Beat.none) h93
 try have h93' := Beat.no_beq (y := Beat.none) h93
 refine Ee rfl (Ee rfl (Ee rfl (Ei rfl (Ea (Ej rfl rfl) (Ei rfl (Ea (Ef rfl) (Ee rfl (Er (is := [199, 208, 209]) rfl (Ee rfl (Ee rfl (Ee rfl ?_)))))))))))
 refine Ee rfl (Ee rfl (Ei rfl (Ea (Ej rfl rfl) (Ea (Ej rfl rfl) (Ea (Ef rfl) (Ed (Ec (Eb [2] rfl (Ep (Eg rfl rfl ?_))))))))))
 rotate_left
 intro h92
 try rw [nnp] at h92
 try have h92' := Et h92
 try have h92' := Beat.of_beq (y := Beat.none) h92
 try have h92' := Beat.no_beq (y := Beat.none) h92
 refine Ee rfl (Ee rfl (Ee rfl (Ee rfl (Fb rfl (Fb rfl (Fb rfl (Ee rfl (Ee rfl (Fb rfl (Er (is := [199, 208, 209]) rfl (Fb rfl ?_)))))))))))
 refine Fb rfl (Fb rfl (Fb rfl (Fb rfl (Ee rfl (Ea (Em rfl rfl) (Ea (Ef rfl) (Ed (Ec (Eb [2] rfl (Ep (Eg rfl rfl ?_)))))))))))
 rotate_left
 intro h90
 try rw [nnp] at h90
 try have h90' := Et h90
 try have h90' := Beat.of_beq (y := Beat.none) h90
 try have h90' := Beat.no_beq (y := Beat.none) h90
 iterate 7 refine Ee rfl ?_
 refine Er (is := [0, 9, 183, 186, 193]) rfl (Ei rfl (Ea (Em rfl rfl) (Ea (Em rfl rfl) (Ea (Ef rfl) (Ed (Ec (Eb [0, 9, 179] rfl (Fi rfl (Eh (En (Ea (Ef rfl) ?_)))))))))))
 refine Ed (Ec (Eb [2] rfl (Ep (Fd (Eu (Eg rfl rfl ?_))))))
 rotate_left
 intro h89
 try rw [nnp] at h89
 try have h89' := Et h89
 try have h89' := Beat.of_beq (y := Beat.none) h89
 try have h89' := Beat.no_beq (y := Beat.none) h89
 refine Ee rfl (Ee rfl (Ee rfl ?_))
 iterate 7 refine Fb rfl ?_
 refine Er (is := [0, 9, 183, 186, 193]) rfl (Ee rfl (Ea (Ej rfl rfl) (Ea (Ef rfl) (Ed (Ec (Eb [0, 9, 179] rfl (s_condF rfl (Fa (q_blkN (Ec (Eb [0, 9] rfl ?_)))))))))))
 refine Eh (En (Ea (Ek rfl) (Ea (Eo rfl rfl rfl) (Ea (Fg rfl) (Ea (Ef rfl) ?_)))))
 first | refine Fq rfl ?_ ?_ | refine Fr rfl ?_ ?_ | refine s_gNF rfl ?_ ?_ | refine Fe rfl ?_ ?_
 intro h95
 try rw [nnp] at h95
 try have h95' := Et h95
 try have h95' := Beat.of_beq (y := Beat.none) h95
 try have h95' := Beat.no_beq (y := Beat.none) h95
 refine Ea (Ek rfl) (Ei rfl (Ea (Eo rfl rfl rfl) (Ei rfl (Ea (Fv rfl rfl) (Ei rfl (Ea (Ef rfl) ?_))))))
 first | refine Ff rfl ?_ ?_ | refine Fe rfl ?_ ?_
 intro h96
 try rw [nnp] at h96
 try have h96' := Et h96
 try have h96' := Beat.of_beq (y := Beat.none) h96
 try have h96' := Beat.no_beq (y := Beat.none) h96
 refine Ea (Ek rfl) (Ei rfl (Ea (Eo rfl rfl rfl) (Ei rfl (Ea (o_neq rfl rfl) (Ei rfl (Ea (Em rfl rfl) (Ei rfl (Ea (Ef rfl) ?_))))))))
 first | refine Ff rfl ?_ ?_ | refine Fe rfl ?_ ?_
 intro h97
 try rw [nnp] at h97
 try have h97' := Et h97
 try have h97' := Beat.of_beq (y := Beat.none) h97
 try have h97' := Beat.no_beq (y := Beat.none) h97
 refine Ea (Ef rfl) (Er (is := [199, 208, 209]) rfl (Ei rfl (Ea (Fn rfl) (Ei rfl (Ea (o_fa rfl) (Ei rfl (Ea (o_fa rfl) (Ei rfl (Ea (o_ld rfl rfl) (Ei rfl (Ea (Fg rfl) ?_)))))))))))
 refine Ei rfl (Ea (Em rfl rfl) (Ea (Ej rfl rfl) (Ea (Ef rfl) (Ed (Ec (Eb [2] rfl (Ep (Eg rfl rfl ?_))))))))
 rotate_left
 intro h97
 try rw [nnp] at h97
 try have h97' := Et h97
 try have h97' := Beat.of_beq (y := Beat.none) h97
 try have h97' := Beat.no_beq (y := Beat.none) h97
 refine Ee rfl (Er (is := [199, 208, 209]) rfl (Ee rfl (Ee rfl (Ee rfl (Ee rfl (Ee rfl (Ei rfl (Ea (Ej rfl rfl) (Ea (Ej rfl rfl) (Ea (Ef rfl) (Ed ?_)))))))))))
 refine Ec (Eb [2] rfl (Ep (Eg rfl rfl ?_)))
 rotate_left
 intro h96
 try rw [nnp] at h96
 try have h96' := Et h96
 try have h96' := Beat.of_beq (y := Beat.none) h96
 try have h96' := Beat.no_beq (y := Beat.none) h96
 refine Ee rfl (Ee rfl (Ee rfl (Ei rfl (Ea (Ej rfl rfl) (Ei rfl (Ea (Ef rfl) (Ee rfl (Er (is := [199, 208, 209]) rfl (Ee rfl (Ee rfl (Ee rfl ?_)))))))))))
 refine Ee rfl (Ee rfl (Ei rfl (Ea (Ej rfl rfl) (Ea (Ej rfl rfl) (Ea (Ef rfl) (Ed (Ec (Eb [2] rfl (Ep (Eg rfl rfl ?_))))))))))
 rotate_left
 intro h95
 try rw [nnp] at h95
 try have h95' := Et h95
 try have h95' := Beat.of_beq (y := Beat.none) h95
 try have h95' := Beat.no_beq (y := Beat.none) h95
 refine Ee rfl (Ee rfl (Ee rfl (Ee rfl (Fb rfl (Fb rfl (Fb rfl (Ee rfl (Ee rfl (Fb rfl (Er (is := [199, 208, 209]) rfl (Fb rfl ?_)))))))))))
 refine Fb rfl (Fb rfl (Fb rfl (Fb rfl (Ee rfl (Ea (Em rfl rfl) (Ea (Ef rfl) (Ed (Ec (Eb [2] rfl (Ep (Eg rfl rfl ?_)))))))))))
 rotate_left
 intro h76
 try rw [nnp] at h76
 try have h76' := Et h76
 try have h76' := Beat.of_beq (y := Beat.none) h76
 try have h76' := Beat.no_beq (y := Beat.none) h76
 refine Ee rfl (Ee rfl (Ee rfl (Ee rfl (Ea (Em rfl rfl) (Ea (Ef rfl) (Ed (Ec (Eb [0, 9, 10, 141] rfl (Fi rfl (Eh (En ?_)))))))))))
 refine Ea (Ef rfl) (Ed (Ec (Eb [2] rfl (Ep (Fd (Eu (Eg rfl rfl ?_)))))))
 rotate_left
 intro h75
 try rw [nnp] at h75
 try have h75' := Et h75
 try have h75' := Beat.of_beq (y := Beat.none) h75
 try have h75' := Beat.no_beq (y := Beat.none) h75
 iterate 8 refine Ee rfl ?_
 refine Er (is := [0, 9, 10, 147, 149, 155]) rfl (Ee rfl (Ee rfl (Ea (Em rfl rfl) (Ea (Ef rfl) (Ee rfl (Ee rfl (Ee rfl (Ee rfl (Ea (Em rfl rfl) (Ea (Ef rfl) (Ed ?_)))))))))))
 refine Ec (Eb [0, 9, 10, 141] rfl (Fi rfl (Eh (En (Ea (Ef rfl) (Ed (Ec (Eb [2] rfl (Ep (Fd (Eu ?_)))))))))))
 refine Eg rfl rfl ?_
 rotate_left
 intro h71
 try rw [nnp] at h71
 try have h71' := Et h71
 try have h71' := Beat.of_beq (y := Beat.none) h71
 try have h71' := Beat.no_beq (y := Beat.none) h71
 refine Ee rfl (Ee rfl (Ee rfl (Ei rfl (Ea (Ej rfl rfl) (Ea (Ej rfl rfl) (Ed (Ec (Eb [0, 122] rfl (s_condF rfl (Fa (Ec ?_)))))))))))
 refine Eb [0] rfl (Eh (En (Ea (Ef rfl) (Ea (Fn rfl) (Ea (o_fa rfl) (Ea (o_ldn rfl rfl) (Ea (o_new rfl rfl) (Fx (o_stnC rfl rfl rfl rfl rfl rfl rfl) (Ed (Ec (Eb [0, 9] rfl ?_)))))))))))
 refine Eh (Eh (En (Ea (Ek rfl) (Ea (Eo rfl rfl rfl) (Ea (Fg rfl) (Ed (Ec (Eb [0, 9, 129] rfl ?_))))))))
 first | refine Ey rfl ?_ ?_ | refine Fp rfl ?_ ?_ | refine Fh rfl ?_ ?_ | refine Ev rfl ?_ ?_
 intro h98
 try rw [nnp] at h98
 try have h98' := Et h98
 try have h98' := Beat.of_beq (y := Beat.none) h98
 try have h98' := Beat.no_beq (y := Beat.none) h98
 refine Eh (En (Ea (Fm rfl rfl rfl) (Ea (o_bd rfl rfl) (Ea (o_eqs rfl rfl rfl rfl rfl) (Ea (Ef rfl) (Ed (Ec (Eb [2] rfl (Ep (Eu (Eg rfl rfl ?_)))))))))))
 rotate_left
 intro h98
 try rw [nnp] at h98
 try have h98' := Et h98
 try have h98' := Beat.of_beq (y := Beat.none) h98
 try have h98' := Beat.no_beq (y := Beat.none) h98
 refine Fa (Ec (Eb [0, 9] rfl (Eh (En (Ea (Ef rfl) (Ea (Fn rfl) (Ea (o_fa rfl) (Ea (o_ld rfl rfl) (Ea (Ek rfl) (Ea (Eo rfl rfl rfl) (s_iaM rfl rfl (by first | omega | (simp; omega) | (have := fly_bd (fly_A hfly (by assumption)); omega) | (have := fly_bd (fly_D hfly (by assumption)); omega)) ?_)))))))))))
 intro y99 e99
 (try have e99m := mAt_of e99); (try have e99s := sAt_of e99); (try simp only [Int.toNat_natCast, Int.toNat_zero] at e99)
 refine Ea (o_ldn rfl rfl) (Ea (o_new rfl rfl) (Fx (o_stnC rfl rfl rfl rfl rfl rfl rfl) (Ed (Ec (Eb [0, 9, 10] rfl (Eh (Fj (Eh (En (Ea (Ek rfl) (Ea (Eo rfl rfl rfl) ?_)))))))))))
 refine Ea (Ek rfl) (Ea (Eo rfl rfl rfl) (Ea (o_neq rfl rfl) (Ea (Ef rfl) ?_)))
 first | refine Fq rfl ?_ ?_ | refine Fe rfl ?_ ?_
 intro h100
 try rw [nnp] at h100
 try have h100' := Et h100
 try have h100' := Beat.of_beq (y := Beat.none) h100
 try have h100' := Beat.no_beq (y := Beat.none) h100
 refine Ea (Ek rfl) (Ei rfl (Ea (Eo rfl rfl rfl) (Ei rfl (Ea (Ef rfl) (Ei rfl (Ea (Fn rfl) (Ei rfl (Ea (o_fa rfl) (Ei rfl (Ea (o_fa rfl) (Ei rfl ?_)))))))))))
 refine Ea (o_ld rfl rfl) (Ei rfl ?_)
 first | refine Ea (Fs rfl rfl (by first | omega | exact cntW_add (hcn _))) ?_ | refine Ea (o_add rfl rfl) ?_
 refine Er (is := [0, 9, 10, 147, 149, 155]) rfl (Ei rfl ?_)
 first | refine Ez rfl rfl (c_103 ..) ?_ | refine Ew rfl rfl (by simp) (c_103 ..) rfl ?_
 refine Ei rfl (Ea (Fg rfl) (Ea (Ej rfl rfl) (Ea (Ef rfl) ?_)))
 first | refine Fq rfl ?_ ?_ | refine Fr rfl ?_ ?_ | refine s_gNF rfl ?_ ?_ | refine Fe rfl ?_ ?_
 intro h101
 try rw [nnp] at h101
 try have h101' := Et h101
 try have h101' := Beat.of_beq (y := Beat.none) h101
 try have h101' := Beat.no_beq (y := Beat.none) h101
 refine Ea (Ek rfl) (Ei rfl (Ea (Eo rfl rfl rfl) (Ei rfl ?_)))
 first | refine Ez rfl rfl (c_103 ..) ?_ | refine Ew rfl rfl (by simp) (c_103 ..) rfl ?_
 refine Ei rfl (Ea (Fg rfl) (Ea (Ej rfl rfl) (Ea (Ef rfl) (Ed (Ec (Eb [0, 9, 10, 141] rfl ?_))))))
 first | refine Ey rfl ?_ ?_ | refine Fp rfl ?_ ?_ | refine Fh rfl ?_ ?_ | refine Ev rfl ?_ ?_
 intro h102
 try rw [nnp] at h102
 try have h102' := Et h102
 try have h102' := Beat.of_beq (y := Beat.none) h102
 try have h102' := Beat.no_beq (y := Beat.none) h102
 refine Eh (En (Ea (Ef rfl) (Ed (Ec (Eb [2] rfl (Ep (Fd (Eu (Eg rfl rfl ?_)))))))))
 rotate_left
 intro h102
 try rw [nnp] at h102
 try have h102' := Et h102
 try have h102' := Beat.of_beq (y := Beat.none) h102
 try have h102' := Beat.no_beq (y := Beat.none) h102
 refine Eh (En (Ea (Ek rfl) (Ea (Eo rfl rfl rfl) (Ea (Fv rfl rfl) (Ea (Ef rfl) ?_)))))
 first | refine Ff rfl ?_ ?_ | refine Fe rfl ?_ ?_
 intro h103
 try rw [nnp] at h103
 try have h103' := Et h103
 try have h103' := Beat.of_beq (y := Beat.none) h103
 try have h103' := Beat.no_beq (y := Beat.none) h103
 refine Ea (Ek rfl) (Ei rfl (Ea (Eo rfl rfl rfl) (Ei rfl (Ea (Ef rfl) (Ei rfl (Ea (Fn rfl) (Ei rfl (Ea (o_fa rfl) (Ei rfl (Ea (o_fa rfl) (Ei rfl ?_)))))))))))
 refine Ea (o_ld rfl rfl) (Ei rfl (Ea (o_geq rfl rfl) (Ea (Em rfl rfl) (Ea (Ef rfl) (Ed (Ec (Eb [0, 9, 10, 165] rfl ?_)))))))
 first | refine Ey rfl ?_ ?_ | refine Ev rfl ?_ ?_
 intro h104
 try rw [nnp] at h104
 try have h104' := Et h104
 try have h104' := Beat.of_beq (y := Beat.none) h104
 try have h104' := Beat.no_beq (y := Beat.none) h104
 refine Eh (En (Ea (Ef rfl) (Ed (Ec (Eb [2] rfl (Ep (Fd (Eu (Eg rfl rfl ?_)))))))))
 rotate_left
 intro h104
 try rw [nnp] at h104
 try have h104' := Et h104
 try have h104' := Beat.of_beq (y := Beat.none) h104
 try have h104' := Beat.no_beq (y := Beat.none) h104
 refine Eh (En (Ea (Ek rfl) (Ea (Eo rfl rfl rfl) (Ea (Fv rfl rfl) (Ea (Ef rfl) ?_)))))
 first | refine Ff rfl ?_ ?_ | refine Fe rfl ?_ ?_
 intro h105
 try rw [nnp] at h105
 try have h105' := Et h105
 try have h105' := Beat.of_beq (y := Beat.none) h105
 try have h105' := Beat.no_beq (y := Beat.none) h105
 refine Ea (Ek rfl) (Ei rfl (Ea (Eo rfl rfl rfl) (Ei rfl (Ea (Ef rfl) ?_))))
 first | refine Fq rfl ?_ ?_ | refine Fr rfl ?_ ?_ | refine s_gNF rfl ?_ ?_ | refine Fe rfl ?_ ?_
 intro h106
 try rw [nnp] at h106
 try have h106' := Et h106
 try have h106' := Beat.of_beq (y := Beat.none) h106
 try have h106' := Beat.no_beq (y := Beat.none) h106
 refine Ea (Ek rfl) (Ei rfl (Ea (Eo rfl rfl rfl) (Ei rfl (Ea (Ef rfl) (Ei rfl (Ea (Fn rfl) (Ei rfl (Ea (o_fa rfl) (Ei rfl (Ea (o_ld rfl rfl) (Ei rfl ?_)))))))))))
 refine Ea (Fv rfl rfl) (Er (is := [0, 9, 183, 186, 193]) rfl (Ei rfl (Ea (Ej rfl rfl) (Ea (Em rfl rfl) (Ea (Ef rfl) (Ed (Ec (Eb [0, 9, 179] rfl ?_))))))))
 first | refine Ey rfl ?_ ?_ | refine Ev rfl ?_ ?_
 intro h107
 try rw [nnp] at h107
 try have h107' := Et h107
 try have h107' := Beat.of_beq (y := Beat.none) h107
 try have h107' := Beat.no_beq (y := Beat.none) h107
 refine Eh (En (Ea (Ef rfl) (Ed (Ec (Eb [2] rfl (Ep (Fd (Eu (Eg rfl rfl ?_)))))))))
 rotate_left
 intro h107
 try rw [nnp] at h107
 try have h107' := Et h107
 try have h107' := Beat.of_beq (y := Beat.none) h107
 try have h107' := Beat.no_beq (y := Beat.none) h107
 refine Fa (q_blkN (Ec (Eb [0, 9] rfl (Eh (En (Ea (Ek rfl) (Ea (Eo rfl rfl rfl) (Ea (Fg rfl) (Ea (Ef rfl) ?_)))))))))
 first | refine Fq rfl ?_ ?_ | refine Fr rfl ?_ ?_ | refine s_gNF rfl ?_ ?_ | refine Fe rfl ?_ ?_
 intro h108
 try rw [nnp] at h108
 try have h108' := Et h108
 try have h108' := Beat.of_beq (y := Beat.none) h108
 try have h108' := Beat.no_beq (y := Beat.none) h108
 refine Ea (Ek rfl) (Ei rfl (Ea (Eo rfl rfl rfl) (Ei rfl (Ea (Fv rfl rfl) (Ei rfl (Ea (Ef rfl) ?_))))))
 first | refine Ff rfl ?_ ?_ | refine Fe rfl ?_ ?_
 intro h109
 try rw [nnp] at h109
 try have h109' := Et h109
 try have h109' := Beat.of_beq (y := Beat.none) h109
 try have h109' := Beat.no_beq (y := Beat.none) h109
 refine Ea (Ek rfl) (Ei rfl (Ea (Eo rfl rfl rfl) (Ei rfl (Ea (o_neq rfl rfl) (Ei rfl (Ea (Em rfl rfl) (Ei rfl (Ea (Ef rfl) ?_))))))))
 first | refine Ff rfl ?_ ?_ | refine Fe rfl ?_ ?_
 intro h110
 try rw [nnp] at h110
 try have h110' := Et h110
 try have h110' := Beat.of_beq (y := Beat.none) h110
 try have h110' := Beat.no_beq (y := Beat.none) h110
 refine Ea (Ef rfl) (Er (is := [199, 208, 209]) rfl (Ei rfl (Ea (Fn rfl) (Ei rfl (Ea (o_fa rfl) (Ei rfl (Ea (o_fa rfl) (Ei rfl (Ea (o_ld rfl rfl) (Ei rfl (Ea (Fg rfl) ?_)))))))))))
 refine Ei rfl (Ea (Em rfl rfl) (Ea (Ej rfl rfl) (Ea (Ef rfl) (Ed (Ec (Eb [2] rfl (Ep (Eg rfl rfl ?_))))))))
 rotate_left
 intro h110
 try rw [nnp] at h110
 try have h110' := Et h110
 try have h110' := Beat.of_beq (y := Beat.none) h110
 try have h110' := Beat.no_beq (y := Beat.none) h110
 refine Ee rfl (Er (is := [199, 208, 209]) rfl (Ee rfl (Ee rfl (Ee rfl (Ee rfl (Ee rfl (Ei rfl (Ea (Ej rfl rfl) (Ea (Ej rfl rfl) (Ea (Ef rfl) (Ed ?_)))))))))))
 refine Ec (Eb [2] rfl (Ep (Eg rfl rfl ?_)))
 rotate_left
 intro h109
 try rw [nnp] at h109
 try have h109' := Et h109
 try have h109' := Beat.of_beq (y := Beat.none) h109
 try have h109' := Beat.no_beq (y := Beat.none) h109
 refine Ee rfl (Ee rfl (Ee rfl (Ei rfl (Ea (Ej rfl rfl) (Ei rfl (Ea (Ef rfl) (Ee rfl (Er (is := [199, 208, 209]) rfl (Ee rfl (Ee rfl (Ee rfl ?_)))))))))))
 refine Ee rfl (Ee rfl (Ei rfl (Ea (Ej rfl rfl) (Ea (Ej rfl rfl) (Ea (Ef rfl) (Ed (Ec (Eb [2] rfl (Ep (Eg rfl rfl ?_))))))))))
 rotate_left
 intro h108
 try rw [nnp] at h108
 try have h108' := Et h108
 try have h108' := Beat.of_beq (y := Beat.none) h108
 try have h108' := Beat.no_beq (y := Beat.none) h108
 refine Ee rfl (Ee rfl (Ee rfl (Ee rfl (Fb rfl (Fb rfl (Fb rfl (Ee rfl (Ee rfl (Fb rfl (Er (is := [199, 208, 209]) rfl (Fb rfl ?_)))))))))))
 refine Fb rfl (Fb rfl (Fb rfl (Fb rfl (Ee rfl (Ea (Em rfl rfl) (Ea (Ef rfl) (Ed (Ec (Eb [2] rfl (Ep (Eg rfl rfl ?_)))))))))))
 rotate_left
 intro h106
 try rw [nnp] at h106
 try have h106' := Et h106
 try have h106' := Beat.of_beq (y := Beat.none) h106
 try have h106' := Beat.no_beq (y := Beat.none) h106
 iterate 7 refine Ee rfl ?_
 refine Er (is := [0, 9, 183, 186, 193]) rfl (Ei rfl (Ea (Em rfl rfl) (Ea (Em rfl rfl) (Ea (Ef rfl) (Ed (Ec (Eb [0, 9, 179] rfl (Fi rfl (Eh (En (Ea (Ef rfl) ?_)))))))))))
 refine Ed (Ec (Eb [2] rfl (Ep (Fd (Eu (Eg rfl rfl ?_))))))
 rotate_left
 intro h105
 try rw [nnp] at h105
 try have h105' := Et h105
 try have h105' := Beat.of_beq (y := Beat.none) h105
 try have h105' := Beat.no_beq (y := Beat.none) h105
 refine Ee rfl (Ee rfl (Ee rfl ?_))
 iterate 7 refine Fb rfl ?_
 refine Er (is := [0, 9, 183, 186, 193]) rfl (Ee rfl (Ea (Ej rfl rfl) (Ea (Ef rfl) (Ed (Ec (Eb [0, 9, 179] rfl (s_condF rfl (Fa (q_blkN (Ec (Eb [0, 9] rfl ?_)))))))))))
 refine Eh (En (Ea (Ek rfl) (Ea (Eo rfl rfl rfl) (Ea (Fg rfl) (Ea (Ef rfl) ?_)))))
 first | refine Fq rfl ?_ ?_ | refine Fr rfl ?_ ?_ | refine s_gNF rfl ?_ ?_ | refine Fe rfl ?_ ?_
 intro h111
 try rw [nnp] at h111
 try have h111' := Et h111
 try have h111' := Beat.of_beq (y := Beat.none) h111
 try have h111' := Beat.no_beq (y := Beat.none) h111
 refine Ea (Ek rfl) (Ei rfl (Ea (Eo rfl rfl rfl) (Ei rfl (Ea (Fv rfl rfl) (Ei rfl (Ea (Ef rfl) ?_))))))
 first | refine Ff rfl ?_ ?_ | refine Fe rfl ?_ ?_
 intro h112
 try rw [nnp] at h112
 try have h112' := Et h112
 try have h112' := Beat.of_beq (y := Beat.none) h112
 try have h112' := Beat.no_beq (y := Beat.none) h112
 refine Ea (Ek rfl) (Ei rfl (Ea (Eo rfl rfl rfl) (Ei rfl (Ea (o_neq rfl rfl) (Ei rfl (Ea (Em rfl rfl) (Ei rfl (Ea (Ef rfl) ?_))))))))
 first | refine Ff rfl ?_ ?_ | refine Fe rfl ?_ ?_
 intro h113
 try rw [nnp] at h113
 try have h113' := Et h113
 try have h113' := Beat.of_beq (y := Beat.none) h113
 try have h113' := Beat.no_beq (y := Beat.none) h113
 refine Ea (Ef rfl) (Er (is := [199, 208, 209]) rfl (Ei rfl (Ea (Fn rfl) (Ei rfl (Ea (o_fa rfl) (Ei rfl (Ea (o_fa rfl) (Ei rfl (Ea (o_ld rfl rfl) (Ei rfl (Ea (Fg rfl) ?_)))))))))))
 refine Ei rfl (Ea (Em rfl rfl) (Ea (Ej rfl rfl) (Ea (Ef rfl) (Ed (Ec (Eb [2] rfl (Ep (Eg rfl rfl ?_))))))))
 rotate_left
 intro h113
 try rw [nnp] at h113
 try have h113' := Et h113
 try have h113' := Beat.of_beq (y := Beat.none) h113
 try have h113' := Beat.no_beq (y := Beat.none) h113
 refine Ee rfl (Er (is := [199, 208, 209]) rfl (Ee rfl (Ee rfl (Ee rfl (Ee rfl (Ee rfl (Ei rfl (Ea (Ej rfl rfl) (Ea (Ej rfl rfl) (Ea (Ef rfl) (Ed ?_)))))))))))
 refine Ec (Eb [2] rfl (Ep (Eg rfl rfl ?_)))
 rotate_left
 intro h112
 try rw [nnp] at h112
 try have h112' := Et h112
 try have h112' := Beat.of_beq (y := Beat.none) h112
 try have h112' := Beat.no_beq (y := Beat.none) h112
 refine Ee rfl (Ee rfl (Ee rfl (Ei rfl (Ea (Ej rfl rfl) (Ei rfl (Ea (Ef rfl) (Ee rfl (Er (is := [199, 208, 209]) rfl (Ee rfl (Ee rfl (Ee rfl ?_)))))))))))
 refine Ee rfl (Ee rfl (Ei rfl (Ea (Ej rfl rfl) (Ea (Ej rfl rfl) (Ea (Ef rfl) (Ed (Ec (Eb [2] rfl (Ep (Eg rfl rfl ?_))))))))))
 rotate_left
 intro h111
 try rw [nnp] at h111
 try have h111' := Et h111
 try have h111' := Beat.of_beq (y := Beat.none) h111
 try have h111' := Beat.no_beq (y := Beat.none) h111
 refine Ee rfl (Ee rfl (Ee rfl (Ee rfl (Fb rfl (Fb rfl (Fb rfl (Ee rfl (Ee rfl (Fb rfl (Er (is := [199, 208, 209]) rfl (Fb rfl ?_)))))))))))
 refine Fb rfl (Fb rfl (Fb rfl (Fb rfl (Ee rfl (Ea (Em rfl rfl) (Ea (Ef rfl) (Ed (Ec (Eb [2] rfl (Ep (Eg rfl rfl ?_)))))))))))
 rotate_left
 intro h103
 try rw [nnp] at h103
 try have h103' := Et h103
 try have h103' := Beat.of_beq (y := Beat.none) h103
 try have h103' := Beat.no_beq (y := Beat.none) h103
 iterate 8 refine Ee rfl ?_
 refine Ea (Ej rfl rfl) (Ea (Ef rfl) (Ed (Ec (Eb [0, 9, 10, 165] rfl (s_condF rfl (Eh (En (Ea (Ek rfl) (Ea (Eo rfl rfl rfl) (Ea (Fv rfl rfl) (Ea (Ef rfl) ?_)))))))))))
 first | refine Ff rfl ?_ ?_ | refine Fe rfl ?_ ?_
 intro h114
 try rw [nnp] at h114
 try have h114' := Et h114
 try have h114' := Beat.of_beq (y := Beat.none) h114
 try have h114' := Beat.no_beq (y := Beat.none) h114
 refine Ea (Ek rfl) (Ei rfl (Ea (Eo rfl rfl rfl) (Ei rfl (Ea (Ef rfl) ?_))))
 first | refine Fq rfl ?_ ?_ | refine Fr rfl ?_ ?_ | refine s_gNF rfl ?_ ?_ | refine Fe rfl ?_ ?_
 intro h115
 try rw [nnp] at h115
 try have h115' := Et h115
 try have h115' := Beat.of_beq (y := Beat.none) h115
 try have h115' := Beat.no_beq (y := Beat.none) h115
 refine Ea (Ek rfl) (Ei rfl (Ea (Eo rfl rfl rfl) (Ei rfl (Ea (Ef rfl) (Ei rfl (Ea (Fn rfl) (Ei rfl (Ea (o_fa rfl) (Ei rfl (Ea (o_ld rfl rfl) (Ei rfl ?_)))))))))))
 refine Ea (Fv rfl rfl) (Er (is := [0, 9, 183, 186, 193]) rfl (Ei rfl (Ea (Ej rfl rfl) (Ea (Em rfl rfl) (Ea (Ef rfl) (Ed (Ec (Eb [0, 9, 179] rfl ?_))))))))
 first | refine Ey rfl ?_ ?_ | refine Ev rfl ?_ ?_
 intro h116
 try rw [nnp] at h116
 try have h116' := Et h116
 try have h116' := Beat.of_beq (y := Beat.none) h116
 try have h116' := Beat.no_beq (y := Beat.none) h116
 refine Eh (En (Ea (Ef rfl) (Ed (Ec (Eb [2] rfl (Ep (Fd (Eu (Eg rfl rfl ?_)))))))))
 rotate_left
 intro h116
 try rw [nnp] at h116
 try have h116' := Et h116
 try have h116' := Beat.of_beq (y := Beat.none) h116
 try have h116' := Beat.no_beq (y := Beat.none) h116
 refine Fa (q_blkN (Ec (Eb [0, 9] rfl (Eh (En (Ea (Ek rfl) (Ea (Eo rfl rfl rfl) (Ea (Fg rfl) (Ea (Ef rfl) ?_)))))))))
 first | refine Fq rfl ?_ ?_ | refine Fr rfl ?_ ?_ | refine s_gNF rfl ?_ ?_ | refine Fe rfl ?_ ?_
 intro h117
 try rw [nnp] at h117
 try have h117' := Et h117
 try have h117' := Beat.of_beq (y := Beat.none) h117
 try have h117' := Beat.no_beq (y := Beat.none) h117
 refine Ea (Ek rfl) (Ei rfl (Ea (Eo rfl rfl rfl) (Ei rfl (Ea (Fv rfl rfl) (Ei rfl (Ea (Ef rfl) ?_))))))
 first | refine Ff rfl ?_ ?_ | refine Fe rfl ?_ ?_
 intro h118
 try rw [nnp] at h118
 try have h118' := Et h118
 try have h118' := Beat.of_beq (y := Beat.none) h118
 try have h118' := Beat.no_beq (y := Beat.none) h118
 refine Ea (Ek rfl) (Ei rfl (Ea (Eo rfl rfl rfl) (Ei rfl (Ea (o_neq rfl rfl) (Ei rfl (Ea (Em rfl rfl) (Ei rfl (Ea (Ef rfl) ?_))))))))
 first | refine Ff rfl ?_ ?_ | refine Fe rfl ?_ ?_
 intro h119
 try rw [nnp] at h119
 try have h119' := Et h119
 try have h119' := Beat.of_beq (y := Beat.none) h119
 try have h119' := Beat.no_beq (y := Beat.none) h119
 refine Ea (Ef rfl) (Er (is := [199, 208, 209]) rfl (Ei rfl (Ea (Fn rfl) (Ei rfl (Ea (o_fa rfl) (Ei rfl (Ea (o_fa rfl) (Ei rfl (Ea (o_ld rfl rfl) (Ei rfl (Ea (Fg rfl) ?_)))))))))))
 refine Ei rfl (Ea (Em rfl rfl) (Ea (Ej rfl rfl) (Ea (Ef rfl) (Ed (Ec (Eb [2] rfl (Ep (Eg rfl rfl ?_))))))))
 rotate_left
 intro h119
 try rw [nnp] at h119
 try have h119' := Et h119
 try have h119' := Beat.of_beq (y := Beat.none) h119
 try have h119' := Beat.no_beq (y := Beat.none) h119
 refine Ee rfl (Er (is := [199, 208, 209]) rfl (Ee rfl (Ee rfl (Ee rfl (Ee rfl (Ee rfl (Ei rfl (Ea (Ej rfl rfl) (Ea (Ej rfl rfl) (Ea (Ef rfl) (Ed ?_)))))))))))
 refine Ec (Eb [2] rfl (Ep (Eg rfl rfl ?_)))
 rotate_left
 intro h118
 try rw [nnp] at h118
 try have h118' := Et h118
 try have h118' := Beat.of_beq (y := Beat.none) h118
 try have h118' := Beat.no_beq (y := Beat.none) h118
 refine Ee rfl (Ee rfl (Ee rfl (Ei rfl (Ea (Ej rfl rfl) (Ei rfl (Ea (Ef rfl) (Ee rfl (Er (is := [199, 208, 209]) rfl (Ee rfl (Ee rfl (Ee rfl ?_)))))))))))
 refine Ee rfl (Ee rfl (Ei rfl (Ea (Ej rfl rfl) (Ea (Ej rfl rfl) (Ea (Ef rfl) (Ed (Ec (Eb [2] rfl (Ep (Eg rfl rfl ?_))))))))))
 rotate_left
 intro h117
 try rw [nnp] at h117
 try have h117' := Et h117
 try have h117' := Beat.of_beq (y := Beat.none) h117
 try have h117' := Beat.no_beq (y := Beat.none) h117
 refine Ee rfl (Ee rfl (Ee rfl (Ee rfl (Fb rfl (Fb rfl (Fb rfl (Ee rfl (Ee rfl (Fb rfl (Er (is := [199, 208, 209]) rfl (Fb rfl ?_)))))))))))
 refine Fb rfl (Fb rfl (Fb rfl (Fb rfl (Ee rfl (Ea (Em rfl rfl) (Ea (Ef rfl) (Ed (Ec (Eb [2] rfl (Ep (Eg rfl rfl ?_)))))))))))
 rotate_left
 intro h115
 try rw [nnp] at h115
 try have h115' := Et h115
 try have h115' := Beat.of_beq (y := Beat.none) h115
 try have h115' := Beat.no_beq (y := Beat.none) h115
 iterate 7 refine Ee rfl ?_
 refine Er (is := [0, 9, 183, 186, 193]) rfl (Ei rfl (Ea (Em rfl rfl) (Ea (Em rfl rfl) (Ea (Ef rfl) (Ed (Ec (Eb [0, 9, 179] rfl (Fi rfl (Eh (En (Ea (Ef rfl) ?_)))))))))))
 refine Ed (Ec (Eb [2] rfl (Ep (Fd (Eu (Eg rfl rfl ?_))))))
 rotate_left
 intro h114
 try rw [nnp] at h114
 try have h114' := Et h114
 try have h114' := Beat.of_beq (y := Beat.none) h114
 try have h114' := Beat.no_beq (y := Beat.none) h114
 refine Ee rfl (Ee rfl (Ee rfl ?_))
 iterate 7 refine Fb rfl ?_
 refine Er (is := [0, 9, 183, 186, 193]) rfl (Ee rfl (Ea (Ej rfl rfl) (Ea (Ef rfl) (Ed (Ec (Eb [0, 9, 179] rfl (s_condF rfl (Fa (q_blkN (Ec (Eb [0, 9] rfl ?_)))))))))))
 refine Eh (En (Ea (Ek rfl) (Ea (Eo rfl rfl rfl) (Ea (Fg rfl) (Ea (Ef rfl) ?_)))))
 first | refine Fq rfl ?_ ?_ | refine Fr rfl ?_ ?_ | refine s_gNF rfl ?_ ?_ | refine Fe rfl ?_ ?_
 intro h120
 try rw [nnp] at h120
 try have h120' := Et h120
 try have h120' := Beat.of_beq (y := Beat.none) h120
 try have h120' := Beat.no_beq (y := Beat.none) h120
 refine Ea (Ek rfl) (Ei rfl (Ea (Eo rfl rfl rfl) (Ei rfl (Ea (Fv rfl rfl) (Ei rfl (Ea (Ef rfl) ?_))))))
 first | refine Ff rfl ?_ ?_ | refine Fe rfl ?_ ?_
 intro h121
 try rw [nnp] at h121
 try have h121' := Et h121
 try have h121' := Beat.of_beq (y := Beat.none) h121
 try have h121' := Beat.no_beq (y := Beat.none) h121
 refine Ea (Ek rfl) (Ei rfl (Ea (Eo rfl rfl rfl) (Ei rfl (Ea (o_neq rfl rfl) (Ei rfl (Ea (Em rfl rfl) (Ei rfl (Ea (Ef rfl) ?_))))))))
 first | refine Ff rfl ?_ ?_ | refine Fe rfl ?_ ?_
 intro h122
 try rw [nnp] at h122
 try have h122' := Et h122
 try have h122' := Beat.of_beq (y := Beat.none) h122
 try have h122' := Beat.no_beq (y := Beat.none) h122
 refine Ea (Ef rfl) (Er (is := [199, 208, 209]) rfl (Ei rfl (Ea (Fn rfl) (Ei rfl (Ea (o_fa rfl) (Ei rfl (Ea (o_fa rfl) (Ei rfl (Ea (o_ld rfl rfl) (Ei rfl (Ea (Fg rfl) ?_)))))))))))
 refine Ei rfl (Ea (Em rfl rfl) (Ea (Ej rfl rfl) (Ea (Ef rfl) (Ed (Ec (Eb [2] rfl (Ep (Eg rfl rfl ?_))))))))
 rotate_left
 intro h122
 try rw [nnp] at h122
 try have h122' := Et h122
 try have h122' := Beat.of_beq (y := Beat.none) h122
 try have h122' := Beat.no_beq (y := Beat.none) h122
 refine Ee rfl (Er (is := [199, 208, 209]) rfl (Ee rfl (Ee rfl (Ee rfl (Ee rfl (Ee rfl (Ei rfl (Ea (Ej rfl rfl) (Ea (Ej rfl rfl) (Ea (Ef rfl) (Ed ?_)))))))))))
 refine Ec (Eb [2] rfl (Ep (Eg rfl rfl ?_)))
 rotate_left
 intro h121
 try rw [nnp] at h121
 try have h121' := Et h121
 try have h121' := Beat.of_beq (y := Beat.none) h121
 try have h121' := Beat.no_beq (y := Beat.none) h121
 refine Ee rfl (Ee rfl (Ee rfl (Ei rfl (Ea (Ej rfl rfl) (Ei rfl (Ea (Ef rfl) (Ee rfl (Er (is := [199, 208, 209]) rfl (Ee rfl (Ee rfl (Ee rfl ?_)))))))))))
 refine Ee rfl (Ee rfl (Ei rfl (Ea (Ej rfl rfl) (Ea (Ej rfl rfl) (Ea (Ef rfl) (Ed (Ec (Eb [2] rfl (Ep (Eg rfl rfl ?_))))))))))
 rotate_left
 intro h120
 try rw [nnp] at h120
 try have h120' := Et h120
 try have h120' := Beat.of_beq (y := Beat.none) h120
 try have h120' := Beat.no_beq (y := Beat.none) h120
 refine Ee rfl (Ee rfl (Ee rfl (Ee rfl (Fb rfl (Fb rfl (Fb rfl (Ee rfl (Ee rfl (Fb rfl (Er (is := [199, 208, 209]) rfl (Fb rfl ?_)))))))))))
 refine Fb rfl (Fb rfl (Fb rfl (Fb rfl (Ee rfl (Ea (Em rfl rfl) (Ea (Ef rfl) (Ed (Ec (Eb [2] rfl (Ep (Eg rfl rfl ?_)))))))))))
 rotate_left
 intro h101
 try rw [nnp] at h101
 try have h101' := Et h101
 try have h101' := Beat.of_beq (y := Beat.none) h101
 try have h101' := Beat.no_beq (y := Beat.none) h101
 refine Ee rfl (Ee rfl (Ee rfl (Ee rfl (Ea (Em rfl rfl) (Ea (Ef rfl) (Ed (Ec (Eb [0, 9, 10, 141] rfl (Fi rfl (Eh (En ?_)))))))))))
 refine Ea (Ef rfl) (Ed (Ec (Eb [2] rfl (Ep (Fd (Eu (Eg rfl rfl ?_)))))))
 rotate_left
 intro h100
 try rw [nnp] at h100
 try have h100' := Et h100
 try have h100' := Beat.of_beq (y := Beat.none) h100
 try have h100' := Beat.no_beq (y := Beat.none) h100
 iterate 8 refine Ee rfl ?_
 refine Er (is := [0, 9, 10, 147, 149, 155]) rfl (Ee rfl (Ee rfl (Ea (Em rfl rfl) (Ea (Ef rfl) (Ee rfl (Ee rfl (Ee rfl (Ee rfl (Ea (Em rfl rfl) (Ea (Ef rfl) (Ed ?_)))))))))))
 refine Ec (Eb [0, 9, 10, 141] rfl (Fi rfl (Eh (En (Ea (Ef rfl) (Ed (Ec (Eb [2] rfl (Ep (Fd (Eu ?_)))))))))))
 refine Eg rfl rfl ?_
 rotate_left
 all_goals
  first | exact (fly_no (by assumption) (by clear hj hs; simp_all [flyOk])).symm | exact (ways_no (by omega : i < b.ms.length) (by clear hi hs; simp_all [wOkAt])).symm | (rw [beats_all (rall_end hi.2 hi.1 (by omega))]; have hA := @fly_A b hfly; have hD := @fly_D b hfly; clear hi hs hfly hj; first | (simp_all [beatA, beatD]; done) | (simp_all [beatA, beatD]; omega) | (show Beat.beq b.data Beat.none = _; rw [Beat.beq_dec]; simp_all [beatA, beatD]; done))
def lAt (b : Bus) (k : Int) : Done := (b.log[k.toNat]?).getD ⟨0, 0, false, 0, 0, 0, 0⟩
theorem lAt_of {b : Bus} {k : Int} {m : Done} (h : b.log[k.toNat]? = some m) : lAt b k = m := by unfold lAt; rw [h]; rfl
def prevC (b : Bus) (i : Nat) : Int := match i with | 0 => -1 | k + 1 => (lAt b k).cycle
def logAt (b : Bus) (i : Nat) : Bool := decide (prevC b i < (lAt b i).cycle) && decide ((lAt b i).cycle < b.now) && inB (lAt b i).who 0 (b.ms.length - 1) && aligned (lAt b i).addr (lAt b i).size && decide ((lAt b i).addr < 512) && inB (lAt b i).value 0 (limit (lAt b i).size - 1) && (decide ((lAt b i).resp = 0) || decide ((lAt b i).resp = 1))
def loggedB (b : Bus) : Bool := (List.range b.log.length).all (logAt b)
theorem logAt_lt {b : Bus} {i : Nat} (h : logAt b i = true) : prevC b i < (lAt b i).cycle := by
 simp only [logAt, Bool.and_eq_true, decide_eq_true_eq] at h
 exact h.1.1.1.1.1.1
theorem prev_nn {b : Bus} : ∀ {i : Nat}, (List.range i).all (logAt b) = true → -1 ≤ prevC b i ∧ (0 < i → 0 ≤ prevC b i)
 | 0, _ => ⟨by simp [prevC], fun h => absurd h (by omega)⟩
 | i + 1, h => by
   rw [List.range_succ, List.all_append] at h
   simp only [Bool.and_eq_true, List.all_cons, List.all_nil, Bool.and_true] at h
   have h1 := prev_nn h.1
   have h2 := logAt_lt h.2
   have : prevC b (i + 1) = (lAt b i).cycle := rfl
   omega
theorem prev_of {b : Bus} {i : Nat} {y : Done} (h : 0 < i) (hy : b.log[i - 1]? = some y) : prevC b i = y.cycle := by
 obtain ⟨k, rfl⟩ : ∃ k, i = k + 1 := ⟨i - 1, by omega⟩
 simp only [Nat.add_sub_cancel] at hy
 show (lAt b k).cycle = y.cycle
 rw [lAt_of (k := (k : Int)) hy]
theorem aligned_nn {a z : Int} (h : aligned a z = true) : 0 ≤ a := by
 simp only [aligned, Bool.and_eq_true, decide_eq_true_eq] at h
 exact h.1.2
set_option maxHeartbeats 1000000 in
theorem c_12 (b : Bus) (hs : b.small) (he : b.even) : CV prg 12 [.rp b.r 0] (fun res => res = .w (.bool (loggedB b))) := by
 have hml : b.ms.length ≤ 1048576 := hs.2.1
 have hlg : b.log.length ≤ 1048576 := hs.2.2.2.2.2.2
 have he1 := he.ms
 have hcl : b.conf.masters.length ≤ 1048576 := by omega
 refine Fo g12 (Eb [0] rfl (Eh (En (Ea (Ef rfl) (Ed (Ec (Eb [0] rfl (Eh (En (Ea (Ef rfl) (Ed ?_)))))))))))
 refine Ec (Eb [0, 3] rfl (Eh (Eh (En (Ea (Ef rfl) (Ea (Fn rfl) (Ea (o_fa rfl) (Ea (o_ld rfl rfl) ?_))))))))
 first | refine Ea (Fk rfl) ?_ | refine Ea (Fu rfl) ?_ | refine Ea (o_lenL rfl rfl rfl) ?_ | refine Ea (o_lenN rfl) ?_
 refine Ea (Ef rfl) (Ed (Ec (Eb [0, 3, 9, 10, 11] rfl (Fj (S_loop0 (ι := Nat) (fun i => i ≤ b.log.length ∧ (List.range i).all (logAt b) = true) (fun i => [(11, .w (.int .i64 (i : Int))), (3, .w (.int .i64 (prevC b i)))]) (fun i => b.log.length - i) 0 (by simp) rfl ⟨rfl, rfl, trivial⟩ (fun _ _ => rfl) rfl ?_)))))
 intro i hi
 refine Eb [0, 3, 9, 10, 11] rfl (Eh (En (Ea (o_lss rfl rfl) (Ed (Ec (Eb [0, 3, 9, 10, 11, 12] rfl (Eh ?_)))))))
 first | refine Ey rfl ?_ ?_ | refine Ev rfl ?_ ?_
 intro h1
 try rw [nnp] at h1
 refine Fa (Ec (Eb [0, 3, 9, 10, 11] rfl (Eh (Fj (Eh (En (s_iaM rfl rfl (by omega) ?_)))))))
 intro y2 e2
 (try have e2l := lAt_of e2); (try simp only [Int.toNat_natCast, Int.toNat_zero] at e2)
 refine Ea (o_ldn rfl rfl) (Ea (o_new rfl rfl) (Fx (o_stnC rfl rfl rfl rfl rfl rfl rfl) (Ed (Ec (Eb [0, 3, 5, 9, 10, 11] rfl (Eh (Eh (En (Ea (Ek rfl) (Ea (Eo rfl rfl rfl) (Ea (Ef rfl) ?_)))))))))))
 refine Ea (o_leq rfl rfl) (Ea (Ef rfl) ?_)
 first | refine Fq rfl ?_ ?_ | refine Fe rfl ?_ ?_
 intro h3
 try rw [nnp] at h3
 refine Ea (Ek rfl) (Ei rfl (Ea (Eo rfl rfl rfl) (Ei rfl (Ea (Ef rfl) (Ei rfl (Ea (Fn rfl) (Ei rfl (Ea (o_fa rfl) (Ei rfl (Ea (o_ld rfl rfl) (Ei rfl ?_)))))))))))
 refine Ea (o_geq rfl rfl) (Ea (Ej rfl rfl) (Ea (Ef rfl) (Er (is := [0, 5, 9, 10, 11, 20, 21, 22, 23, 24, 25, 26, 28]) rfl ?_)))
 first | refine Fq rfl ?_ ?_ | refine Fe rfl ?_ ?_
 intro h4
 try rw [nnp] at h4
 refine Ea (Ef rfl) (Ei rfl (Ea (Fn rfl) (Ei rfl (Ea (o_fa rfl) (Ei rfl (Ea (o_ldn rfl rfl) (Ei rfl (Ea (Ek rfl) (Ei rfl (Ea (Eo rfl rfl rfl) (Ei rfl ?_)))))))))))
 first | refine Ez rfl rfl (c_91 b.conf _ hcl) ?_ | refine Ew rfl rfl (by simp) (c_91 b.conf _ hcl) rfl ?_
 refine Ei rfl (Ea (Fg rfl) (Ea (Ej rfl rfl) (Ea (Ef rfl) ?_)))
 first | refine Fq rfl ?_ ?_ | refine Fr rfl ?_ ?_ | refine s_gNF rfl ?_ ?_ | refine Fe rfl ?_ ?_
 intro h5
 try rw [nnp] at h5
 refine Ea (Ek rfl) (Ei rfl (Ea (Eo rfl rfl rfl) (Ei rfl (Ea (Ek rfl) (Ei rfl (Ea (Eo rfl rfl rfl) (Er (is := [0, 5, 9, 10, 11, 20, 21, 22, 23, 24, 25, 26, 29, 30, 31, 32, 33, 34, 35, 36, 38, 39, 40, 41, 42]) rfl (Ei rfl ?_))))))))
 first | refine Ez rfl rfl (c_21 ..) ?_ | refine Ew rfl rfl (by simp) (c_21 ..) rfl ?_
 refine Ei rfl (Ea (Fg rfl) (Ea (Ej rfl rfl) (Ea (Ef rfl) ?_)))
 first | refine Fq rfl ?_ ?_ | refine Fr rfl ?_ ?_ | refine s_gNF rfl ?_ ?_ | refine Fe rfl ?_ ?_
 intro h6
 try rw [nnp] at h6
 refine Ea (Ek rfl) (Ei rfl (Ea (Eo rfl rfl rfl) (Ei rfl (Ea (o_geq rfl rfl) (Ea (Ej rfl rfl) (Ea (Ef rfl) ?_))))))
 first | refine Fq rfl ?_ ?_ | refine Fe rfl ?_ ?_
 intro h7
 try rw [nnp] at h7
 refine Ea (Ek rfl) (Ei rfl (Ea (Eo rfl rfl rfl) (Ei rfl (Ea (Ek rfl) (Ei rfl (Ea (Eo rfl rfl rfl) (Ei rfl ?_)))))))
 first | refine Ez rfl rfl (c_92 ..) ?_ | refine Ew rfl rfl (by simp) (c_92 ..) rfl ?_
 refine Er (is := [0, 5, 9, 10, 11, 20, 21, 22, 23, 24, 25, 26, 29, 30, 31, 32, 33, 34, 35, 36, 39, 40, 41, 42, 43, 44, 47, 48, 49, 51, 52, 53, 54, 55, 56]) rfl (Ei rfl (Ea (Fg rfl) (Ea (Ej rfl rfl) (Ea (Ef rfl) ?_))))
 first | refine Fq rfl ?_ ?_ | refine Fr rfl ?_ ?_ | refine s_gNF rfl ?_ ?_ | refine Fe rfl ?_ ?_
 intro h8
 try rw [nnp] at h8
 refine Ea (Ek rfl) (Ei rfl (Ea (Eo rfl rfl rfl) (Ei rfl (Ea (o_neq rfl rfl) (Ei rfl (Ea (Ef rfl) ?_))))))
 first | refine Ff rfl ?_ ?_ | refine Fe rfl ?_ ?_
 intro h9
 try rw [nnp] at h9
 refine Ea (Ek rfl) (Ei rfl (Ea (Eo rfl rfl rfl) (Ei rfl (Ea (o_neq rfl rfl) (Ei rfl (Ea (Em rfl rfl) (Ea (Ej rfl rfl) (Ed (Ec (Eb [0, 5, 9, 10, 11, 20, 21, 22, 23, 24, 25, 26, 29, 30, 31, 32, 33, 34, 35, 36, 39, 40, 41, 42, 43, 44, 47, 48, 49, 52, 53, 54, 55, 56, 57, 60, 61, 62, 63, 64, 65, 66, 67, 68] rfl ?_))))))))))
 first | refine Ey rfl ?_ ?_ | refine Ev rfl ?_ ?_
 intro h10
 try rw [nnp] at h10
 refine Eh (En (Ea (Ef rfl) (Ed (Ec (Eb [2] rfl (Ep (Eu (Fd (Eu (Fw (Fd ?_)))))))))))
 refine Eu (Eg rfl rfl ?_)
 rotate_left
 intro h10
 try rw [nnp] at h10
 refine Fa (Ec (Eb [0, 5, 9, 10, 11, 20, 21, 22, 23, 24, 25, 26, 29, 30, 31, 32, 33, 34, 35, 36, 39, 40, 41, 42, 43, 44, 47, 48, 49, 52, 53, 54, 55, 56, 57, 60, 61, 62, 63, 64, 65, 66, 67] rfl (En (Ea (Ek rfl) (Ea (Eo rfl rfl rfl) (Ea (Ef rfl) (Ed (q_blkN (Ec (Eb [0, 3, 9, 10, 11, 20, 21, 22, 23, 24, 25, 26, 29, 30, 31, 32, 33, 34, 35, 36, 39, 40, 41, 42, 43, 44, 47, 48, 49, 52, 53, 54, 55, 56, 57, 60, 61, 62, 63, 64, 65, 66, 67] rfl (En ?_)))))))))))
 first | refine Ea (Fs rfl rfl (by omega)) ?_ | refine Ea (o_add rfl rfl) ?_
 refine Ea (Ef rfl) (Ed (q_loopN ?_))
 · refine ⟨i + 1, ⟨by omega, rall_succ hi.2 (by clear hs hi; simp_all [logAt])⟩, by omega, hasOf ⟨rfl, congrArg (fun b => some (V.w (.int .i64 b))) (congrArg Done.cycle (lAt_of (k := (i : Int)) (by assumption)).symm), trivial⟩ rfl⟩
 intro h9
 try rw [nnp] at h9
 refine Ee rfl (Ee rfl (Ee rfl (Ei rfl (Ea (Ej rfl rfl) (Ea (Ej rfl rfl) (Ed (Ec (Eb [0, 5, 9, 10, 11, 20, 21, 22, 23, 24, 25, 26, 29, 30, 31, 32, 33, 34, 35, 36, 39, 40, 41, 42, 43, 44, 47, 48, 49, 52, 53, 54, 55, 56, 57, 60, 61, 62, 63, 64, 65, 66, 67, 68] rfl (s_condF rfl (Fa (Ec ?_)))))))))))
 refine Eb [0, 5, 9, 10, 11, 20, 21, 22, 23, 24, 25, 26, 29, 30, 31, 32, 33, 34, 35, 36, 39, 40, 41, 42, 43, 44, 47, 48, 49, 52, 53, 54, 55, 56, 57, 60, 61, 62, 63, 64, 65, 66, 67] rfl (En (Ea (Ek rfl) (Ea (Eo rfl rfl rfl) (Ea (Ef rfl) (Ed (q_blkN (Ec (Eb [0, 3, 9, 10, 11, 20, 21, 22, 23, 24, 25, 26, 29, 30, 31, 32, 33, 34, 35, 36, 39, 40, 41, 42, 43, 44, 47, 48, 49, 52, 53, 54, 55, 56, 57, 60, 61, 62, 63, 64, 65, 66, 67] rfl (En ?_)))))))))
 first | refine Ea (Fs rfl rfl (by omega)) ?_ | refine Ea (o_add rfl rfl) ?_
 refine Ea (Ef rfl) (Ed (q_loopN ?_))
 · refine ⟨i + 1, ⟨by omega, rall_succ hi.2 (by clear hs hi; simp_all [logAt])⟩, by omega, hasOf ⟨rfl, congrArg (fun b => some (V.w (.int .i64 b))) (congrArg Done.cycle (lAt_of (k := (i : Int)) (by assumption)).symm), trivial⟩ rfl⟩
 intro h8
 try rw [nnp] at h8
 refine Ee rfl (Ee rfl (Ee rfl (Ee rfl (Fb rfl (Fb rfl (Fb rfl (Ee rfl (Ea (Em rfl rfl) (Ed (Ec (Eb [0, 5, 9, 10, 11, 20, 21, 22, 23, 24, 25, 26, 29, 30, 31, 32, 33, 34, 35, 36, 39, 40, 41, 42, 43, 44, 47, 48, 49, 52, 53, 54, 55, 56, 57, 60, 61, 62, 63, 64, 65, 66, 67, 68] rfl ?_)))))))))))
 refine Fi rfl (Eh (En (Ea (Ef rfl) (Ed (Ec (Eb [2] rfl (Ep (Eu (Fd (Eu (Fw ?_)))))))))))
 refine Fd (Eu (Eg rfl rfl ?_))
 rotate_left
 intro h7
 try rw [nnp] at h7
 refine Ee rfl (Ee rfl (Ee rfl (Ee rfl (Ee rfl (Er (is := [0, 5, 9, 10, 11, 20, 21, 22, 23, 24, 25, 26, 29, 30, 31, 32, 33, 34, 35, 36, 39, 40, 41, 42, 43, 44, 47, 48, 49, 51, 52, 53, 54, 55, 56]) rfl (Ee rfl (Ea (Em rfl rfl) (Ea (Ef rfl) (Ee rfl (Ee rfl (Ee rfl ?_)))))))))))
 refine Ee rfl (Fb rfl (Fb rfl (Fb rfl (Ee rfl (Ea (Em rfl rfl) (Ed (Ec (Eb [0, 5, 9, 10, 11, 20, 21, 22, 23, 24, 25, 26, 29, 30, 31, 32, 33, 34, 35, 36, 39, 40, 41, 42, 43, 44, 47, 48, 49, 52, 53, 54, 55, 56, 57, 60, 61, 62, 63, 64, 65, 66, 67, 68] rfl (Fi rfl (Eh (En ?_)))))))))))
 refine Ea (Ef rfl) (Ed (Ec (Eb [2] rfl (Ep (Eu (Fd (Eu (Fw (Fd (Eu (Eg rfl rfl ?_)))))))))))
 rotate_left
 intro h6
 try rw [nnp] at h6
 refine Ee rfl (Ee rfl (Ee rfl (Ea (Em rfl rfl) (Ea (Ef rfl) (Ee rfl (Ee rfl (Ee rfl (Ee rfl (Ee rfl (Er (is := [0, 5, 9, 10, 11, 20, 21, 22, 23, 24, 25, 26, 29, 30, 31, 32, 33, 34, 35, 36, 39, 40, 41, 42, 43, 44, 47, 48, 49, 51, 52, 53, 54, 55, 56]) rfl (Ee rfl ?_)))))))))))
 refine Ea (Em rfl rfl) (Ea (Ef rfl) (Ee rfl (Ee rfl (Ee rfl (Ee rfl (Fb rfl (Fb rfl (Fb rfl (Ee rfl (Ea (Em rfl rfl) (Ed ?_)))))))))))
 refine Ec (Eb [0, 5, 9, 10, 11, 20, 21, 22, 23, 24, 25, 26, 29, 30, 31, 32, 33, 34, 35, 36, 39, 40, 41, 42, 43, 44, 47, 48, 49, 52, 53, 54, 55, 56, 57, 60, 61, 62, 63, 64, 65, 66, 67, 68] rfl (Fi rfl (Eh (En (Ea (Ef rfl) (Ed (Ec (Eb [2] rfl (Ep (Eu (Fd ?_)))))))))))
 refine Eu (Fw (Fd (Eu (Eg rfl rfl ?_))))
 rotate_left
 intro h5
 try rw [nnp] at h5
 refine Ee rfl (Ee rfl (Ee rfl (Ee rfl (Er (is := [0, 5, 9, 10, 11, 20, 21, 22, 23, 24, 25, 26, 29, 30, 31, 32, 33, 34, 35, 36, 38, 39, 40, 41, 42]) rfl (Ee rfl (Ee rfl (Ea (Em rfl rfl) (Ea (Ef rfl) (Ee rfl (Ee rfl (Ee rfl ?_)))))))))))
 refine Ea (Em rfl rfl) (Ea (Ef rfl) (Ee rfl (Ee rfl (Ee rfl (Ee rfl (Ee rfl (Er (is := [0, 5, 9, 10, 11, 20, 21, 22, 23, 24, 25, 26, 29, 30, 31, 32, 33, 34, 35, 36, 39, 40, 41, 42, 43, 44, 47, 48, 49, 51, 52, 53, 54, 55, 56]) rfl (Ee rfl (Ea (Em rfl rfl) (Ea (Ef rfl) (Ee rfl ?_)))))))))))
 refine Ee rfl (Ee rfl (Ee rfl (Fb rfl (Fb rfl (Fb rfl (Ee rfl (Ea (Em rfl rfl) (Ed (Ec (Eb [0, 5, 9, 10, 11, 20, 21, 22, 23, 24, 25, 26, 29, 30, 31, 32, 33, 34, 35, 36, 39, 40, 41, 42, 43, 44, 47, 48, 49, 52, 53, 54, 55, 56, 57, 60, 61, 62, 63, 64, 65, 66, 67, 68] rfl (Fi rfl ?_)))))))))))
 refine Eh (En (Ea (Ef rfl) (Ed (Ec (Eb [2] rfl (Ep (Eu (Fd (Eu (Fw (Fd ?_)))))))))))
 refine Eu (Eg rfl rfl ?_)
 rotate_left
 intro h4
 try rw [nnp] at h4
 iterate 8 refine Ee rfl ?_
 refine Ea (Em rfl rfl) (Ea (Ef rfl) (Ee rfl (Ee rfl (Ee rfl (Ee rfl (Er (is := [0, 5, 9, 10, 11, 20, 21, 22, 23, 24, 25, 26, 29, 30, 31, 32, 33, 34, 35, 36, 38, 39, 40, 41, 42]) rfl (Ee rfl (Ee rfl (Ea (Em rfl rfl) (Ea (Ef rfl) (Ee rfl ?_)))))))))))
 refine Ee rfl (Ee rfl (Ea (Em rfl rfl) (Ea (Ef rfl) (Ee rfl (Ee rfl (Ee rfl (Ee rfl (Ee rfl (Er (is := [0, 5, 9, 10, 11, 20, 21, 22, 23, 24, 25, 26, 29, 30, 31, 32, 33, 34, 35, 36, 39, 40, 41, 42, 43, 44, 47, 48, 49, 51, 52, 53, 54, 55, 56]) rfl (Ee rfl (Ea (Em rfl rfl) ?_)))))))))))
 refine Ea (Ef rfl) (Ee rfl (Ee rfl (Ee rfl (Ee rfl (Fb rfl (Fb rfl (Fb rfl (Ee rfl (Ea (Em rfl rfl) (Ed (Ec ?_)))))))))))
 refine Eb [0, 5, 9, 10, 11, 20, 21, 22, 23, 24, 25, 26, 29, 30, 31, 32, 33, 34, 35, 36, 39, 40, 41, 42, 43, 44, 47, 48, 49, 52, 53, 54, 55, 56, 57, 60, 61, 62, 63, 64, 65, 66, 67, 68] rfl (Fi rfl (Eh (En (Ea (Ef rfl) (Ed (Ec (Eb [2] rfl (Ep (Eu (Fd (Eu ?_)))))))))))
 refine Fw (Fd (Eu (Eg rfl rfl ?_)))
 rotate_left
 intro h3
 try rw [nnp] at h3
 iterate 7 refine Ee rfl ?_
 refine Ea (Em rfl rfl) (Ea (Ef rfl) (Er (is := [0, 5, 9, 10, 11, 20, 21, 22, 23, 24, 25, 26, 28]) rfl ?_))
 iterate 8 refine Ee rfl ?_
 refine Ea (Em rfl rfl) (Ea (Ef rfl) (Ee rfl (Ee rfl (Ee rfl (Ee rfl (Er (is := [0, 5, 9, 10, 11, 20, 21, 22, 23, 24, 25, 26, 29, 30, 31, 32, 33, 34, 35, 36, 38, 39, 40, 41, 42]) rfl (Ee rfl (Ee rfl (Ea (Em rfl rfl) (Ea (Ef rfl) (Ee rfl ?_)))))))))))
 refine Ee rfl (Ee rfl (Ea (Em rfl rfl) (Ea (Ef rfl) (Ee rfl (Ee rfl (Ee rfl (Ee rfl (Ee rfl (Er (is := [0, 5, 9, 10, 11, 20, 21, 22, 23, 24, 25, 26, 29, 30, 31, 32, 33, 34, 35, 36, 39, 40, 41, 42, 43, 44, 47, 48, 49, 51, 52, 53, 54, 55, 56]) rfl (Ee rfl (Ea (Em rfl rfl) ?_)))))))))))
 refine Ea (Ef rfl) (Ee rfl (Ee rfl (Ee rfl (Ee rfl (Fb rfl (Fb rfl (Fb rfl (Ee rfl (Ea (Em rfl rfl) (Ed (Ec ?_)))))))))))
 refine Eb [0, 5, 9, 10, 11, 20, 21, 22, 23, 24, 25, 26, 29, 30, 31, 32, 33, 34, 35, 36, 39, 40, 41, 42, 43, 44, 47, 48, 49, 52, 53, 54, 55, 56, 57, 60, 61, 62, 63, 64, 65, 66, 67, 68] rfl (Fi rfl (Eh (En (Ea (Ef rfl) (Ed (Ec (Eb [2] rfl (Ep (Eu (Fd (Eu ?_)))))))))))
 refine Fw (Fd (Eu (Eg rfl rfl ?_)))
 rotate_left
 intro h1
 try rw [nnp] at h1
 refine s_exit (q_seqX (q_loopX (q_blkH (Ec (Eb [] rfl (Eh (En (Ea (Ef rfl) (Ed (Ec (Eb [2] rfl ?_)))))))))))
 refine Ep (Eg rfl rfl ?_)
 rotate_left
 all_goals
  first | (unfold loggedB; rw [rall_end hi.2 hi.1 (by omega)]; done) | (unfold loggedB; rw [rall_no (p := logAt b) (by omega : i < b.log.length) (by clear hs hi; first | (simp_all [logAt]; done) | (simp_all [logAt]; intros; omega))]; done)
def Bus.okB (b : Bus) : Bool := b.conf.ok && inB b.now 0 4000 && mastersB b && b.arb.ok b.conf && (decide (b.last = -1) || inB b.last 0 (b.conf.masters.length - 1)) && b.model.ok && inB b.picks 0 b.now && beatsB b && heldB b && loggedB b
theorem even_of {b : Bus} (h : mastersB b = true) : b.even := by
 unfold mastersB at h
 rw [Bool.and_eq_true] at h
 exact evenB_of h.1
set_option maxHeartbeats 1000000 in
theorem c_31 (b : Bus) (hs : b.small) : CV prg 31 [.agg b.r] (fun res => res = .w (.bool b.okB)) := by
 have hcl : b.conf.masters.length ≤ 1048576 := hs.1
 have hmo : b.model.small := hs.2.2.2.2.2.1
 refine Fo g31 (Eb [0] rfl (Eh (En (Ea (o_box rfl rfl rfl) (Ea (Ef rfl) (Ed (Ec (Eb [1] rfl (Eh (En (Ea (Ek rfl) ?_)))))))))))
 refine Ea (Fm rfl rfl rfl) ?_
 first | refine Ez rfl rfl (c_34 b.conf hcl) ?_ | refine Ew rfl rfl (by simp) (c_34 b.conf hcl) rfl ?_
 refine Ea (Ef rfl) ?_
 first | refine Ff rfl ?_ ?_ | refine Ft rfl ?_ ?_ | refine s_gNT rfl ?_ ?_ | refine Fe rfl ?_ ?_
 intro h1
 try rw [nnp] at h1
 try have he := even_of h1
 refine Ea (Ek rfl) (Ei rfl (Ea (Eo rfl rfl rfl) (Ei rfl ?_)))
 first | refine Ez rfl rfl (c_103 ..) ?_ | refine Ew rfl rfl (by simp) (c_103 ..) rfl ?_
 refine Ea (Em rfl rfl) (Ea (Ef rfl) ?_)
 first | refine Ff rfl ?_ ?_ | refine Ft rfl ?_ ?_ | refine s_gNT rfl ?_ ?_ | refine Fe rfl ?_ ?_
 intro h2
 try rw [nnp] at h2
 try have he := even_of h2
 refine Ew rfl rfl (by simp) (c_3 b hs) rfl (Ea (Em rfl rfl) (Ea (Ef rfl) ?_))
 first | refine Ff rfl ?_ ?_ | refine Ft rfl ?_ ?_ | refine s_gNT rfl ?_ ?_ | refine Fe rfl ?_ ?_
 intro h3
 try rw [nnp] at h3
 try have he := even_of h3
 refine Ea (Ek rfl) (Ei rfl (Ea (Fm rfl rfl rfl) (Er (is := [1, 14, 16]) rfl (Ei rfl (Ea (Ek rfl) (Ei rfl (Ea (Fm rfl rfl rfl) (Ei rfl ?_))))))))
 first | refine Ez rfl rfl (c_82 b.arb b.conf hcl) ?_ | refine Ew rfl rfl (by simp) (c_82 b.arb b.conf hcl) rfl ?_
 refine Ea (Em rfl rfl) (Ea (Ef rfl) ?_)
 first | refine Ff rfl ?_ ?_ | refine Ft rfl ?_ ?_ | refine s_gNT rfl ?_ ?_ | refine Fe rfl ?_ ?_
 intro h4
 try rw [nnp] at h4
 try have he := even_of h4
 refine Ea (Ek rfl) (Ei rfl (Ea (Eo rfl rfl rfl) (Ei rfl (Ea (Fv rfl rfl) (Ei rfl (Ea (Ef rfl) ?_))))))
 first | refine Fq rfl ?_ ?_ | refine Fe rfl ?_ ?_
 intro h5
 try rw [nnp] at h5
 try have he := even_of h5
 refine Ea (Ek rfl) (Ei rfl (Ea (Fm rfl rfl rfl) (Ei rfl (Ea (Ek rfl) (Ei rfl (Ea (Eo rfl rfl rfl) (Ei rfl ?_)))))))
 first | refine Ez rfl rfl (c_91 b.conf _ hcl) ?_ | refine Ew rfl rfl (by simp) (c_91 b.conf _ hcl) rfl ?_
 refine Er (is := [1, 21, 25, 30]) rfl (Ei rfl (Ea (Ej rfl rfl) (Ea (Em rfl rfl) (Ea (Ef rfl) ?_))))
 first | refine Ff rfl ?_ ?_ | refine Ft rfl ?_ ?_ | refine s_gNT rfl ?_ ?_ | refine Fe rfl ?_ ?_
 intro h6
 try rw [nnp] at h6
 try have he := even_of h6
 refine Ea (Ek rfl) (Ei rfl (Ea (Fm rfl rfl rfl) (Ei rfl ?_)))
 first | refine Ez rfl rfl (c_53 b.model hmo) ?_ | refine Ew rfl rfl (by simp) (c_53 b.model hmo) rfl ?_
 refine Ea (Em rfl rfl) (Ea (Ef rfl) ?_)
 first | refine Ff rfl ?_ ?_ | refine Ft rfl ?_ ?_ | refine s_gNT rfl ?_ ?_ | refine Fe rfl ?_ ?_
 intro h7
 try rw [nnp] at h7
 try have he := even_of h7
 refine Ea (Ek rfl) (Ei rfl (Ea (Eo rfl rfl rfl) (Ei rfl (Ea (Ek rfl) (Ei rfl (Ea (Eo rfl rfl rfl) (Ei rfl ?_)))))))
 first | refine Ez rfl rfl (c_103 ..) ?_ | refine Ew rfl rfl (by simp) (c_103 ..) rfl ?_
 refine Ea (Em rfl rfl) (Er (is := [1, 44]) rfl (Ea (Ef rfl) ?_))
 first | refine Ff rfl ?_ ?_ | refine Ft rfl ?_ ?_ | refine s_gNT rfl ?_ ?_ | refine Fe rfl ?_ ?_
 intro h8
 try rw [nnp] at h8
 try have he := even_of h8
 refine Ew rfl rfl (by simp) (c_2 b hs he) rfl (Ea (Em rfl rfl) (Ea (Ef rfl) ?_))
 first | refine Ff rfl ?_ ?_ | refine Ft rfl ?_ ?_ | refine s_gNT rfl ?_ ?_ | refine Fe rfl ?_ ?_
 intro h9
 try rw [nnp] at h9
 try have he := even_of h9
 refine Ew rfl rfl (by simp) (c_9 b hs he) rfl (Ea (Em rfl rfl) (Ea (Ef rfl) ?_))
 first | refine Ff rfl ?_ ?_ | refine Ft rfl ?_ ?_ | refine s_gNT rfl ?_ ?_ | refine Fe rfl ?_ ?_
 intro h10
 try rw [nnp] at h10
 try have he := even_of h10
 refine Ew rfl rfl (by simp) (c_12 b hs he) rfl (Ea (Em rfl rfl) (Ea (Ef rfl) (Ed (Ec (Eb [2] rfl (Ep (Eg rfl rfl ?_)))))))
 rotate_left
 intro h10
 try rw [nnp] at h10
 try have he := even_of h10
 refine Ee rfl (Ea (Ej rfl rfl) (Ea (Ef rfl) (Ed (Ec (Eb [2] rfl (Ep (Eg rfl rfl ?_)))))))
 rotate_left
 intro h9
 try rw [nnp] at h9
 try have he := even_of h9
 refine Ee rfl (Ea (Ej rfl rfl) (Ea (Ef rfl) (Ee rfl (Ea (Ej rfl rfl) (Ea (Ef rfl) (Ed (Ec (Eb [2] rfl (Ep (Eg rfl rfl ?_))))))))))
 rotate_left
 intro h8
 try rw [nnp] at h8
 try have he := even_of h8
 refine Ee rfl (Ea (Ej rfl rfl) (Ea (Ef rfl) (Ee rfl (Ea (Ej rfl rfl) (Ea (Ef rfl) (Ee rfl (Ea (Ej rfl rfl) (Ea (Ef rfl) (Ed (Ec (Eb [2] rfl ?_)))))))))))
 refine Ep (Eg rfl rfl ?_)
 rotate_left
 intro h7
 try rw [nnp] at h7
 try have he := even_of h7
 refine Ee rfl (Ee rfl (Ee rfl (Ee rfl (Ee rfl (Ea (Ej rfl rfl) (Er (is := [1, 44]) rfl (Ea (Ef rfl) (Ee rfl (Ea (Ej rfl rfl) (Ea (Ef rfl) (Ee rfl ?_)))))))))))
 refine Ea (Ej rfl rfl) (Ea (Ef rfl) (Ee rfl (Ea (Ej rfl rfl) (Ea (Ef rfl) (Ed (Ec (Eb [2] rfl (Ep (Eg rfl rfl ?_)))))))))
 rotate_left
 intro h6
 try rw [nnp] at h6
 try have he := even_of h6
 refine Ee rfl (Ee rfl (Ee rfl (Ea (Ej rfl rfl) (Ea (Ef rfl) (Ee rfl (Ee rfl (Ee rfl (Ee rfl (Ee rfl (Ea (Ej rfl rfl) (Er (is := [1, 44]) rfl ?_)))))))))))
 refine Ea (Ef rfl) (Ee rfl (Ea (Ej rfl rfl) (Ea (Ef rfl) (Ee rfl (Ea (Ej rfl rfl) (Ea (Ef rfl) (Ee rfl (Ea (Ej rfl rfl) (Ea (Ef rfl) (Ed (Ec ?_)))))))))))
 refine Eb [2] rfl (Ep (Eg rfl rfl ?_))
 rotate_left
 intro h5
 try rw [nnp] at h5
 try have he := even_of h5
 refine Ee rfl (Ee rfl (Ee rfl (Ee rfl (Ee rfl (Er (is := [1, 21, 25, 30]) rfl (Ei rfl (Ea (Em rfl rfl) (Ea (Em rfl rfl) (Ea (Ef rfl) (Ei rfl (Ea (Ek rfl) ?_)))))))))))
 refine Ei rfl (Ea (Fm rfl rfl rfl) (Ei rfl ?_))
 first | refine Ez rfl rfl (c_53 b.model hmo) ?_ | refine Ew rfl rfl (by simp) (c_53 b.model hmo) rfl ?_
 refine Ea (Em rfl rfl) (Ea (Ef rfl) ?_)
 first | refine Ff rfl ?_ ?_ | refine Ft rfl ?_ ?_ | refine s_gNT rfl ?_ ?_ | refine Fe rfl ?_ ?_
 intro h11
 try rw [nnp] at h11
 try have he := even_of h11
 refine Ea (Ek rfl) (Ei rfl (Ea (Eo rfl rfl rfl) (Ei rfl (Ea (Ek rfl) (Ei rfl (Ea (Eo rfl rfl rfl) (Ei rfl ?_)))))))
 first | refine Ez rfl rfl (c_103 ..) ?_ | refine Ew rfl rfl (by simp) (c_103 ..) rfl ?_
 refine Ea (Em rfl rfl) (Er (is := [1, 44]) rfl (Ea (Ef rfl) ?_))
 first | refine Ff rfl ?_ ?_ | refine Ft rfl ?_ ?_ | refine s_gNT rfl ?_ ?_ | refine Fe rfl ?_ ?_
 intro h12
 try rw [nnp] at h12
 try have he := even_of h12
 refine Ew rfl rfl (by simp) (c_2 b hs he) rfl (Ea (Em rfl rfl) (Ea (Ef rfl) ?_))
 first | refine Ff rfl ?_ ?_ | refine Ft rfl ?_ ?_ | refine s_gNT rfl ?_ ?_ | refine Fe rfl ?_ ?_
 intro h13
 try rw [nnp] at h13
 try have he := even_of h13
 refine Ew rfl rfl (by simp) (c_9 b hs he) rfl (Ea (Em rfl rfl) (Ea (Ef rfl) ?_))
 first | refine Ff rfl ?_ ?_ | refine Ft rfl ?_ ?_ | refine s_gNT rfl ?_ ?_ | refine Fe rfl ?_ ?_
 intro h14
 try rw [nnp] at h14
 try have he := even_of h14
 refine Ew rfl rfl (by simp) (c_12 b hs he) rfl (Ea (Em rfl rfl) (Ea (Ef rfl) (Ed (Ec (Eb [2] rfl (Ep (Eg rfl rfl ?_)))))))
 rotate_left
 intro h14
 try rw [nnp] at h14
 try have he := even_of h14
 refine Ee rfl (Ea (Ej rfl rfl) (Ea (Ef rfl) (Ed (Ec (Eb [2] rfl (Ep (Eg rfl rfl ?_)))))))
 rotate_left
 intro h13
 try rw [nnp] at h13
 try have he := even_of h13
 refine Ee rfl (Ea (Ej rfl rfl) (Ea (Ef rfl) (Ee rfl (Ea (Ej rfl rfl) (Ea (Ef rfl) (Ed (Ec (Eb [2] rfl (Ep (Eg rfl rfl ?_))))))))))
 rotate_left
 intro h12
 try rw [nnp] at h12
 try have he := even_of h12
 refine Ee rfl (Ea (Ej rfl rfl) (Ea (Ef rfl) (Ee rfl (Ea (Ej rfl rfl) (Ea (Ef rfl) (Ee rfl (Ea (Ej rfl rfl) (Ea (Ef rfl) (Ed (Ec (Eb [2] rfl ?_)))))))))))
 refine Ep (Eg rfl rfl ?_)
 rotate_left
 intro h11
 try rw [nnp] at h11
 try have he := even_of h11
 refine Ee rfl (Ee rfl (Ee rfl (Ee rfl (Ee rfl (Ea (Ej rfl rfl) (Er (is := [1, 44]) rfl (Ea (Ef rfl) (Ee rfl (Ea (Ej rfl rfl) (Ea (Ef rfl) (Ee rfl ?_)))))))))))
 refine Ea (Ej rfl rfl) (Ea (Ef rfl) (Ee rfl (Ea (Ej rfl rfl) (Ea (Ef rfl) (Ed (Ec (Eb [2] rfl (Ep (Eg rfl rfl ?_)))))))))
 rotate_left
 intro h4
 try rw [nnp] at h4
 try have he := even_of h4
 refine Ee rfl (Ee rfl (Ee rfl (Ee rfl (Fb rfl (Fb rfl (Fb rfl (Fb rfl (Fb rfl (Er (is := [1, 21, 25, 30]) rfl (Ee rfl (Ea (Ej rfl rfl) ?_)))))))))))
 refine Ea (Ef rfl) (Ee rfl (Ee rfl (Ee rfl (Ea (Ej rfl rfl) (Ea (Ef rfl) (Ee rfl (Ee rfl (Ee rfl (Ee rfl (Ee rfl (Ea (Ej rfl rfl) ?_)))))))))))
 refine Er (is := [1, 44]) rfl (Ea (Ef rfl) (Ee rfl (Ea (Ej rfl rfl) (Ea (Ef rfl) (Ee rfl (Ea (Ej rfl rfl) (Ea (Ef rfl) (Ee rfl (Ea (Ej rfl rfl) (Ea (Ef rfl) (Ed ?_)))))))))))
 refine Ec (Eb [2] rfl (Ep (Eg rfl rfl ?_)))
 rotate_left
 intro h3
 try rw [nnp] at h3
 try have he := even_of h3
 refine Ee rfl (Ee rfl (Er (is := [1, 14, 16]) rfl (Ee rfl (Ee rfl (Ee rfl (Ea (Ej rfl rfl) (Ea (Ef rfl) (Ee rfl (Ee rfl (Ee rfl (Ee rfl ?_)))))))))))
 refine Fb rfl (Fb rfl (Fb rfl (Fb rfl (Fb rfl (Er (is := [1, 21, 25, 30]) rfl (Ee rfl (Ea (Ej rfl rfl) (Ea (Ef rfl) (Ee rfl (Ee rfl (Ee rfl ?_)))))))))))
 refine Ea (Ej rfl rfl) (Ea (Ef rfl) (Ee rfl (Ee rfl (Ee rfl (Ee rfl (Ee rfl (Ea (Ej rfl rfl) (Er (is := [1, 44]) rfl (Ea (Ef rfl) (Ee rfl (Ea (Ej rfl rfl) ?_)))))))))))
 refine Ea (Ef rfl) (Ee rfl (Ea (Ej rfl rfl) (Ea (Ef rfl) (Ee rfl (Ea (Ej rfl rfl) (Ea (Ef rfl) (Ed (Ec (Eb [2] rfl (Ep (Eg rfl rfl ?_)))))))))))
 rotate_left
 intro h2
 try rw [nnp] at h2
 try have he := even_of h2
 refine Ee rfl (Ea (Ej rfl rfl) (Ea (Ef rfl) (Ee rfl (Ee rfl (Er (is := [1, 14, 16]) rfl (Ee rfl (Ee rfl (Ee rfl (Ea (Ej rfl rfl) (Ea (Ef rfl) (Ee rfl ?_)))))))))))
 refine Ee rfl (Ee rfl (Ee rfl (Fb rfl (Fb rfl (Fb rfl (Fb rfl (Fb rfl (Er (is := [1, 21, 25, 30]) rfl (Ee rfl (Ea (Ej rfl rfl) (Ea (Ef rfl) ?_)))))))))))
 refine Ee rfl (Ee rfl (Ee rfl (Ea (Ej rfl rfl) (Ea (Ef rfl) (Ee rfl (Ee rfl (Ee rfl (Ee rfl (Ee rfl (Ea (Ej rfl rfl) (Er (is := [1, 44]) rfl ?_)))))))))))
 refine Ea (Ef rfl) (Ee rfl (Ea (Ej rfl rfl) (Ea (Ef rfl) (Ee rfl (Ea (Ej rfl rfl) (Ea (Ef rfl) (Ee rfl (Ea (Ej rfl rfl) (Ea (Ef rfl) (Ed (Ec ?_)))))))))))
 refine Eb [2] rfl (Ep (Eg rfl rfl ?_))
 rotate_left
 intro h1
 try rw [nnp] at h1
 try have he := even_of h1
 refine Ee rfl (Ee rfl (Ee rfl (Ea (Ej rfl rfl) (Ea (Ef rfl) (Ee rfl (Ea (Ej rfl rfl) (Ea (Ef rfl) (Ee rfl (Ee rfl (Er (is := [1, 14, 16]) rfl (Ee rfl ?_)))))))))))
 refine Ee rfl (Ee rfl (Ea (Ej rfl rfl) (Ea (Ef rfl) (Ee rfl (Ee rfl (Ee rfl (Ee rfl (Fb rfl (Fb rfl (Fb rfl (Fb rfl ?_)))))))))))
 refine Fb rfl (Er (is := [1, 21, 25, 30]) rfl (Ee rfl (Ea (Ej rfl rfl) (Ea (Ef rfl) (Ee rfl (Ee rfl (Ee rfl (Ea (Ej rfl rfl) (Ea (Ef rfl) (Ee rfl (Ee rfl ?_)))))))))))
 refine Ee rfl (Ee rfl (Ee rfl (Ea (Ej rfl rfl) (Er (is := [1, 44]) rfl (Ea (Ef rfl) (Ee rfl (Ea (Ej rfl rfl) (Ea (Ef rfl) (Ee rfl (Ea (Ej rfl rfl) (Ea (Ef rfl) ?_)))))))))))
 refine Ee rfl (Ea (Ej rfl rfl) (Ea (Ef rfl) (Ed (Ec (Eb [2] rfl (Ep (Eg rfl rfl ?_)))))))
 rotate_left
 all_goals
  clear hs hmo; first | (simp_all [Bus.okB]; done) | (simp_all [Bus.okB]; omega)
theorem ok_every {c : Conf} (h : c.ok = true) {m : MConf} (hm : m ∈ c.masters) : 0 ≤ m.every ∧ m.every ≤ 1000 := by
 have h6 : c.masters.all (MConf.ok c.least) = true := by unfold Conf.ok at h; simp only [Bool.and_eq_true] at h; exact h.2
 have h7 := List.all_eq_true.1 h6 m hm
 have hs := c.slot_bd
 have hl : 0 ≤ c.least := by unfold Conf.least; exact Int.mul_nonneg (by omega) (by omega)
 unfold MConf.ok at h7
 cases hp : m.prio with
 | true =>
   simp only [hp, if_true, Bool.and_eq_true] at h7
   have := Et h7.2.1
   omega
 | false =>
   simp only [hp, Bool.false_eq_true, if_false, Bool.and_eq_true, decide_eq_true_eq] at h7
   omega
theorem bsl (a : ByteArray) : ∀ (n i : Nat) (r : List UInt8), a.size - i = n → (ByteArray.toList.loop a i r).length = n + r.length
 | 0, i, r, h => by rw [ByteArray.toList.loop, if_neg (by omega)]; simp
 | n + 1, i, r, h => by
   rw [ByteArray.toList.loop, if_pos (by omega), bsl a n (i + 1) _ (by omega)]
   simp; omega
theorem bs_len (a : ByteArray) : a.toList.length = a.size := by unfold ByteArray.toList; rw [bsl a a.size 0 [] (by omega)]; simp
theorem bs_ne {a b : ByteArray} (h : a.size ≠ b.size) : ¬ a.toList = b.toList := fun e => h (by rw [← bs_len, ← bs_len, e])
def respW (n : Int) : Value := if n = 0 then .string ⟨#[111, 107, 97, 121]⟩ else if n = 1 then .string ⟨#[101, 114, 114, 111, 114]⟩ else if n = 2 then .string ⟨#[114, 101, 116, 114, 121]⟩ else if n = 3 then .string ⟨#[115, 112, 108, 105, 116]⟩ else .string ⟨#[]⟩
theorem respRow {n : Int} (h : 0 ≤ n ∧ n ≤ 3) : ([[.w (.string ⟨#[111, 107, 97, 121]⟩)], [.w (.string ⟨#[101, 114, 114, 111, 114]⟩)], [.w (.string ⟨#[114, 101, 116, 114, 121]⟩)], [.w (.string ⟨#[115, 112, 108, 105, 116]⟩)]] : List (List V))[n.toNat]? = some [.w (respW n)] := by
 have : n = 0 ∨ n = 1 ∨ n = 2 ∨ n = 3 := by omega
 rcases this with h | h | h | h <;> subst h <;> rfl
theorem respW_no {n : Int} (h : inB n 0 3 = false) : respW n = .string ⟨#[]⟩ := by
 have : ¬ (0 ≤ n ∧ n ≤ 3) := by simp only [inB, Bool.and_eq_false_iff, decide_eq_false_iff_not] at h; omega
 unfold respW
 rw [if_neg (by omega), if_neg (by omega), if_neg (by omega), if_neg (by omega)]
theorem respW_ne (n : Int) : binv .neq (respW n) (.string ⟨#[]⟩) = some (.bool (inB n 0 3)) := by
 cases h : inB n 0 3 with
 | false => rw [respW_no h]; simp [binv]
 | true =>
   have := Et h
   have : n = 0 ∨ n = 1 ∨ n = 2 ∨ n = 3 := by omega
   rcases this with h | h | h | h <;> subst h <;> simp [binv, respW] <;> exact bs_ne (by decide)
theorem lastB {l n : Int} (h : 0 ≤ n) : inB l (-1) (n - 1) = (decide (l = -1) || inB l 0 (n - 1)) := by
 rw [Bool.eq_iff_iff]
 simp only [inB, Bool.or_eq_true, Bool.and_eq_true, decide_eq_true_eq]
 omega
def mwAt (b : Bus) (i : Nat) : Bool := mOkAt b i && wOkAt b i
theorem mw_all {b : Bus} {n : Nat} (h : (List.range n).all (mwAt b) = true) : (List.range n).all (mOkAt b) = true ∧ (List.range n).all (wOkAt b) = true := by
 rw [List.all_eq_true] at h
 simp only [List.all_eq_true]
 exact ⟨fun x hx => ((Bool.and_eq_true _ _).mp (h x hx)).1, fun x hx => ((Bool.and_eq_true _ _).mp (h x hx)).2⟩
theorem ok_no_i {b : Bus} {i : Nat} (hi : i < b.ms.length) (h : mwAt b i = false) : b.okB = false := by
 unfold mwAt at h
 rw [Bool.and_eq_false_iff] at h
 rcases h with h | h
 · have : mastersB b = false := by unfold mastersB; rw [rall_no hi h, Bool.and_false]
   unfold Bus.okB; rw [this]; simp
 · have : beatsB b = false := by unfold beatsB; rw [rall_no hi h]; rfl
   unfold Bus.okB; rw [this]; simp
theorem mw_no {b : Bus} {i : Nat} {m : Mst} (hm : mAt b (i : Int) = m) (hc : b.conf.ok = true) (h : (b.conf.ok && m.right && decide (m.tries ≤ b.conf.maxRetry)) = false) : mwAt b i = false := by
 unfold mwAt mOkAt
 rw [hm]
 rw [hc, Bool.true_and] at h
 rw [h]
 simp
theorem sAt_nn {b : Bus} (h : mastersB b = true) {k : Int} (h0 : 0 ≤ k) (h1 : k < b.ms.length) : 0 ≤ sAt b k := by
 unfold mastersB at h
 rw [Bool.and_eq_true] at h
 have h2 := List.all_eq_true.1 h.2 k.toNat (List.mem_range.2 (by omega))
 simp only [mOkAt, Bool.and_eq_true] at h2
 have h3 := (Et h2.2).1
 rwa [Int.toNat_of_nonneg h0] at h3
theorem sAt_z {b : Bus} (hp : mastersB b = true) {k s : Int} (h : b.splits[k.toNat]? = some s) (h0 : 0 ≤ k) (h1 : k < b.ms.length) : sAt b k = 0 ↔ ¬ 0 < s := by
 have h2 := sAt_nn hp h0 h1
 have h3 := sAt_of h
 omega
theorem mAt_q {b : Bus} (h : mastersB b = true) {k : Nat} {m : Mst} (hm : b.ms[k]? = some m) (hb : 0 < (mAt b k).beat) : 0 < m.queue.length := by
 unfold mastersB at h
 rw [Bool.and_eq_true] at h
 have hk := (List.getElem?_eq_some_iff.1 hm).1
 have h2 := List.all_eq_true.1 h.2 k (List.mem_range.2 hk)
 rw [mAt_of (k := (k : Int)) hm] at hb
 simp only [mOkAt, Bool.and_eq_true, mAt_of (k := (k : Int)) hm] at h2
 have h3 := h2.1.1.1
 rcases Nat.eq_zero_or_pos m.queue.length with e | e
 · simp [Mst.right, e] at h3
   omega
 · exact e
theorem locks_nil' {m : Mst} (h : ¬ (0 : Int) < m.queue.length) : m.locks = false := Mst.locks_nil (by omega)
theorem limit_sub (z : Int) : -9223372036854775808 ≤ limit z - 1 ∧ limit z - 1 ≤ 9223372036854775807 := by have := limit_bd z; omega
theorem ok_rest {b : Bus} (h1 : b.conf.ok = true) (h2 : inB b.now 0 4000 = true) (h3 : mastersB b = true) (h4 : b.arb.ok b.conf = true) (h5 : inB b.last (-1) (b.conf.masters.length - 1) = true) (h6 : b.model.ok = true) (h7 : 0 ≤ b.picks) (h8 : b.picks ≤ b.now) (h9 : (List.range b.ms.length).all (wOkAt b) = true) : b.okB = (beatD b && beatA b && heldB b && loggedB b) := by
 have h10 : inB b.picks 0 b.now = true := by simp [inB, h7, h8]
 rw [lastB (by omega)] at h5
 unfold Bus.okB beatsB
 rw [h1, h2, h3, h4, h5, h6, h10, h9]
 simp
theorem c_208 (n : Int) : CV prg 208 [.w (.int .i64 n)] (fun res => res = .w (respW n)) := by
 refine Fo g208 (Eb [0] rfl (Eh (En (Ea (Ef rfl) (Ed (Ec (Eb [0] rfl (Eh (Eh (En (Ea (Ef rfl) ?_)))))))))))
 refine Ez rfl rfl (Fy ..) (Ea (Fg rfl) (Ed (Ec (Eb [0, 5] rfl ?_))))
 first | refine Ey rfl ?_ ?_ | refine Fp rfl ?_ ?_ | refine Fh rfl ?_ ?_ | refine Ev rfl ?_ ?_
 intro h1
 try rw [nnp] at h1
 try have h1' := Et h1
 refine Eh (En (Ea (Ef rfl) (Ed (Ec (Eb [2] rfl (Ep (Eu (ret_leafR rfl rfl ?_))))))))
 rotate_left
 intro h1
 try rw [nnp] at h1
 try have h1' := Et h1
 refine Fa (Ec (Eb [0] rfl (Eh (En (Ea (o_bs rfl rfl rfl rfl) (Ea (Ef rfl) (Ea (o_iaL rfl rfl rfl rfl (by simp; omega)) (Ea (o_ldA rfl rfl rfl (respRow (by omega)) rfl) (Ea (Ef rfl) (Ed (Ec ?_)))))))))))
 refine Eb [2] rfl (Ep (ret_leafR rfl rfl ?_))
 rotate_left
 all_goals
  first | rfl | (rw [respW_no (by assumption)])
theorem c_176w (b : Bucket) (m : MConf) (ht : 0 ≤ m.every ∧ m.every ≤ 1000) : CV prg 176 [.agg b.r, .agg m.r] (fun res => res = .w (.bool (b.ok m))) := by
 refine Fo g176 (Eb [0, 1] rfl (Eh (En (Ea (o_box rfl rfl rfl) (Ea (o_box rfl rfl rfl) (Ea (Ef rfl) (Ed (Ec (Eb [2, 3] rfl (Eh (Eh ?_)))))))))))
 refine En (Ea (Ek rfl) (Ea (Eo rfl rfl rfl) (Ea (Fg rfl) (Ed (Ec (Eb [2, 3, 7] rfl ?_))))))
 first | refine Ey rfl ?_ ?_ | refine Fp rfl ?_ ?_ | refine Fh rfl ?_ ?_ | refine Ev rfl ?_ ?_
 intro h1
 try rw [nnp] at h1
 refine Eh (En (Ea (Fm rfl rfl rfl) (Ea (o_bd rfl rfl) (Ea (o_eqs rfl rfl rfl rfl rfl) (Ea (Ef rfl) (Ed (Ec (Eb [4] rfl (Ep (Eu (Eg rfl rfl ?_)))))))))))
 rotate_left
 intro h1
 try rw [nnp] at h1
 refine Fa (Ec (Eb [2, 3] rfl (Eh (En (Ea (Ek rfl) (Ea (Eo rfl rfl rfl) (Ea (Ek rfl) (Ea (Eo rfl rfl rfl) ?_))))))))
 first | refine Ez rfl rfl (Fy ..) ?_ | refine Ew rfl rfl (by simp) (Fy ..) rfl ?_
 refine Ea (Ef rfl) ?_
 first | refine Ff rfl ?_ ?_ | refine Ft rfl ?_ ?_ | refine s_gNT rfl ?_ ?_ | refine Fe rfl ?_ ?_
 intro h2
 try rw [nnp] at h2
 refine Ea (Ek rfl) (Ei rfl (Ea (Eo rfl rfl rfl) (Ei rfl (Ea (Ek rfl) (Ei rfl (Ea (Eo rfl rfl rfl) (Ei rfl ?_)))))))
 first | refine Ea (o_subn rfl rfl (by omega)) ?_ | refine Ea (o_sub rfl rfl) ?_
 refine Ei rfl ?_
 first | refine Ez rfl rfl (Fy ..) ?_ | refine Ew rfl rfl (by simp) (Fy ..) rfl ?_
 refine Ea (Em rfl rfl) (Ea (Ef rfl) (Ed (Ec (Eb [4] rfl (Ep (Eg rfl rfl ?_))))))
 rotate_left
 intro h2
 try rw [nnp] at h2
 iterate 6 refine Ee rfl ?_
 refine Ea (Ej rfl rfl) (Ea (Ef rfl) (Ed (Ec (Eb [4] rfl (Ep (Eg rfl rfl ?_))))))
 rotate_left
 all_goals
  first | (rw [bk_n (by simp_all; done), Bool.eq_iff_iff]; simp; done) | (simp_all [Bucket.ok, inB]; done) | (simp_all [Bucket.ok, inB]; intros; omega) | (simp_all [Bucket.ok, inB]; try rw [Bool.eq_iff_iff]; simp; omega)
theorem c_226 (b : Bus) (i : Int) : CV prg 226 [.agg b.r, .w (.int .i64 i)] (fun res => res = .w (.int .i64 (ways b i))) := by
 refine Fo g226 (Eb [0, 1] rfl (Eh (En (Ea (o_box rfl rfl rfl) (Ea (Ef rfl) (Ed (Ec (Eb [1, 2] rfl (Eh (En (Ea (Ef rfl) ?_)))))))))))
 refine Ed (Ec (Eb [1, 2, 5] rfl (Eh (Eh (En (Ea (Ek rfl) (Ea (Ek rfl) (Ea (Eo rfl rfl rfl) (Ea (Ef rfl) ?_)))))))))
 first | refine Ff rfl ?_ ?_ | refine Ft rfl ?_ ?_ | refine s_gNT rfl ?_ ?_ | refine Fe rfl ?_ ?_
 intro h1
 try rw [nnp] at h1
 refine Ea (Ek rfl) (Ei rfl (Ea (Ek rfl) (Ei rfl (Ea (Eo rfl rfl rfl) (Ei rfl (Ea (Ef rfl) (Ei rfl (Ea (Fv rfl rfl) (Ea (Em rfl rfl) (Ed (Ec ?_)))))))))))
 refine Eb [1, 2, 5, 15] rfl ?_
 first | refine Ey rfl ?_ ?_ | refine Ev rfl ?_ ?_
 intro h2
 try rw [nnp] at h2
 refine En (Ea (Ef rfl) ?_)
 first | refine Ea (Fs rfl rfl (by omega)) ?_ | refine Ea (o_add rfl rfl) ?_
 refine Ea (Ef rfl) (Ed (Ec (Eb [1, 2, 5] rfl (Eh (Eh (En (Ea (Ek rfl) (Ea (Ek rfl) (Ea (Eo rfl rfl rfl) (Ea (Ef rfl) ?_))))))))))
 first | refine Ff rfl ?_ ?_ | refine Ft rfl ?_ ?_ | refine s_gNT rfl ?_ ?_ | refine Fe rfl ?_ ?_
 intro h3
 try rw [nnp] at h3
 refine Ea (Ek rfl) (Ei rfl (Ea (Ek rfl) (Ei rfl (Ea (Eo rfl rfl rfl) (Ei rfl (Ea (Ef rfl) (Ei rfl (Ea (Fv rfl rfl) (Ea (Em rfl rfl) (Ed (Ec ?_)))))))))))
 refine Eb [5, 27] rfl ?_
 first | refine Ey rfl ?_ ?_ | refine Ev rfl ?_ ?_
 intro h4
 try rw [nnp] at h4
 refine En (Ea (Ef rfl) ?_)
 first | refine Ea (Fs rfl rfl (by omega)) ?_ | refine Ea (o_add rfl rfl) ?_
 refine Ea (Ef rfl) (Ed (Ec (Eb [5] rfl (Eh (En (Ea (Ef rfl) (Ea (Ef rfl) (Ed (Ec (Eb [4] rfl (Ep ?_)))))))))))
 refine Fc rfl rfl ?_
 rotate_left
 intro h4
 try rw [nnp] at h4
 refine Fa (Ec (Eb [5] rfl (Eh (En (Ea (Ef rfl) (Ea (Ef rfl) (Ed (Ec (Eb [4] rfl (Ep (Fc rfl rfl ?_)))))))))))
 rotate_left
 intro h3
 try rw [nnp] at h3
 refine Ee rfl (Ee rfl (Ee rfl (Ee rfl (Ee rfl (Ea (Ej rfl rfl) (Ed (Ec (Eb [5, 27] rfl (s_condF rfl (Fa (Ec ?_)))))))))))
 refine Eb [5] rfl (Eh (En (Ea (Ef rfl) (Ea (Ef rfl) (Ed (Ec (Eb [4] rfl (Ep (Fc rfl rfl ?_)))))))))
 rotate_left
 intro h2
 try rw [nnp] at h2
 refine Fa (Ec (Eb [1, 2, 5] rfl (Eh (Eh (En (Ea (Ek rfl) (Ea (Ek rfl) (Ea (Eo rfl rfl rfl) (Ea (Ef rfl) ?_)))))))))
 first | refine Ff rfl ?_ ?_ | refine Ft rfl ?_ ?_ | refine s_gNT rfl ?_ ?_ | refine Fe rfl ?_ ?_
 intro h5
 try rw [nnp] at h5
 refine Ea (Ek rfl) (Ei rfl (Ea (Ek rfl) (Ei rfl (Ea (Eo rfl rfl rfl) (Ei rfl (Ea (Ef rfl) (Ei rfl (Ea (Fv rfl rfl) (Ea (Em rfl rfl) (Ed (Ec ?_)))))))))))
 refine Eb [5, 27] rfl ?_
 first | refine Ey rfl ?_ ?_ | refine Ev rfl ?_ ?_
 intro h6
 try rw [nnp] at h6
 refine En (Ea (Ef rfl) ?_)
 first | refine Ea (Fs rfl rfl (by omega)) ?_ | refine Ea (o_add rfl rfl) ?_
 refine Ea (Ef rfl) (Ed (Ec (Eb [5] rfl (Eh (En (Ea (Ef rfl) (Ea (Ef rfl) (Ed (Ec (Eb [4] rfl (Ep ?_)))))))))))
 refine Fc rfl rfl ?_
 rotate_left
 intro h6
 try rw [nnp] at h6
 refine Fa (Ec (Eb [5] rfl (Eh (En (Ea (Ef rfl) (Ea (Ef rfl) (Ed (Ec (Eb [4] rfl (Ep (Fc rfl rfl ?_)))))))))))
 rotate_left
 intro h5
 try rw [nnp] at h5
 refine Ee rfl (Ee rfl (Ee rfl (Ee rfl (Ee rfl (Ea (Ej rfl rfl) (Ed (Ec (Eb [5, 27] rfl (s_condF rfl (Fa (Ec ?_)))))))))))
 refine Eb [5] rfl (Eh (En (Ea (Ef rfl) (Ea (Ef rfl) (Ed (Ec (Eb [4] rfl (Ep (Fc rfl rfl ?_)))))))))
 rotate_left
 intro h1
 try rw [nnp] at h1
 refine Ee rfl (Ee rfl (Ee rfl (Ee rfl (Ee rfl (Ea (Ej rfl rfl) (Ed (Ec (Eb [1, 2, 5, 15] rfl (s_condF rfl (Fa (Ec ?_)))))))))))
 refine Eb [1, 2, 5] rfl (Eh (Eh (En (Ea (Ek rfl) (Ea (Ek rfl) (Ea (Eo rfl rfl rfl) (Ea (Ef rfl) ?_)))))))
 first | refine Ff rfl ?_ ?_ | refine Ft rfl ?_ ?_ | refine s_gNT rfl ?_ ?_ | refine Fe rfl ?_ ?_
 intro h7
 try rw [nnp] at h7
 refine Ea (Ek rfl) (Ei rfl (Ea (Ek rfl) (Ei rfl (Ea (Eo rfl rfl rfl) (Ei rfl (Ea (Ef rfl) (Ei rfl (Ea (Fv rfl rfl) (Ea (Em rfl rfl) (Ed (Ec ?_)))))))))))
 refine Eb [5, 27] rfl ?_
 first | refine Ey rfl ?_ ?_ | refine Ev rfl ?_ ?_
 intro h8
 try rw [nnp] at h8
 refine En (Ea (Ef rfl) ?_)
 first | refine Ea (Fs rfl rfl (by omega)) ?_ | refine Ea (o_add rfl rfl) ?_
 refine Ea (Ef rfl) (Ed (Ec (Eb [5] rfl (Eh (En (Ea (Ef rfl) (Ea (Ef rfl) (Ed (Ec (Eb [4] rfl (Ep ?_)))))))))))
 refine Fc rfl rfl ?_
 rotate_left
 intro h8
 try rw [nnp] at h8
 refine Fa (Ec (Eb [5] rfl (Eh (En (Ea (Ef rfl) (Ea (Ef rfl) (Ed (Ec (Eb [4] rfl (Ep (Fc rfl rfl ?_)))))))))))
 rotate_left
 intro h7
 try rw [nnp] at h7
 refine Ee rfl (Ee rfl (Ee rfl (Ee rfl (Ee rfl (Ea (Ej rfl rfl) (Ed (Ec (Eb [5, 27] rfl (s_condF rfl (Fa (Ec ?_)))))))))))
 refine Eb [5] rfl (Eh (En (Ea (Ef rfl) (Ea (Ef rfl) (Ed (Ec (Eb [4] rfl (Ep (Fc rfl rfl ?_)))))))))
 rotate_left
 all_goals
  unfold ways; simp_all
set_option maxHeartbeats 1000000 in
theorem c_222 (b : Bus) (hs : b.small) (hp : mastersB b = true) : CV prg 222 [.agg b.r, .agg b.data.r, .w (.bool true)] (fun res => res = .w (.bool (beatD b))) := by
 have hml : b.ms.length ≤ 1048576 := hs.2.1
 have hms := hs.2.2.1
 have he := even_of hp
 have he1 := he.ms
 have he3 := he.splits
 have hcl : b.conf.masters.length ≤ 1048576 := by omega
 refine Fo g222 (Eb [0, 1, 2] rfl (Eh (En (Ea (o_box rfl rfl rfl) (Ea (o_box rfl rfl rfl) (Ea (Ef rfl) (Ed (Ec (Eb [2, 3, 4] rfl (Eh (Eh ?_)))))))))))
 refine En (Ea (Ek rfl) (Ea (Eo rfl rfl rfl) (Ea (Fg rfl) (Ed (Ec (Eb [2, 3, 4, 10] rfl ?_))))))
 first | refine Ey rfl ?_ ?_ | refine Fp rfl ?_ ?_ | refine Fh rfl ?_ ?_ | refine Ev rfl ?_ ?_
 intro h1
 try rw [nnp] at h1
 try have h1' := Et h1
 refine Eh (En (Ea (Fm rfl rfl rfl) (Ea (o_bd rfl rfl) (Ea (o_eqs rfl rfl rfl rfl rfl) (Ea (Ef rfl) (Ed (Ec (Eb [6] rfl (Ep (Eu (Eg rfl rfl ?_)))))))))))
 rotate_left
 intro h1
 try rw [nnp] at h1
 try have h1' := Et h1
 refine Fa (Ec (Eb [2, 3, 4] rfl (Eh (Eh (En (Ea (Ek rfl) (Ea (Eo rfl rfl rfl) (Ea (Ek rfl) (Ea (Eo rfl rfl rfl) ?_)))))))))
 first | refine Ea (Fk rfl) ?_ | refine Ea (Fu rfl) ?_ | refine Ea (o_lenL rfl rfl rfl) ?_ | refine Ea (o_lenN rfl) ?_
 first | refine Ea (o_subn rfl rfl (by omega)) ?_ | refine Ea (o_sub rfl rfl) ?_
 first | refine Ez rfl rfl (Fy ..) ?_ | refine Ew rfl rfl (by simp) (Fy ..) rfl ?_
 refine Ea (Fg rfl) (Ea (Ef rfl) ?_)
 first | refine Fq rfl ?_ ?_ | refine Fr rfl ?_ ?_ | refine s_gNF rfl ?_ ?_ | refine Fe rfl ?_ ?_
 intro h2
 try rw [nnp] at h2
 try have h2' := Et h2
 refine Ea (Ek rfl) (Ei rfl (Ea (Eo rfl rfl rfl) (Ei rfl ?_)))
 first | refine Ez rfl rfl (Fy ..) ?_ | refine Ew rfl rfl (by simp) (Fy ..) rfl ?_
 refine Ei rfl (Ea (Fg rfl) (Ea (Ej rfl rfl) (Er (is := [2, 3, 4, 27]) rfl (Ea (Ef rfl) ?_))))
 first | refine Fq rfl ?_ ?_ | refine Fr rfl ?_ ?_ | refine s_gNF rfl ?_ ?_ | refine Fe rfl ?_ ?_
 intro h3
 try rw [nnp] at h3
 try have h3' := Et h3
 refine Ea (Ek rfl) (Ei rfl (Ea (Eo rfl rfl rfl) (Ei rfl (Ea (Ek rfl) (Ei rfl (Ea (Eo rfl rfl rfl) (Ei rfl (s_iaM rfl rfl (by omega) ?_))))))))
 intro y4 e4
 (try have e4m := mAt_of e4); (try have e4z := sAt_z hp e4 (by omega) (by omega)); (try simp only [Int.toNat_natCast, Int.toNat_zero] at e4)
 refine Ei rfl (Ea (o_ld rfl rfl) (Ei rfl ?_))
 first | refine Ea (o_gtr rfl rfl) ?_ | refine Ea (o_bin rfl rfl rfl rfl) ?_
 refine Ea (Ej rfl rfl) (Ed (Ec (Eb [2, 3, 4, 36] rfl ?_)))
 first | refine Ey rfl ?_ ?_ | refine Ev rfl ?_ ?_
 intro h5
 try rw [nnp] at h5
 try have h5' := Et h5
 refine Eh (En (Ea (Ef rfl) (Ed (Ec (Eb [6] rfl (Ep (Eu (Eg rfl rfl ?_))))))))
 rotate_left
 intro h5
 try rw [nnp] at h5
 try have h5' := Et h5
 refine Fa (Ec (Eb [2, 3, 4] rfl (Eh (En (Ea (Ek rfl) (Ea (Eo rfl rfl rfl) (Ea (Ek rfl) (Ea (Eo rfl rfl rfl) (s_iaM rfl rfl (by omega) ?_)))))))))
 intro y6 e6
 (try have e6m := mAt_of e6); (try have e6z := sAt_z hp e6 (by omega) (by omega)); (try simp only [Int.toNat_natCast, Int.toNat_zero] at e6)
 refine Ea (o_ldn rfl rfl) (Ea (o_new rfl rfl) (Fx (o_stnC rfl rfl rfl rfl rfl rfl rfl) (Ed (Ec (Eb [2, 3, 4, 7] rfl (Eh (Eh (En (Ea (Ef rfl) (Ea (Fg rfl) (Ed ?_)))))))))))
 refine Ec (Eb [3, 4, 7, 44] rfl (s_condF rfl (Fa (Ec (Eb [3, 4, 7] rfl (Eh (Eh (En (Ea (Ek rfl) (Ea (Eo rfl rfl rfl) ?_))))))))))
 first | refine Ea (Fv rfl rfl) ?_ | refine Ea (o_bin rfl rfl rfl rfl) ?_
 refine Ea (Ef rfl) ?_
 first | refine Ff rfl ?_ ?_ | refine Fe rfl ?_ ?_
 intro h7
 try rw [nnp] at h7
 try have h7' := Et h7
 refine Ea (Ek rfl) (Ei rfl (Ea (Eo rfl rfl rfl) (Ei rfl (Ea (Ek rfl) (Ei rfl (Ea (Ek rfl) (Ei rfl (Ea (Eo rfl rfl rfl) (Ei rfl ?_)))))))))
 first | refine Ea (o_geq rfl rfl) ?_ | refine Ea (o_bin rfl rfl rfl rfl) ?_
 refine Ea (Em rfl rfl) (Ea (Ef rfl) ?_)
 first | refine Fq rfl ?_ ?_ | refine Fe rfl ?_ ?_
 intro h8
 try rw [nnp] at h8
 try have h8' := Et h8
 refine Ea (Ek rfl) (Ei rfl (Ea (Eo rfl rfl rfl) (Er (is := [3, 4, 7, 77, 79]) rfl (Ei rfl ?_))))
 first | refine Ea (Fv rfl rfl) ?_ | refine Ea (o_bin rfl rfl rfl rfl) ?_
 refine Ei rfl (Ea (Ef rfl) ?_)
 first | refine Ff rfl ?_ ?_ | refine Fe rfl ?_ ?_
 intro h9
 try rw [nnp] at h9
 try have h9' := Et h9
 refine Ea (Ek rfl) (Ei rfl (Ea (Eo rfl rfl rfl) (Ei rfl (Ea (Ef rfl) ?_))))
 first | refine Fq rfl ?_ ?_ | refine Fr rfl ?_ ?_ | refine s_gNF rfl ?_ ?_ | refine Fe rfl ?_ ?_
 intro h10
 try rw [nnp] at h10
 try have h10' := Et h10
 refine Ea (Ek rfl) (Ei rfl (Ea (Eo rfl rfl rfl) (Ei rfl (Ea (Ek rfl) (Ei rfl (Ea (Eo rfl rfl rfl) (Ei rfl ?_)))))))
 first | refine Ea (Fv rfl rfl) ?_ | refine Ea (o_bin rfl rfl rfl rfl) ?_
 refine Ei rfl (Ea (Ej rfl rfl) (Ei rfl (Ea (Em rfl rfl) (Ea (Ej rfl rfl) (Ea (Ef rfl) (Er (is := [3, 4, 7, 93]) rfl ?_))))))
 first | refine Fq rfl ?_ ?_ | refine Fe rfl ?_ ?_
 intro h11
 try rw [nnp] at h11
 try have h11' := Et h11
 refine Ea (Ek rfl) (Ei rfl (Ea (Eo rfl rfl rfl) (Ei rfl (Ea (Ef rfl) ?_))))
 first | refine Ff rfl ?_ ?_ | refine Ft rfl ?_ ?_ | refine s_gNT rfl ?_ ?_ | refine Fe rfl ?_ ?_
 intro h12
 try rw [nnp] at h12
 try have h12' := Et h12
 refine Ea (Ek rfl) (Ei rfl (Ea (Ek rfl) (Ei rfl (Ea (Eo rfl rfl rfl) (Ei rfl (Ea (Em rfl rfl) (Ea (Ej rfl rfl) (Ed (Ec (Eb [3, 4, 7, 101] rfl ?_))))))))))
 first | refine Ey rfl ?_ ?_ | refine Fp rfl ?_ ?_ | refine Fh rfl ?_ ?_ | refine Ev rfl ?_ ?_
 intro h13
 try rw [nnp] at h13
 try have h13' := Et h13
 refine Eh (En (Ea (Ef rfl) (Ed (Ec (Eb [6] rfl (Ep (Eu (Eg rfl rfl ?_))))))))
 rotate_left
 intro h13
 try rw [nnp] at h13
 try have h13' := Et h13
 refine Fa (Ec (Eb [3, 4, 7] rfl (Eh (En (Ea (Ek rfl) (Ea (Eo rfl rfl rfl) (Ea (Ek rfl) (Ea (Eo rfl rfl rfl) ?_))))))))
 first | refine Ea (Fv rfl rfl) ?_ | refine Ea (o_bin rfl rfl rfl rfl) ?_
 refine Ea (Ef rfl) ?_
 first | refine Ff rfl ?_ ?_ | refine Fe rfl ?_ ?_
 intro h14
 try rw [nnp] at h14
 try have h14' := Et h14
 refine Ea (Ek rfl) (Ei rfl (Ea (Eo rfl rfl rfl) (Ei rfl (Ea (Ek rfl) (Ei rfl (Ea (Ek rfl) (Ei rfl (Ea (Eo rfl rfl rfl) (Ei rfl ?_)))))))))
 first | refine Ea (Fs rfl rfl (by omega)) ?_ | refine Ea (o_add rfl rfl) ?_
 refine Ei rfl ?_
 first | refine Ez rfl rfl (Fy ..) ?_ | refine Ew rfl rfl (by simp) (Fy ..) rfl ?_
 refine Ea (Em rfl rfl) (Er (is := [4, 115]) rfl (Ea (Ef rfl) ?_))
 first | refine Ff rfl ?_ ?_ | refine Ft rfl ?_ ?_ | refine s_gNT rfl ?_ ?_ | refine Fe rfl ?_ ?_
 intro h15
 try rw [nnp] at h15
 try have h15' := Et h15
 refine Ea (Ek rfl) (Ei rfl (Ea (Eo rfl rfl rfl) (Ei rfl (Ez rfl rfl (c_208 _) (Ei rfl (Ea (o_bin rfl rfl (respW_ne _) rfl) (Ea (Em rfl rfl) (Ea (Ef rfl) ?_))))))))
 first | refine Ff rfl ?_ ?_ | refine Ft rfl ?_ ?_ | refine s_gNT rfl ?_ ?_ | refine Fe rfl ?_ ?_
 intro h16
 try rw [nnp] at h16
 try have h16' := Et h16
 refine Ea (Ek rfl) (Ei rfl (Ea (Eo rfl rfl rfl) (Ei rfl (Ea (Fg rfl) (Ei rfl (Ea (Ef rfl) ?_))))))
 first | refine Fq rfl ?_ ?_ | refine Fr rfl ?_ ?_ | refine s_gNF rfl ?_ ?_ | refine Fe rfl ?_ ?_
 intro h17
 try rw [nnp] at h17
 try have h17' := Et h17
 refine Ea (Ek rfl) (Ei rfl (Ea (Eo rfl rfl rfl) (Ei rfl ?_)))
 first | refine Ea (o_neq rfl rfl) ?_ | refine Ea (o_bin rfl rfl rfl rfl) ?_
 refine Er (is := [4, 122, 126, 129]) rfl (Ei rfl (Ea (Ef rfl) ?_))
 first | refine Ff rfl ?_ ?_ | refine Fe rfl ?_ ?_
 intro h18
 try rw [nnp] at h18
 try have h18' := Et h18
 refine Ea (Ek rfl) (Ei rfl (Ea (Eo rfl rfl rfl) (Ei rfl ?_)))
 first | refine Ea (Fv rfl rfl) ?_ | refine Ea (o_bin rfl rfl rfl rfl) ?_
 refine Ei rfl (Ea (Em rfl rfl) (Ei rfl (Ea (Ej rfl rfl) (Ea (Em rfl rfl) (Ea (Ef rfl) (Ed (Ec (Eb [6] rfl (Ep (Eg rfl rfl ?_))))))))))
 rotate_left
 intro h18
 try rw [nnp] at h18
 try have h18' := Et h18
 refine Ee rfl (Ee rfl (Ee rfl (Ei rfl (Ea (Ej rfl rfl) (Ei rfl (Ea (Ej rfl rfl) (Ea (Em rfl rfl) (Ea (Ef rfl) (Ed (Ec (Eb [6] rfl ?_)))))))))))
 refine Ep (Eg rfl rfl ?_)
 rotate_left
 intro h17
 try rw [nnp] at h17
 try have h17' := Et h17
 refine Ee rfl (Ee rfl (Ee rfl (Er (is := [4, 122, 126, 129]) rfl (Ee rfl (Fb rfl (Fb rfl (Fb rfl (Ee rfl (Ei rfl (Ea (Em rfl rfl) (Ea (Em rfl rfl) ?_)))))))))))
 refine Ea (Ef rfl) (Ed (Ec (Eb [6] rfl (Ep (Eg rfl rfl ?_)))))
 rotate_left
 intro h16
 try rw [nnp] at h16
 try have h16' := Et h16
 refine Ee rfl (Ee rfl (Ee rfl (Ee rfl (Fb rfl (Fb rfl (Fb rfl (Er (is := [4, 122, 126, 129]) rfl (Fb rfl (Fb rfl (Fb rfl (Fb rfl ?_)))))))))))
 refine Fb rfl (Ee rfl (Ea (Ej rfl rfl) (Ea (Ef rfl) (Ed (Ec (Eb [6] rfl (Ep (Eg rfl rfl ?_))))))))
 rotate_left
 intro h15
 try rw [nnp] at h15
 try have h15' := Et h15
 refine Ee rfl (Ee rfl (Ee rfl (Ee rfl (Ea (Ej rfl rfl) (Ea (Ef rfl) (Ee rfl (Ee rfl (Ee rfl (Ee rfl (Fb rfl (Fb rfl ?_)))))))))))
 refine Fb rfl (Er (is := [4, 122, 126, 129]) rfl (Fb rfl (Fb rfl (Fb rfl (Fb rfl (Fb rfl (Ee rfl (Ea (Ej rfl rfl) (Ea (Ef rfl) (Ed (Ec ?_)))))))))))
 refine Eb [6] rfl (Ep (Eg rfl rfl ?_))
 rotate_left
 intro h14
 try rw [nnp] at h14
 try have h14' := Et h14
 iterate 7 refine Ee rfl ?_
 refine Ea (Ej rfl rfl) (Er (is := [4, 115]) rfl (Ea (Ef rfl) (Ee rfl (Ee rfl (Ee rfl (Ee rfl (Ea (Ej rfl rfl) (Ea (Ef rfl) (Ee rfl (Ee rfl (Ee rfl ?_)))))))))))
 refine Ee rfl (Fb rfl (Fb rfl (Fb rfl (Er (is := [4, 122, 126, 129]) rfl (Fb rfl (Fb rfl (Fb rfl (Fb rfl (Fb rfl (Ee rfl (Ea (Ej rfl rfl) ?_)))))))))))
 refine Ea (Ef rfl) (Ed (Ec (Eb [6] rfl (Ep (Eg rfl rfl ?_)))))
 rotate_left
 intro h12
 try rw [nnp] at h12
 try have h12' := Et h12
 refine Ee rfl (Ee rfl (Ee rfl (Ei rfl (Ea (Ej rfl rfl) (Ea (Ej rfl rfl) (Ed (Ec (Eb [3, 4, 7, 101] rfl (s_condF rfl (Fa (Ec ?_)))))))))))
 refine Eb [3, 4, 7] rfl (Eh (En (Ea (Ek rfl) (Ea (Eo rfl rfl rfl) (Ea (Ek rfl) (Ea (Eo rfl rfl rfl) ?_))))))
 first | refine Ea (Fv rfl rfl) ?_ | refine Ea (o_bin rfl rfl rfl rfl) ?_
 refine Ea (Ef rfl) ?_
 first | refine Ff rfl ?_ ?_ | refine Fe rfl ?_ ?_
 intro h19
 try rw [nnp] at h19
 try have h19' := Et h19
 refine Ea (Ek rfl) (Ei rfl (Ea (Eo rfl rfl rfl) (Ei rfl (Ea (Ek rfl) (Ei rfl (Ea (Ek rfl) (Ei rfl (Ea (Eo rfl rfl rfl) (Ei rfl ?_)))))))))
 first | refine Ea (Fs rfl rfl (by omega)) ?_ | refine Ea (o_add rfl rfl) ?_
 refine Ei rfl ?_
 first | refine Ez rfl rfl (Fy ..) ?_ | refine Ew rfl rfl (by simp) (Fy ..) rfl ?_
 refine Ea (Em rfl rfl) (Er (is := [4, 115]) rfl (Ea (Ef rfl) ?_))
 first | refine Ff rfl ?_ ?_ | refine Ft rfl ?_ ?_ | refine s_gNT rfl ?_ ?_ | refine Fe rfl ?_ ?_
 intro h20
 try rw [nnp] at h20
 try have h20' := Et h20
 refine Ea (Ek rfl) (Ei rfl (Ea (Eo rfl rfl rfl) (Ei rfl (Ez rfl rfl (c_208 _) (Ei rfl (Ea (o_bin rfl rfl (respW_ne _) rfl) (Ea (Em rfl rfl) (Ea (Ef rfl) ?_))))))))
 first | refine Ff rfl ?_ ?_ | refine Ft rfl ?_ ?_ | refine s_gNT rfl ?_ ?_ | refine Fe rfl ?_ ?_
 intro h21
 try rw [nnp] at h21
 try have h21' := Et h21
 refine Ea (Ek rfl) (Ei rfl (Ea (Eo rfl rfl rfl) (Ei rfl (Ea (Fg rfl) (Ei rfl (Ea (Ef rfl) ?_))))))
 first | refine Fq rfl ?_ ?_ | refine Fr rfl ?_ ?_ | refine s_gNF rfl ?_ ?_ | refine Fe rfl ?_ ?_
 intro h22
 try rw [nnp] at h22
 try have h22' := Et h22
 refine Ea (Ek rfl) (Ei rfl (Ea (Eo rfl rfl rfl) (Ei rfl ?_)))
 first | refine Ea (o_neq rfl rfl) ?_ | refine Ea (o_bin rfl rfl rfl rfl) ?_
 refine Er (is := [4, 122, 126, 129]) rfl (Ei rfl (Ea (Ef rfl) ?_))
 first | refine Ff rfl ?_ ?_ | refine Fe rfl ?_ ?_
 intro h23
 try rw [nnp] at h23
 try have h23' := Et h23
 refine Ea (Ek rfl) (Ei rfl (Ea (Eo rfl rfl rfl) (Ei rfl ?_)))
 first | refine Ea (Fv rfl rfl) ?_ | refine Ea (o_bin rfl rfl rfl rfl) ?_
 refine Ei rfl (Ea (Em rfl rfl) (Ei rfl (Ea (Ej rfl rfl) (Ea (Em rfl rfl) (Ea (Ef rfl) (Ed (Ec (Eb [6] rfl (Ep (Eg rfl rfl ?_))))))))))
 rotate_left
 intro h23
 try rw [nnp] at h23
 try have h23' := Et h23
 refine Ee rfl (Ee rfl (Ee rfl (Ei rfl (Ea (Ej rfl rfl) (Ei rfl (Ea (Ej rfl rfl) (Ea (Em rfl rfl) (Ea (Ef rfl) (Ed (Ec (Eb [6] rfl ?_)))))))))))
 refine Ep (Eg rfl rfl ?_)
 rotate_left
 intro h22
 try rw [nnp] at h22
 try have h22' := Et h22
 refine Ee rfl (Ee rfl (Ee rfl (Er (is := [4, 122, 126, 129]) rfl (Ee rfl (Fb rfl (Fb rfl (Fb rfl (Ee rfl (Ei rfl (Ea (Em rfl rfl) (Ea (Em rfl rfl) ?_)))))))))))
 refine Ea (Ef rfl) (Ed (Ec (Eb [6] rfl (Ep (Eg rfl rfl ?_)))))
 rotate_left
 intro h21
 try rw [nnp] at h21
 try have h21' := Et h21
 refine Ee rfl (Ee rfl (Ee rfl (Ee rfl (Fb rfl (Fb rfl (Fb rfl (Er (is := [4, 122, 126, 129]) rfl (Fb rfl (Fb rfl (Fb rfl (Fb rfl ?_)))))))))))
 refine Fb rfl (Ee rfl (Ea (Ej rfl rfl) (Ea (Ef rfl) (Ed (Ec (Eb [6] rfl (Ep (Eg rfl rfl ?_))))))))
 rotate_left
 intro h20
 try rw [nnp] at h20
 try have h20' := Et h20
 refine Ee rfl (Ee rfl (Ee rfl (Ee rfl (Ea (Ej rfl rfl) (Ea (Ef rfl) (Ee rfl (Ee rfl (Ee rfl (Ee rfl (Fb rfl (Fb rfl ?_)))))))))))
 refine Fb rfl (Er (is := [4, 122, 126, 129]) rfl (Fb rfl (Fb rfl (Fb rfl (Fb rfl (Fb rfl (Ee rfl (Ea (Ej rfl rfl) (Ea (Ef rfl) (Ed (Ec ?_)))))))))))
 refine Eb [6] rfl (Ep (Eg rfl rfl ?_))
 rotate_left
 intro h19
 try rw [nnp] at h19
 try have h19' := Et h19
 iterate 7 refine Ee rfl ?_
 refine Ea (Ej rfl rfl) (Er (is := [4, 115]) rfl (Ea (Ef rfl) (Ee rfl (Ee rfl (Ee rfl (Ee rfl (Ea (Ej rfl rfl) (Ea (Ef rfl) (Ee rfl (Ee rfl (Ee rfl ?_)))))))))))
 refine Ee rfl (Fb rfl (Fb rfl (Fb rfl (Er (is := [4, 122, 126, 129]) rfl (Fb rfl (Fb rfl (Fb rfl (Fb rfl (Fb rfl (Ee rfl (Ea (Ej rfl rfl) ?_)))))))))))
 refine Ea (Ef rfl) (Ed (Ec (Eb [6] rfl (Ep (Eg rfl rfl ?_)))))
 rotate_left
 intro h11
 try rw [nnp] at h11
 try have h11' := Et h11
 refine Ee rfl (Ee rfl (Ee rfl (Fb rfl (Fb rfl (Fb rfl (Ee rfl (Ea (Em rfl rfl) (Ed (Ec (Eb [3, 4, 7, 101] rfl (Fi rfl ?_)))))))))))
 refine Eh (En (Ea (Ef rfl) (Ed (Ec (Eb [6] rfl (Ep (Eu (Eg rfl rfl ?_))))))))
 rotate_left
 intro h10
 try rw [nnp] at h10
 try have h10' := Et h10
 refine Ee rfl (Ee rfl (Ee rfl (Ee rfl (Ee rfl (Ei rfl (Ea (Em rfl rfl) (Ei rfl (Ea (Em rfl rfl) (Ea (Ej rfl rfl) (Ea (Ef rfl) (Er (is := [3, 4, 7, 93]) rfl ?_)))))))))))
 refine Ee rfl (Ee rfl (Ee rfl (Fb rfl (Fb rfl (Fb rfl (Ee rfl (Ea (Em rfl rfl) (Ed (Ec (Eb [3, 4, 7, 101] rfl (Fi rfl ?_)))))))))))
 refine Eh (En (Ea (Ef rfl) (Ed (Ec (Eb [6] rfl (Ep (Eu (Eg rfl rfl ?_))))))))
 rotate_left
 intro h9
 try rw [nnp] at h9
 try have h9' := Et h9
 refine Ee rfl (Ee rfl (Ee rfl (Fb rfl (Fb rfl (Fb rfl (Fb rfl (Fb rfl (Ee rfl (Ei rfl (Ea (Ej rfl rfl) (Ea (Ej rfl rfl) ?_)))))))))))
 refine Ea (Ef rfl) (Er (is := [3, 4, 7, 93]) rfl (Ei rfl (Ea (Ek rfl) (Ei rfl (Ea (Eo rfl rfl rfl) (Ei rfl (Ea (Ef rfl) ?_)))))))
 first | refine Ff rfl ?_ ?_ | refine Ft rfl ?_ ?_ | refine s_gNT rfl ?_ ?_ | refine Fe rfl ?_ ?_
 intro h24
 try rw [nnp] at h24
 try have h24' := Et h24
 refine Ea (Ek rfl) (Ei rfl (Ea (Ek rfl) (Ei rfl (Ea (Eo rfl rfl rfl) (Ei rfl (Ea (Em rfl rfl) (Ea (Ej rfl rfl) (Ed (Ec (Eb [3, 4, 7, 101] rfl ?_))))))))))
 first | refine Ey rfl ?_ ?_ | refine Fp rfl ?_ ?_ | refine Fh rfl ?_ ?_ | refine Ev rfl ?_ ?_
 intro h25
 try rw [nnp] at h25
 try have h25' := Et h25
 refine Eh (En (Ea (Ef rfl) (Ed (Ec (Eb [6] rfl (Ep (Eu (Eg rfl rfl ?_))))))))
 rotate_left
 intro h25
 try rw [nnp] at h25
 try have h25' := Et h25
 refine Fa (Ec (Eb [3, 4, 7] rfl (Eh (En (Ea (Ek rfl) (Ea (Eo rfl rfl rfl) (Ea (Ek rfl) (Ea (Eo rfl rfl rfl) ?_))))))))
 first | refine Ea (Fv rfl rfl) ?_ | refine Ea (o_bin rfl rfl rfl rfl) ?_
 refine Ea (Ef rfl) ?_
 first | refine Ff rfl ?_ ?_ | refine Fe rfl ?_ ?_
 intro h26
 try rw [nnp] at h26
 try have h26' := Et h26
 refine Ea (Ek rfl) (Ei rfl (Ea (Eo rfl rfl rfl) (Ei rfl (Ea (Ek rfl) (Ei rfl (Ea (Ek rfl) (Ei rfl (Ea (Eo rfl rfl rfl) (Ei rfl ?_)))))))))
 first | refine Ea (Fs rfl rfl (by omega)) ?_ | refine Ea (o_add rfl rfl) ?_
 refine Ei rfl ?_
 first | refine Ez rfl rfl (Fy ..) ?_ | refine Ew rfl rfl (by simp) (Fy ..) rfl ?_
 refine Ea (Em rfl rfl) (Er (is := [4, 115]) rfl (Ea (Ef rfl) ?_))
 first | refine Ff rfl ?_ ?_ | refine Ft rfl ?_ ?_ | refine s_gNT rfl ?_ ?_ | refine Fe rfl ?_ ?_
 intro h27
 try rw [nnp] at h27
 try have h27' := Et h27
 refine Ea (Ek rfl) (Ei rfl (Ea (Eo rfl rfl rfl) (Ei rfl (Ez rfl rfl (c_208 _) (Ei rfl (Ea (o_bin rfl rfl (respW_ne _) rfl) (Ea (Em rfl rfl) (Ea (Ef rfl) ?_))))))))
 first | refine Ff rfl ?_ ?_ | refine Ft rfl ?_ ?_ | refine s_gNT rfl ?_ ?_ | refine Fe rfl ?_ ?_
 intro h28
 try rw [nnp] at h28
 try have h28' := Et h28
 refine Ea (Ek rfl) (Ei rfl (Ea (Eo rfl rfl rfl) (Ei rfl (Ea (Fg rfl) (Ei rfl (Ea (Ef rfl) ?_))))))
 first | refine Fq rfl ?_ ?_ | refine Fr rfl ?_ ?_ | refine s_gNF rfl ?_ ?_ | refine Fe rfl ?_ ?_
 intro h29
 try rw [nnp] at h29
 try have h29' := Et h29
 refine Ea (Ek rfl) (Ei rfl (Ea (Eo rfl rfl rfl) (Ei rfl ?_)))
 first | refine Ea (o_neq rfl rfl) ?_ | refine Ea (o_bin rfl rfl rfl rfl) ?_
 refine Er (is := [4, 122, 126, 129]) rfl (Ei rfl (Ea (Ef rfl) ?_))
 first | refine Ff rfl ?_ ?_ | refine Fe rfl ?_ ?_
 intro h30
 try rw [nnp] at h30
 try have h30' := Et h30
 refine Ea (Ek rfl) (Ei rfl (Ea (Eo rfl rfl rfl) (Ei rfl ?_)))
 first | refine Ea (Fv rfl rfl) ?_ | refine Ea (o_bin rfl rfl rfl rfl) ?_
 refine Ei rfl (Ea (Em rfl rfl) (Ei rfl (Ea (Ej rfl rfl) (Ea (Em rfl rfl) (Ea (Ef rfl) (Ed (Ec (Eb [6] rfl (Ep (Eg rfl rfl ?_))))))))))
 rotate_left
 intro h30
 try rw [nnp] at h30
 try have h30' := Et h30
 refine Ee rfl (Ee rfl (Ee rfl (Ei rfl (Ea (Ej rfl rfl) (Ei rfl (Ea (Ej rfl rfl) (Ea (Em rfl rfl) (Ea (Ef rfl) (Ed (Ec (Eb [6] rfl ?_)))))))))))
 refine Ep (Eg rfl rfl ?_)
 rotate_left
 intro h29
 try rw [nnp] at h29
 try have h29' := Et h29
 refine Ee rfl (Ee rfl (Ee rfl (Er (is := [4, 122, 126, 129]) rfl (Ee rfl (Fb rfl (Fb rfl (Fb rfl (Ee rfl (Ei rfl (Ea (Em rfl rfl) (Ea (Em rfl rfl) ?_)))))))))))
 refine Ea (Ef rfl) (Ed (Ec (Eb [6] rfl (Ep (Eg rfl rfl ?_)))))
 rotate_left
 intro h28
 try rw [nnp] at h28
 try have h28' := Et h28
 refine Ee rfl (Ee rfl (Ee rfl (Ee rfl (Fb rfl (Fb rfl (Fb rfl (Er (is := [4, 122, 126, 129]) rfl (Fb rfl (Fb rfl (Fb rfl (Fb rfl ?_)))))))))))
 refine Fb rfl (Ee rfl (Ea (Ej rfl rfl) (Ea (Ef rfl) (Ed (Ec (Eb [6] rfl (Ep (Eg rfl rfl ?_))))))))
 rotate_left
 intro h27
 try rw [nnp] at h27
 try have h27' := Et h27
 refine Ee rfl (Ee rfl (Ee rfl (Ee rfl (Ea (Ej rfl rfl) (Ea (Ef rfl) (Ee rfl (Ee rfl (Ee rfl (Ee rfl (Fb rfl (Fb rfl ?_)))))))))))
 refine Fb rfl (Er (is := [4, 122, 126, 129]) rfl (Fb rfl (Fb rfl (Fb rfl (Fb rfl (Fb rfl (Ee rfl (Ea (Ej rfl rfl) (Ea (Ef rfl) (Ed (Ec ?_)))))))))))
 refine Eb [6] rfl (Ep (Eg rfl rfl ?_))
 rotate_left
 intro h26
 try rw [nnp] at h26
 try have h26' := Et h26
 iterate 7 refine Ee rfl ?_
 refine Ea (Ej rfl rfl) (Er (is := [4, 115]) rfl (Ea (Ef rfl) (Ee rfl (Ee rfl (Ee rfl (Ee rfl (Ea (Ej rfl rfl) (Ea (Ef rfl) (Ee rfl (Ee rfl (Ee rfl ?_)))))))))))
 refine Ee rfl (Fb rfl (Fb rfl (Fb rfl (Er (is := [4, 122, 126, 129]) rfl (Fb rfl (Fb rfl (Fb rfl (Fb rfl (Fb rfl (Ee rfl (Ea (Ej rfl rfl) ?_)))))))))))
 refine Ea (Ef rfl) (Ed (Ec (Eb [6] rfl (Ep (Eg rfl rfl ?_)))))
 rotate_left
 intro h24
 try rw [nnp] at h24
 try have h24' := Et h24
 refine Ee rfl (Ee rfl (Ee rfl (Ei rfl (Ea (Ej rfl rfl) (Ea (Ej rfl rfl) (Ed (Ec (Eb [3, 4, 7, 101] rfl (s_condF rfl (Fa (Ec ?_)))))))))))
 refine Eb [3, 4, 7] rfl (Eh (En (Ea (Ek rfl) (Ea (Eo rfl rfl rfl) (Ea (Ek rfl) (Ea (Eo rfl rfl rfl) ?_))))))
 first | refine Ea (Fv rfl rfl) ?_ | refine Ea (o_bin rfl rfl rfl rfl) ?_
 refine Ea (Ef rfl) ?_
 first | refine Ff rfl ?_ ?_ | refine Fe rfl ?_ ?_
 intro h31
 try rw [nnp] at h31
 try have h31' := Et h31
 refine Ea (Ek rfl) (Ei rfl (Ea (Eo rfl rfl rfl) (Ei rfl (Ea (Ek rfl) (Ei rfl (Ea (Ek rfl) (Ei rfl (Ea (Eo rfl rfl rfl) (Ei rfl ?_)))))))))
 first | refine Ea (Fs rfl rfl (by omega)) ?_ | refine Ea (o_add rfl rfl) ?_
 refine Ei rfl ?_
 first | refine Ez rfl rfl (Fy ..) ?_ | refine Ew rfl rfl (by simp) (Fy ..) rfl ?_
 refine Ea (Em rfl rfl) (Er (is := [4, 115]) rfl (Ea (Ef rfl) ?_))
 first | refine Ff rfl ?_ ?_ | refine Ft rfl ?_ ?_ | refine s_gNT rfl ?_ ?_ | refine Fe rfl ?_ ?_
 intro h32
 try rw [nnp] at h32
 try have h32' := Et h32
 refine Ea (Ek rfl) (Ei rfl (Ea (Eo rfl rfl rfl) (Ei rfl (Ez rfl rfl (c_208 _) (Ei rfl (Ea (o_bin rfl rfl (respW_ne _) rfl) (Ea (Em rfl rfl) (Ea (Ef rfl) ?_))))))))
 first | refine Ff rfl ?_ ?_ | refine Ft rfl ?_ ?_ | refine s_gNT rfl ?_ ?_ | refine Fe rfl ?_ ?_
 intro h33
 try rw [nnp] at h33
 try have h33' := Et h33
 refine Ea (Ek rfl) (Ei rfl (Ea (Eo rfl rfl rfl) (Ei rfl (Ea (Fg rfl) (Ei rfl (Ea (Ef rfl) ?_))))))
 first | refine Fq rfl ?_ ?_ | refine Fr rfl ?_ ?_ | refine s_gNF rfl ?_ ?_ | refine Fe rfl ?_ ?_
 intro h34
 try rw [nnp] at h34
 try have h34' := Et h34
 refine Ea (Ek rfl) (Ei rfl (Ea (Eo rfl rfl rfl) (Ei rfl ?_)))
 first | refine Ea (o_neq rfl rfl) ?_ | refine Ea (o_bin rfl rfl rfl rfl) ?_
 refine Er (is := [4, 122, 126, 129]) rfl (Ei rfl (Ea (Ef rfl) ?_))
 first | refine Ff rfl ?_ ?_ | refine Fe rfl ?_ ?_
 intro h35
 try rw [nnp] at h35
 try have h35' := Et h35
 refine Ea (Ek rfl) (Ei rfl (Ea (Eo rfl rfl rfl) (Ei rfl ?_)))
 first | refine Ea (Fv rfl rfl) ?_ | refine Ea (o_bin rfl rfl rfl rfl) ?_
 refine Ei rfl (Ea (Em rfl rfl) (Ei rfl (Ea (Ej rfl rfl) (Ea (Em rfl rfl) (Ea (Ef rfl) (Ed (Ec (Eb [6] rfl (Ep (Eg rfl rfl ?_))))))))))
 rotate_left
 intro h35
 try rw [nnp] at h35
 try have h35' := Et h35
 refine Ee rfl (Ee rfl (Ee rfl (Ei rfl (Ea (Ej rfl rfl) (Ei rfl (Ea (Ej rfl rfl) (Ea (Em rfl rfl) (Ea (Ef rfl) (Ed (Ec (Eb [6] rfl ?_)))))))))))
 refine Ep (Eg rfl rfl ?_)
 rotate_left
 intro h34
 try rw [nnp] at h34
 try have h34' := Et h34
 refine Ee rfl (Ee rfl (Ee rfl (Er (is := [4, 122, 126, 129]) rfl (Ee rfl (Fb rfl (Fb rfl (Fb rfl (Ee rfl (Ei rfl (Ea (Em rfl rfl) (Ea (Em rfl rfl) ?_)))))))))))
 refine Ea (Ef rfl) (Ed (Ec (Eb [6] rfl (Ep (Eg rfl rfl ?_)))))
 rotate_left
 intro h33
 try rw [nnp] at h33
 try have h33' := Et h33
 refine Ee rfl (Ee rfl (Ee rfl (Ee rfl (Fb rfl (Fb rfl (Fb rfl (Er (is := [4, 122, 126, 129]) rfl (Fb rfl (Fb rfl (Fb rfl (Fb rfl ?_)))))))))))
 refine Fb rfl (Ee rfl (Ea (Ej rfl rfl) (Ea (Ef rfl) (Ed (Ec (Eb [6] rfl (Ep (Eg rfl rfl ?_))))))))
 rotate_left
 intro h32
 try rw [nnp] at h32
 try have h32' := Et h32
 refine Ee rfl (Ee rfl (Ee rfl (Ee rfl (Ea (Ej rfl rfl) (Ea (Ef rfl) (Ee rfl (Ee rfl (Ee rfl (Ee rfl (Fb rfl (Fb rfl ?_)))))))))))
 refine Fb rfl (Er (is := [4, 122, 126, 129]) rfl (Fb rfl (Fb rfl (Fb rfl (Fb rfl (Fb rfl (Ee rfl (Ea (Ej rfl rfl) (Ea (Ef rfl) (Ed (Ec ?_)))))))))))
 refine Eb [6] rfl (Ep (Eg rfl rfl ?_))
 rotate_left
 intro h31
 try rw [nnp] at h31
 try have h31' := Et h31
 iterate 7 refine Ee rfl ?_
 refine Ea (Ej rfl rfl) (Er (is := [4, 115]) rfl (Ea (Ef rfl) (Ee rfl (Ee rfl (Ee rfl (Ee rfl (Ea (Ej rfl rfl) (Ea (Ef rfl) (Ee rfl (Ee rfl (Ee rfl ?_)))))))))))
 refine Ee rfl (Fb rfl (Fb rfl (Fb rfl (Er (is := [4, 122, 126, 129]) rfl (Fb rfl (Fb rfl (Fb rfl (Fb rfl (Fb rfl (Ee rfl (Ea (Ej rfl rfl) ?_)))))))))))
 refine Ea (Ef rfl) (Ed (Ec (Eb [6] rfl (Ep (Eg rfl rfl ?_)))))
 rotate_left
 intro h8
 try rw [nnp] at h8
 try have h8' := Et h8
 refine Ee rfl (Ee rfl (Er (is := [3, 4, 7, 77, 79]) rfl (Ee rfl (Ee rfl ?_))))
 iterate 9 refine Fb rfl ?_
 refine Ee rfl (Ea (Em rfl rfl) (Ea (Ef rfl) (Er (is := [3, 4, 7, 93]) rfl (Ee rfl (Ee rfl (Ee rfl (Fb rfl (Fb rfl (Fb rfl (Ee rfl (Ea (Em rfl rfl) ?_)))))))))))
 refine Ed (Ec (Eb [3, 4, 7, 101] rfl (Fi rfl (Eh (En (Ea (Ef rfl) (Ed (Ec (Eb [6] rfl (Ep (Eu ?_)))))))))))
 refine Eg rfl rfl ?_
 rotate_left
 intro h7
 try rw [nnp] at h7
 try have h7' := Et h7
 iterate 6 refine Ee rfl ?_
 refine Ea (Ej rfl rfl) (Ea (Ef rfl) (Ei rfl (Ea (Ek rfl) (Ei rfl (Ea (Eo rfl rfl rfl) (Er (is := [3, 4, 7, 77, 79]) rfl (Ei rfl ?_)))))))
 first | refine Ea (Fv rfl rfl) ?_ | refine Ea (o_bin rfl rfl rfl rfl) ?_
 refine Ei rfl (Ea (Ef rfl) ?_)
 first | refine Ff rfl ?_ ?_ | refine Fe rfl ?_ ?_
 intro h36
 try rw [nnp] at h36
 try have h36' := Et h36
 refine Ea (Ek rfl) (Ei rfl (Ea (Eo rfl rfl rfl) (Ei rfl (Ea (Ef rfl) ?_))))
 first | refine Fq rfl ?_ ?_ | refine Fr rfl ?_ ?_ | refine s_gNF rfl ?_ ?_ | refine Fe rfl ?_ ?_
 intro h37
 try rw [nnp] at h37
 try have h37' := Et h37
 refine Ea (Ek rfl) (Ei rfl (Ea (Eo rfl rfl rfl) (Ei rfl (Ea (Ek rfl) (Ei rfl (Ea (Eo rfl rfl rfl) (Ei rfl ?_)))))))
 first | refine Ea (Fv rfl rfl) ?_ | refine Ea (o_bin rfl rfl rfl rfl) ?_
 refine Ei rfl (Ea (Ej rfl rfl) (Ei rfl (Ea (Em rfl rfl) (Ea (Ej rfl rfl) (Ea (Ef rfl) (Er (is := [3, 4, 7, 93]) rfl ?_))))))
 first | refine Fq rfl ?_ ?_ | refine Fe rfl ?_ ?_
 intro h38
 try rw [nnp] at h38
 try have h38' := Et h38
 refine Ea (Ek rfl) (Ei rfl (Ea (Eo rfl rfl rfl) (Ei rfl (Ea (Ef rfl) ?_))))
 first | refine Ff rfl ?_ ?_ | refine Ft rfl ?_ ?_ | refine s_gNT rfl ?_ ?_ | refine Fe rfl ?_ ?_
 intro h39
 try rw [nnp] at h39
 try have h39' := Et h39
 refine Ea (Ek rfl) (Ei rfl (Ea (Ek rfl) (Ei rfl (Ea (Eo rfl rfl rfl) (Ei rfl (Ea (Em rfl rfl) (Ea (Ej rfl rfl) (Ed (Ec (Eb [3, 4, 7, 101] rfl ?_))))))))))
 first | refine Ey rfl ?_ ?_ | refine Fp rfl ?_ ?_ | refine Fh rfl ?_ ?_ | refine Ev rfl ?_ ?_
 intro h40
 try rw [nnp] at h40
 try have h40' := Et h40
 refine Eh (En (Ea (Ef rfl) (Ed (Ec (Eb [6] rfl (Ep (Eu (Eg rfl rfl ?_))))))))
 rotate_left
 intro h40
 try rw [nnp] at h40
 try have h40' := Et h40
 refine Fa (Ec (Eb [3, 4, 7] rfl (Eh (En (Ea (Ek rfl) (Ea (Eo rfl rfl rfl) (Ea (Ek rfl) (Ea (Eo rfl rfl rfl) ?_))))))))
 first | refine Ea (Fv rfl rfl) ?_ | refine Ea (o_bin rfl rfl rfl rfl) ?_
 refine Ea (Ef rfl) ?_
 first | refine Ff rfl ?_ ?_ | refine Fe rfl ?_ ?_
 intro h41
 try rw [nnp] at h41
 try have h41' := Et h41
 refine Ea (Ek rfl) (Ei rfl (Ea (Eo rfl rfl rfl) (Ei rfl (Ea (Ek rfl) (Ei rfl (Ea (Ek rfl) (Ei rfl (Ea (Eo rfl rfl rfl) (Ei rfl ?_)))))))))
 first | refine Ea (Fs rfl rfl (by omega)) ?_ | refine Ea (o_add rfl rfl) ?_
 refine Ei rfl ?_
 first | refine Ez rfl rfl (Fy ..) ?_ | refine Ew rfl rfl (by simp) (Fy ..) rfl ?_
 refine Ea (Em rfl rfl) (Er (is := [4, 115]) rfl (Ea (Ef rfl) ?_))
 first | refine Ff rfl ?_ ?_ | refine Ft rfl ?_ ?_ | refine s_gNT rfl ?_ ?_ | refine Fe rfl ?_ ?_
 intro h42
 try rw [nnp] at h42
 try have h42' := Et h42
 refine Ea (Ek rfl) (Ei rfl (Ea (Eo rfl rfl rfl) (Ei rfl (Ez rfl rfl (c_208 _) (Ei rfl (Ea (o_bin rfl rfl (respW_ne _) rfl) (Ea (Em rfl rfl) (Ea (Ef rfl) ?_))))))))
 first | refine Ff rfl ?_ ?_ | refine Ft rfl ?_ ?_ | refine s_gNT rfl ?_ ?_ | refine Fe rfl ?_ ?_
 intro h43
 try rw [nnp] at h43
 try have h43' := Et h43
 refine Ea (Ek rfl) (Ei rfl (Ea (Eo rfl rfl rfl) (Ei rfl (Ea (Fg rfl) (Ei rfl (Ea (Ef rfl) ?_))))))
 first | refine Fq rfl ?_ ?_ | refine Fr rfl ?_ ?_ | refine s_gNF rfl ?_ ?_ | refine Fe rfl ?_ ?_
 intro h44
 try rw [nnp] at h44
 try have h44' := Et h44
 refine Ea (Ek rfl) (Ei rfl (Ea (Eo rfl rfl rfl) (Ei rfl ?_)))
 first | refine Ea (o_neq rfl rfl) ?_ | refine Ea (o_bin rfl rfl rfl rfl) ?_
 refine Er (is := [4, 122, 126, 129]) rfl (Ei rfl (Ea (Ef rfl) ?_))
 first | refine Ff rfl ?_ ?_ | refine Fe rfl ?_ ?_
 intro h45
 try rw [nnp] at h45
 try have h45' := Et h45
 refine Ea (Ek rfl) (Ei rfl (Ea (Eo rfl rfl rfl) (Ei rfl ?_)))
 first | refine Ea (Fv rfl rfl) ?_ | refine Ea (o_bin rfl rfl rfl rfl) ?_
 refine Ei rfl (Ea (Em rfl rfl) (Ei rfl (Ea (Ej rfl rfl) (Ea (Em rfl rfl) (Ea (Ef rfl) (Ed (Ec (Eb [6] rfl (Ep (Eg rfl rfl ?_))))))))))
 rotate_left
 intro h45
 try rw [nnp] at h45
 try have h45' := Et h45
 refine Ee rfl (Ee rfl (Ee rfl (Ei rfl (Ea (Ej rfl rfl) (Ei rfl (Ea (Ej rfl rfl) (Ea (Em rfl rfl) (Ea (Ef rfl) (Ed (Ec (Eb [6] rfl ?_)))))))))))
 refine Ep (Eg rfl rfl ?_)
 rotate_left
 intro h44
 try rw [nnp] at h44
 try have h44' := Et h44
 refine Ee rfl (Ee rfl (Ee rfl (Er (is := [4, 122, 126, 129]) rfl (Ee rfl (Fb rfl (Fb rfl (Fb rfl (Ee rfl (Ei rfl (Ea (Em rfl rfl) (Ea (Em rfl rfl) ?_)))))))))))
 refine Ea (Ef rfl) (Ed (Ec (Eb [6] rfl (Ep (Eg rfl rfl ?_)))))
 rotate_left
 intro h43
 try rw [nnp] at h43
 try have h43' := Et h43
 refine Ee rfl (Ee rfl (Ee rfl (Ee rfl (Fb rfl (Fb rfl (Fb rfl (Er (is := [4, 122, 126, 129]) rfl (Fb rfl (Fb rfl (Fb rfl (Fb rfl ?_)))))))))))
 refine Fb rfl (Ee rfl (Ea (Ej rfl rfl) (Ea (Ef rfl) (Ed (Ec (Eb [6] rfl (Ep (Eg rfl rfl ?_))))))))
 rotate_left
 intro h42
 try rw [nnp] at h42
 try have h42' := Et h42
 refine Ee rfl (Ee rfl (Ee rfl (Ee rfl (Ea (Ej rfl rfl) (Ea (Ef rfl) (Ee rfl (Ee rfl (Ee rfl (Ee rfl (Fb rfl (Fb rfl ?_)))))))))))
 refine Fb rfl (Er (is := [4, 122, 126, 129]) rfl (Fb rfl (Fb rfl (Fb rfl (Fb rfl (Fb rfl (Ee rfl (Ea (Ej rfl rfl) (Ea (Ef rfl) (Ed (Ec ?_)))))))))))
 refine Eb [6] rfl (Ep (Eg rfl rfl ?_))
 rotate_left
 intro h41
 try rw [nnp] at h41
 try have h41' := Et h41
 iterate 7 refine Ee rfl ?_
 refine Ea (Ej rfl rfl) (Er (is := [4, 115]) rfl (Ea (Ef rfl) (Ee rfl (Ee rfl (Ee rfl (Ee rfl (Ea (Ej rfl rfl) (Ea (Ef rfl) (Ee rfl (Ee rfl (Ee rfl ?_)))))))))))
 refine Ee rfl (Fb rfl (Fb rfl (Fb rfl (Er (is := [4, 122, 126, 129]) rfl (Fb rfl (Fb rfl (Fb rfl (Fb rfl (Fb rfl (Ee rfl (Ea (Ej rfl rfl) ?_)))))))))))
 refine Ea (Ef rfl) (Ed (Ec (Eb [6] rfl (Ep (Eg rfl rfl ?_)))))
 rotate_left
 intro h39
 try rw [nnp] at h39
 try have h39' := Et h39
 refine Ee rfl (Ee rfl (Ee rfl (Ei rfl (Ea (Ej rfl rfl) (Ea (Ej rfl rfl) (Ed (Ec (Eb [3, 4, 7, 101] rfl (s_condF rfl (Fa (Ec ?_)))))))))))
 refine Eb [3, 4, 7] rfl (Eh (En (Ea (Ek rfl) (Ea (Eo rfl rfl rfl) (Ea (Ek rfl) (Ea (Eo rfl rfl rfl) ?_))))))
 first | refine Ea (Fv rfl rfl) ?_ | refine Ea (o_bin rfl rfl rfl rfl) ?_
 refine Ea (Ef rfl) ?_
 first | refine Ff rfl ?_ ?_ | refine Fe rfl ?_ ?_
 intro h46
 try rw [nnp] at h46
 try have h46' := Et h46
 refine Ea (Ek rfl) (Ei rfl (Ea (Eo rfl rfl rfl) (Ei rfl (Ea (Ek rfl) (Ei rfl (Ea (Ek rfl) (Ei rfl (Ea (Eo rfl rfl rfl) (Ei rfl ?_)))))))))
 first | refine Ea (Fs rfl rfl (by omega)) ?_ | refine Ea (o_add rfl rfl) ?_
 refine Ei rfl ?_
 first | refine Ez rfl rfl (Fy ..) ?_ | refine Ew rfl rfl (by simp) (Fy ..) rfl ?_
 refine Ea (Em rfl rfl) (Er (is := [4, 115]) rfl (Ea (Ef rfl) ?_))
 first | refine Ff rfl ?_ ?_ | refine Ft rfl ?_ ?_ | refine s_gNT rfl ?_ ?_ | refine Fe rfl ?_ ?_
 intro h47
 try rw [nnp] at h47
 try have h47' := Et h47
 refine Ea (Ek rfl) (Ei rfl (Ea (Eo rfl rfl rfl) (Ei rfl (Ez rfl rfl (c_208 _) (Ei rfl (Ea (o_bin rfl rfl (respW_ne _) rfl) (Ea (Em rfl rfl) (Ea (Ef rfl) ?_))))))))
 first | refine Ff rfl ?_ ?_ | refine Ft rfl ?_ ?_ | refine s_gNT rfl ?_ ?_ | refine Fe rfl ?_ ?_
 intro h48
 try rw [nnp] at h48
 try have h48' := Et h48
 refine Ea (Ek rfl) (Ei rfl (Ea (Eo rfl rfl rfl) (Ei rfl (Ea (Fg rfl) (Ei rfl (Ea (Ef rfl) ?_))))))
 first | refine Fq rfl ?_ ?_ | refine Fr rfl ?_ ?_ | refine s_gNF rfl ?_ ?_ | refine Fe rfl ?_ ?_
 intro h49
 try rw [nnp] at h49
 try have h49' := Et h49
 refine Ea (Ek rfl) (Ei rfl (Ea (Eo rfl rfl rfl) (Ei rfl ?_)))
 first | refine Ea (o_neq rfl rfl) ?_ | refine Ea (o_bin rfl rfl rfl rfl) ?_
 refine Er (is := [4, 122, 126, 129]) rfl (Ei rfl (Ea (Ef rfl) ?_))
 first | refine Ff rfl ?_ ?_ | refine Fe rfl ?_ ?_
 intro h50
 try rw [nnp] at h50
 try have h50' := Et h50
 refine Ea (Ek rfl) (Ei rfl (Ea (Eo rfl rfl rfl) (Ei rfl ?_)))
 first | refine Ea (Fv rfl rfl) ?_ | refine Ea (o_bin rfl rfl rfl rfl) ?_
 refine Ei rfl (Ea (Em rfl rfl) (Ei rfl (Ea (Ej rfl rfl) (Ea (Em rfl rfl) (Ea (Ef rfl) (Ed (Ec (Eb [6] rfl (Ep (Eg rfl rfl ?_))))))))))
 rotate_left
 intro h50
 try rw [nnp] at h50
 try have h50' := Et h50
 refine Ee rfl (Ee rfl (Ee rfl (Ei rfl (Ea (Ej rfl rfl) (Ei rfl (Ea (Ej rfl rfl) (Ea (Em rfl rfl) (Ea (Ef rfl) (Ed (Ec (Eb [6] rfl ?_)))))))))))
 refine Ep (Eg rfl rfl ?_)
 rotate_left
 intro h49
 try rw [nnp] at h49
 try have h49' := Et h49
 refine Ee rfl (Ee rfl (Ee rfl (Er (is := [4, 122, 126, 129]) rfl (Ee rfl (Fb rfl (Fb rfl (Fb rfl (Ee rfl (Ei rfl (Ea (Em rfl rfl) (Ea (Em rfl rfl) ?_)))))))))))
 refine Ea (Ef rfl) (Ed (Ec (Eb [6] rfl (Ep (Eg rfl rfl ?_)))))
 rotate_left
 intro h48
 try rw [nnp] at h48
 try have h48' := Et h48
 refine Ee rfl (Ee rfl (Ee rfl (Ee rfl (Fb rfl (Fb rfl (Fb rfl (Er (is := [4, 122, 126, 129]) rfl (Fb rfl (Fb rfl (Fb rfl (Fb rfl ?_)))))))))))
 refine Fb rfl (Ee rfl (Ea (Ej rfl rfl) (Ea (Ef rfl) (Ed (Ec (Eb [6] rfl (Ep (Eg rfl rfl ?_))))))))
 rotate_left
 intro h47
 try rw [nnp] at h47
 try have h47' := Et h47
 refine Ee rfl (Ee rfl (Ee rfl (Ee rfl (Ea (Ej rfl rfl) (Ea (Ef rfl) (Ee rfl (Ee rfl (Ee rfl (Ee rfl (Fb rfl (Fb rfl ?_)))))))))))
 refine Fb rfl (Er (is := [4, 122, 126, 129]) rfl (Fb rfl (Fb rfl (Fb rfl (Fb rfl (Fb rfl (Ee rfl (Ea (Ej rfl rfl) (Ea (Ef rfl) (Ed (Ec ?_)))))))))))
 refine Eb [6] rfl (Ep (Eg rfl rfl ?_))
 rotate_left
 intro h46
 try rw [nnp] at h46
 try have h46' := Et h46
 iterate 7 refine Ee rfl ?_
 refine Ea (Ej rfl rfl) (Er (is := [4, 115]) rfl (Ea (Ef rfl) (Ee rfl (Ee rfl (Ee rfl (Ee rfl (Ea (Ej rfl rfl) (Ea (Ef rfl) (Ee rfl (Ee rfl (Ee rfl ?_)))))))))))
 refine Ee rfl (Fb rfl (Fb rfl (Fb rfl (Er (is := [4, 122, 126, 129]) rfl (Fb rfl (Fb rfl (Fb rfl (Fb rfl (Fb rfl (Ee rfl (Ea (Ej rfl rfl) ?_)))))))))))
 refine Ea (Ef rfl) (Ed (Ec (Eb [6] rfl (Ep (Eg rfl rfl ?_)))))
 rotate_left
 intro h38
 try rw [nnp] at h38
 try have h38' := Et h38
 refine Ee rfl (Ee rfl (Ee rfl (Fb rfl (Fb rfl (Fb rfl (Ee rfl (Ea (Em rfl rfl) (Ed (Ec (Eb [3, 4, 7, 101] rfl (Fi rfl ?_)))))))))))
 refine Eh (En (Ea (Ef rfl) (Ed (Ec (Eb [6] rfl (Ep (Eu (Eg rfl rfl ?_))))))))
 rotate_left
 intro h37
 try rw [nnp] at h37
 try have h37' := Et h37
 refine Ee rfl (Ee rfl (Ee rfl (Ee rfl (Ee rfl (Ei rfl (Ea (Em rfl rfl) (Ei rfl (Ea (Em rfl rfl) (Ea (Ej rfl rfl) (Ea (Ef rfl) (Er (is := [3, 4, 7, 93]) rfl ?_)))))))))))
 refine Ee rfl (Ee rfl (Ee rfl (Fb rfl (Fb rfl (Fb rfl (Ee rfl (Ea (Em rfl rfl) (Ed (Ec (Eb [3, 4, 7, 101] rfl (Fi rfl ?_)))))))))))
 refine Eh (En (Ea (Ef rfl) (Ed (Ec (Eb [6] rfl (Ep (Eu (Eg rfl rfl ?_))))))))
 rotate_left
 intro h36
 try rw [nnp] at h36
 try have h36' := Et h36
 refine Ee rfl (Ee rfl (Ee rfl (Fb rfl (Fb rfl (Fb rfl (Fb rfl (Fb rfl (Ee rfl (Ei rfl (Ea (Ej rfl rfl) (Ea (Ej rfl rfl) ?_)))))))))))
 refine Ea (Ef rfl) (Er (is := [3, 4, 7, 93]) rfl (Ei rfl (Ea (Ek rfl) (Ei rfl (Ea (Eo rfl rfl rfl) (Ei rfl (Ea (Ef rfl) ?_)))))))
 first | refine Ff rfl ?_ ?_ | refine Ft rfl ?_ ?_ | refine s_gNT rfl ?_ ?_ | refine Fe rfl ?_ ?_
 intro h51
 try rw [nnp] at h51
 try have h51' := Et h51
 refine Ea (Ek rfl) (Ei rfl (Ea (Ek rfl) (Ei rfl (Ea (Eo rfl rfl rfl) (Ei rfl (Ea (Em rfl rfl) (Ea (Ej rfl rfl) (Ed (Ec (Eb [3, 4, 7, 101] rfl ?_))))))))))
 first | refine Ey rfl ?_ ?_ | refine Fp rfl ?_ ?_ | refine Fh rfl ?_ ?_ | refine Ev rfl ?_ ?_
 intro h52
 try rw [nnp] at h52
 try have h52' := Et h52
 refine Eh (En (Ea (Ef rfl) (Ed (Ec (Eb [6] rfl (Ep (Eu (Eg rfl rfl ?_))))))))
 rotate_left
 intro h52
 try rw [nnp] at h52
 try have h52' := Et h52
 refine Fa (Ec (Eb [3, 4, 7] rfl (Eh (En (Ea (Ek rfl) (Ea (Eo rfl rfl rfl) (Ea (Ek rfl) (Ea (Eo rfl rfl rfl) ?_))))))))
 first | refine Ea (Fv rfl rfl) ?_ | refine Ea (o_bin rfl rfl rfl rfl) ?_
 refine Ea (Ef rfl) ?_
 first | refine Ff rfl ?_ ?_ | refine Fe rfl ?_ ?_
 intro h53
 try rw [nnp] at h53
 try have h53' := Et h53
 refine Ea (Ek rfl) (Ei rfl (Ea (Eo rfl rfl rfl) (Ei rfl (Ea (Ek rfl) (Ei rfl (Ea (Ek rfl) (Ei rfl (Ea (Eo rfl rfl rfl) (Ei rfl ?_)))))))))
 first | refine Ea (Fs rfl rfl (by omega)) ?_ | refine Ea (o_add rfl rfl) ?_
 refine Ei rfl ?_
 first | refine Ez rfl rfl (Fy ..) ?_ | refine Ew rfl rfl (by simp) (Fy ..) rfl ?_
 refine Ea (Em rfl rfl) (Er (is := [4, 115]) rfl (Ea (Ef rfl) ?_))
 first | refine Ff rfl ?_ ?_ | refine Ft rfl ?_ ?_ | refine s_gNT rfl ?_ ?_ | refine Fe rfl ?_ ?_
 intro h54
 try rw [nnp] at h54
 try have h54' := Et h54
 refine Ea (Ek rfl) (Ei rfl (Ea (Eo rfl rfl rfl) (Ei rfl (Ez rfl rfl (c_208 _) (Ei rfl (Ea (o_bin rfl rfl (respW_ne _) rfl) (Ea (Em rfl rfl) (Ea (Ef rfl) ?_))))))))
 first | refine Ff rfl ?_ ?_ | refine Ft rfl ?_ ?_ | refine s_gNT rfl ?_ ?_ | refine Fe rfl ?_ ?_
 intro h55
 try rw [nnp] at h55
 try have h55' := Et h55
 refine Ea (Ek rfl) (Ei rfl (Ea (Eo rfl rfl rfl) (Ei rfl (Ea (Fg rfl) (Ei rfl (Ea (Ef rfl) ?_))))))
 first | refine Fq rfl ?_ ?_ | refine Fr rfl ?_ ?_ | refine s_gNF rfl ?_ ?_ | refine Fe rfl ?_ ?_
 intro h56
 try rw [nnp] at h56
 try have h56' := Et h56
 refine Ea (Ek rfl) (Ei rfl (Ea (Eo rfl rfl rfl) (Ei rfl ?_)))
 first | refine Ea (o_neq rfl rfl) ?_ | refine Ea (o_bin rfl rfl rfl rfl) ?_
 refine Er (is := [4, 122, 126, 129]) rfl (Ei rfl (Ea (Ef rfl) ?_))
 first | refine Ff rfl ?_ ?_ | refine Fe rfl ?_ ?_
 intro h57
 try rw [nnp] at h57
 try have h57' := Et h57
 refine Ea (Ek rfl) (Ei rfl (Ea (Eo rfl rfl rfl) (Ei rfl ?_)))
 first | refine Ea (Fv rfl rfl) ?_ | refine Ea (o_bin rfl rfl rfl rfl) ?_
 refine Ei rfl (Ea (Em rfl rfl) (Ei rfl (Ea (Ej rfl rfl) (Ea (Em rfl rfl) (Ea (Ef rfl) (Ed (Ec (Eb [6] rfl (Ep (Eg rfl rfl ?_))))))))))
 rotate_left
 intro h57
 try rw [nnp] at h57
 try have h57' := Et h57
 refine Ee rfl (Ee rfl (Ee rfl (Ei rfl (Ea (Ej rfl rfl) (Ei rfl (Ea (Ej rfl rfl) (Ea (Em rfl rfl) (Ea (Ef rfl) (Ed (Ec (Eb [6] rfl ?_)))))))))))
 refine Ep (Eg rfl rfl ?_)
 rotate_left
 intro h56
 try rw [nnp] at h56
 try have h56' := Et h56
 refine Ee rfl (Ee rfl (Ee rfl (Er (is := [4, 122, 126, 129]) rfl (Ee rfl (Fb rfl (Fb rfl (Fb rfl (Ee rfl (Ei rfl (Ea (Em rfl rfl) (Ea (Em rfl rfl) ?_)))))))))))
 refine Ea (Ef rfl) (Ed (Ec (Eb [6] rfl (Ep (Eg rfl rfl ?_)))))
 rotate_left
 intro h55
 try rw [nnp] at h55
 try have h55' := Et h55
 refine Ee rfl (Ee rfl (Ee rfl (Ee rfl (Fb rfl (Fb rfl (Fb rfl (Er (is := [4, 122, 126, 129]) rfl (Fb rfl (Fb rfl (Fb rfl (Fb rfl ?_)))))))))))
 refine Fb rfl (Ee rfl (Ea (Ej rfl rfl) (Ea (Ef rfl) (Ed (Ec (Eb [6] rfl (Ep (Eg rfl rfl ?_))))))))
 rotate_left
 intro h54
 try rw [nnp] at h54
 try have h54' := Et h54
 refine Ee rfl (Ee rfl (Ee rfl (Ee rfl (Ea (Ej rfl rfl) (Ea (Ef rfl) (Ee rfl (Ee rfl (Ee rfl (Ee rfl (Fb rfl (Fb rfl ?_)))))))))))
 refine Fb rfl (Er (is := [4, 122, 126, 129]) rfl (Fb rfl (Fb rfl (Fb rfl (Fb rfl (Fb rfl (Ee rfl (Ea (Ej rfl rfl) (Ea (Ef rfl) (Ed (Ec ?_)))))))))))
 refine Eb [6] rfl (Ep (Eg rfl rfl ?_))
 rotate_left
 intro h53
 try rw [nnp] at h53
 try have h53' := Et h53
 iterate 7 refine Ee rfl ?_
 refine Ea (Ej rfl rfl) (Er (is := [4, 115]) rfl (Ea (Ef rfl) (Ee rfl (Ee rfl (Ee rfl (Ee rfl (Ea (Ej rfl rfl) (Ea (Ef rfl) (Ee rfl (Ee rfl (Ee rfl ?_)))))))))))
 refine Ee rfl (Fb rfl (Fb rfl (Fb rfl (Er (is := [4, 122, 126, 129]) rfl (Fb rfl (Fb rfl (Fb rfl (Fb rfl (Fb rfl (Ee rfl (Ea (Ej rfl rfl) ?_)))))))))))
 refine Ea (Ef rfl) (Ed (Ec (Eb [6] rfl (Ep (Eg rfl rfl ?_)))))
 rotate_left
 intro h51
 try rw [nnp] at h51
 try have h51' := Et h51
 refine Ee rfl (Ee rfl (Ee rfl (Ei rfl (Ea (Ej rfl rfl) (Ea (Ej rfl rfl) (Ed (Ec (Eb [3, 4, 7, 101] rfl (s_condF rfl (Fa (Ec ?_)))))))))))
 refine Eb [3, 4, 7] rfl (Eh (En (Ea (Ek rfl) (Ea (Eo rfl rfl rfl) (Ea (Ek rfl) (Ea (Eo rfl rfl rfl) ?_))))))
 first | refine Ea (Fv rfl rfl) ?_ | refine Ea (o_bin rfl rfl rfl rfl) ?_
 refine Ea (Ef rfl) ?_
 first | refine Ff rfl ?_ ?_ | refine Fe rfl ?_ ?_
 intro h58
 try rw [nnp] at h58
 try have h58' := Et h58
 refine Ea (Ek rfl) (Ei rfl (Ea (Eo rfl rfl rfl) (Ei rfl (Ea (Ek rfl) (Ei rfl (Ea (Ek rfl) (Ei rfl (Ea (Eo rfl rfl rfl) (Ei rfl ?_)))))))))
 first | refine Ea (Fs rfl rfl (by omega)) ?_ | refine Ea (o_add rfl rfl) ?_
 refine Ei rfl ?_
 first | refine Ez rfl rfl (Fy ..) ?_ | refine Ew rfl rfl (by simp) (Fy ..) rfl ?_
 refine Ea (Em rfl rfl) (Er (is := [4, 115]) rfl (Ea (Ef rfl) ?_))
 first | refine Ff rfl ?_ ?_ | refine Ft rfl ?_ ?_ | refine s_gNT rfl ?_ ?_ | refine Fe rfl ?_ ?_
 intro h59
 try rw [nnp] at h59
 try have h59' := Et h59
 refine Ea (Ek rfl) (Ei rfl (Ea (Eo rfl rfl rfl) (Ei rfl (Ez rfl rfl (c_208 _) (Ei rfl (Ea (o_bin rfl rfl (respW_ne _) rfl) (Ea (Em rfl rfl) (Ea (Ef rfl) ?_))))))))
 first | refine Ff rfl ?_ ?_ | refine Ft rfl ?_ ?_ | refine s_gNT rfl ?_ ?_ | refine Fe rfl ?_ ?_
 intro h60
 try rw [nnp] at h60
 try have h60' := Et h60
 refine Ea (Ek rfl) (Ei rfl (Ea (Eo rfl rfl rfl) (Ei rfl (Ea (Fg rfl) (Ei rfl (Ea (Ef rfl) ?_))))))
 first | refine Fq rfl ?_ ?_ | refine Fr rfl ?_ ?_ | refine s_gNF rfl ?_ ?_ | refine Fe rfl ?_ ?_
 intro h61
 try rw [nnp] at h61
 try have h61' := Et h61
 refine Ea (Ek rfl) (Ei rfl (Ea (Eo rfl rfl rfl) (Ei rfl ?_)))
 first | refine Ea (o_neq rfl rfl) ?_ | refine Ea (o_bin rfl rfl rfl rfl) ?_
 refine Er (is := [4, 122, 126, 129]) rfl (Ei rfl (Ea (Ef rfl) ?_))
 first | refine Ff rfl ?_ ?_ | refine Fe rfl ?_ ?_
 intro h62
 try rw [nnp] at h62
 try have h62' := Et h62
 refine Ea (Ek rfl) (Ei rfl (Ea (Eo rfl rfl rfl) (Ei rfl ?_)))
 first | refine Ea (Fv rfl rfl) ?_ | refine Ea (o_bin rfl rfl rfl rfl) ?_
 refine Ei rfl (Ea (Em rfl rfl) (Ei rfl (Ea (Ej rfl rfl) (Ea (Em rfl rfl) (Ea (Ef rfl) (Ed (Ec (Eb [6] rfl (Ep (Eg rfl rfl ?_))))))))))
 rotate_left
 intro h62
 try rw [nnp] at h62
 try have h62' := Et h62
 refine Ee rfl (Ee rfl (Ee rfl (Ei rfl (Ea (Ej rfl rfl) (Ei rfl (Ea (Ej rfl rfl) (Ea (Em rfl rfl) (Ea (Ef rfl) (Ed (Ec (Eb [6] rfl ?_)))))))))))
 refine Ep (Eg rfl rfl ?_)
 rotate_left
 intro h61
 try rw [nnp] at h61
 try have h61' := Et h61
 refine Ee rfl (Ee rfl (Ee rfl (Er (is := [4, 122, 126, 129]) rfl (Ee rfl (Fb rfl (Fb rfl (Fb rfl (Ee rfl (Ei rfl (Ea (Em rfl rfl) (Ea (Em rfl rfl) ?_)))))))))))
 refine Ea (Ef rfl) (Ed (Ec (Eb [6] rfl (Ep (Eg rfl rfl ?_)))))
 rotate_left
 intro h60
 try rw [nnp] at h60
 try have h60' := Et h60
 refine Ee rfl (Ee rfl (Ee rfl (Ee rfl (Fb rfl (Fb rfl (Fb rfl (Er (is := [4, 122, 126, 129]) rfl (Fb rfl (Fb rfl (Fb rfl (Fb rfl ?_)))))))))))
 refine Fb rfl (Ee rfl (Ea (Ej rfl rfl) (Ea (Ef rfl) (Ed (Ec (Eb [6] rfl (Ep (Eg rfl rfl ?_))))))))
 rotate_left
 intro h59
 try rw [nnp] at h59
 try have h59' := Et h59
 refine Ee rfl (Ee rfl (Ee rfl (Ee rfl (Ea (Ej rfl rfl) (Ea (Ef rfl) (Ee rfl (Ee rfl (Ee rfl (Ee rfl (Fb rfl (Fb rfl ?_)))))))))))
 refine Fb rfl (Er (is := [4, 122, 126, 129]) rfl (Fb rfl (Fb rfl (Fb rfl (Fb rfl (Fb rfl (Ee rfl (Ea (Ej rfl rfl) (Ea (Ef rfl) (Ed (Ec ?_)))))))))))
 refine Eb [6] rfl (Ep (Eg rfl rfl ?_))
 rotate_left
 intro h58
 try rw [nnp] at h58
 try have h58' := Et h58
 iterate 7 refine Ee rfl ?_
 refine Ea (Ej rfl rfl) (Er (is := [4, 115]) rfl (Ea (Ef rfl) (Ee rfl (Ee rfl (Ee rfl (Ee rfl (Ea (Ej rfl rfl) (Ea (Ef rfl) (Ee rfl (Ee rfl (Ee rfl ?_)))))))))))
 refine Ee rfl (Fb rfl (Fb rfl (Fb rfl (Er (is := [4, 122, 126, 129]) rfl (Fb rfl (Fb rfl (Fb rfl (Fb rfl (Fb rfl (Ee rfl (Ea (Ej rfl rfl) ?_)))))))))))
 refine Ea (Ef rfl) (Ed (Ec (Eb [6] rfl (Ep (Eg rfl rfl ?_)))))
 rotate_left
 intro h3
 try rw [nnp] at h3
 try have h3' := Et h3
 iterate 7 refine Ee rfl ?_
 refine Ea (Em rfl rfl) (Ed (Ec (Eb [2, 3, 4, 36] rfl (Fi rfl (Eh (En (Ea (Ef rfl) (Ed (Ec (Eb [6] rfl (Ep ?_)))))))))))
 refine Eu (Eg rfl rfl ?_)
 rotate_left
 intro h2
 try rw [nnp] at h2
 try have h2' := Et h2
 refine Ee rfl (Ee rfl (Ee rfl (Ee rfl (Ea (Em rfl rfl) (Er (is := [2, 3, 4, 27]) rfl (Ea (Ef rfl) ?_))))))
 iterate 7 refine Ee rfl ?_
 refine Ea (Em rfl rfl) (Ed (Ec (Eb [2, 3, 4, 36] rfl (Fi rfl (Eh (En (Ea (Ef rfl) (Ed (Ec (Eb [6] rfl (Ep ?_)))))))))))
 refine Eu (Eg rfl rfl ?_)
 rotate_left
 all_goals
  clear hs; first | (simp_all [beatD, flyOk]; done) | (simp_all [beatD, flyOk]; omega) | (show Beat.beq b.data Beat.none = _; rw [Beat.beq_dec]; simp_all [beatD]; done)
set_option maxHeartbeats 1000000 in
theorem c_222a (b : Bus) (hs : b.small) (hp : mastersB b = true) : CV prg 222 [.agg b.r, .agg b.addr.r, .w (.bool false)] (fun res => res = .w (.bool (beatA b))) := by
 have hml : b.ms.length ≤ 1048576 := hs.2.1
 have hms := hs.2.2.1
 have he := even_of hp
 have he1 := he.ms
 have he3 := he.splits
 have hcl : b.conf.masters.length ≤ 1048576 := by omega
 refine Fo g222 (Eb [0, 1, 2] rfl (Eh (En (Ea (o_box rfl rfl rfl) (Ea (o_box rfl rfl rfl) (Ea (Ef rfl) (Ed (Ec (Eb [2, 3, 4] rfl (Eh (Eh ?_)))))))))))
 refine En (Ea (Ek rfl) (Ea (Eo rfl rfl rfl) (Ea (Fg rfl) (Ed (Ec (Eb [2, 3, 4, 10] rfl ?_))))))
 first | refine Ey rfl ?_ ?_ | refine Fp rfl ?_ ?_ | refine Fh rfl ?_ ?_ | refine Ev rfl ?_ ?_
 intro h1
 try rw [nnp] at h1
 try have h1' := Et h1
 refine Eh (En (Ea (Fm rfl rfl rfl) (Ea (o_bd rfl rfl) (Ea (o_eqs rfl rfl rfl rfl rfl) (Ea (Ef rfl) (Ed (Ec (Eb [6] rfl (Ep (Eu (Eg rfl rfl ?_)))))))))))
 rotate_left
 intro h1
 try rw [nnp] at h1
 try have h1' := Et h1
 refine Fa (Ec (Eb [2, 3, 4] rfl (Eh (Eh (En (Ea (Ek rfl) (Ea (Eo rfl rfl rfl) (Ea (Ek rfl) (Ea (Eo rfl rfl rfl) ?_)))))))))
 first | refine Ea (Fk rfl) ?_ | refine Ea (Fu rfl) ?_ | refine Ea (o_lenL rfl rfl rfl) ?_ | refine Ea (o_lenN rfl) ?_
 first | refine Ea (o_subn rfl rfl (by omega)) ?_ | refine Ea (o_sub rfl rfl) ?_
 first | refine Ez rfl rfl (Fy ..) ?_ | refine Ew rfl rfl (by simp) (Fy ..) rfl ?_
 refine Ea (Fg rfl) (Ea (Ef rfl) ?_)
 first | refine Fq rfl ?_ ?_ | refine Fr rfl ?_ ?_ | refine s_gNF rfl ?_ ?_ | refine Fe rfl ?_ ?_
 intro h2
 try rw [nnp] at h2
 try have h2' := Et h2
 refine Ea (Ek rfl) (Ei rfl (Ea (Eo rfl rfl rfl) (Ei rfl ?_)))
 first | refine Ez rfl rfl (Fy ..) ?_ | refine Ew rfl rfl (by simp) (Fy ..) rfl ?_
 refine Ei rfl (Ea (Fg rfl) (Ea (Ej rfl rfl) (Er (is := [2, 3, 4, 27]) rfl (Ea (Ef rfl) ?_))))
 first | refine Fq rfl ?_ ?_ | refine Fr rfl ?_ ?_ | refine s_gNF rfl ?_ ?_ | refine Fe rfl ?_ ?_
 intro h3
 try rw [nnp] at h3
 try have h3' := Et h3
 refine Ea (Ek rfl) (Ei rfl (Ea (Eo rfl rfl rfl) (Ei rfl (Ea (Ek rfl) (Ei rfl (Ea (Eo rfl rfl rfl) (Ei rfl (s_iaM rfl rfl (by omega) ?_))))))))
 intro y4 e4
 (try have e4m := mAt_of e4); (try have e4z := sAt_z hp e4 (by omega) (by omega)); (try simp only [Int.toNat_natCast, Int.toNat_zero] at e4)
 refine Ei rfl (Ea (o_ld rfl rfl) (Ei rfl ?_))
 first | refine Ea (o_gtr rfl rfl) ?_ | refine Ea (o_bin rfl rfl rfl rfl) ?_
 refine Ea (Ej rfl rfl) (Ed (Ec (Eb [2, 3, 4, 36] rfl ?_)))
 first | refine Ey rfl ?_ ?_ | refine Ev rfl ?_ ?_
 intro h5
 try rw [nnp] at h5
 try have h5' := Et h5
 refine Eh (En (Ea (Ef rfl) (Ed (Ec (Eb [6] rfl (Ep (Eu (Eg rfl rfl ?_))))))))
 rotate_left
 intro h5
 try rw [nnp] at h5
 try have h5' := Et h5
 refine Fa (Ec (Eb [2, 3, 4] rfl (Eh (En (Ea (Ek rfl) (Ea (Eo rfl rfl rfl) (Ea (Ek rfl) (Ea (Eo rfl rfl rfl) (s_iaM rfl rfl (by omega) ?_)))))))))
 intro y6 e6
 (try have e6m := mAt_of e6); (try have e6z := sAt_z hp e6 (by omega) (by omega)); (try simp only [Int.toNat_natCast, Int.toNat_zero] at e6)
 refine Ea (o_ldn rfl rfl) (Ea (o_new rfl rfl) (Fx (o_stnC rfl rfl rfl rfl rfl rfl rfl) (Ed (Ec (Eb [2, 3, 4, 7] rfl (Eh (Eh (En (Ea (Ef rfl) (Ea (Fg rfl) (Ed ?_)))))))))))
 refine Ec (Eb [3, 4, 7, 44] rfl (Fi rfl (Eh (En (Ea (Ek rfl) (Ea (Eo rfl rfl rfl) (Ea (Ek rfl) (Ea (Eo rfl rfl rfl) ?_))))))))
 first | refine Ea (o_subn rfl rfl (by omega)) ?_ | refine Ea (o_sub rfl rfl) ?_
 first | refine Ea (Fv rfl rfl) ?_ | refine Ea (o_bin rfl rfl rfl rfl) ?_
 refine Ea (Ef rfl) ?_
 first | refine Ff rfl ?_ ?_ | refine Fe rfl ?_ ?_
 intro h7
 try rw [nnp] at h7
 try have h7' := Et h7
 refine Ea (Ek rfl) (Ei rfl (Ea (Eo rfl rfl rfl) (Ei rfl ?_)))
 first | refine Ea (Fv rfl rfl) ?_ | refine Ea (o_bin rfl rfl rfl rfl) ?_
 refine Ea (Em rfl rfl) (Ea (Ef rfl) ?_)
 first | refine Ff rfl ?_ ?_ | refine Fe rfl ?_ ?_
 intro h8
 try rw [nnp] at h8
 try have h8' := Et h8
 refine Ea (Ek rfl) (Ei rfl (Ea (Eo rfl rfl rfl) (Er (is := [4, 56, 58]) rfl (Ei rfl ?_))))
 first | refine Ea (Fv rfl rfl) ?_ | refine Ea (o_bin rfl rfl rfl rfl) ?_
 refine Ea (Em rfl rfl) (Ea (Ef rfl) ?_)
 first | refine Ff rfl ?_ ?_ | refine Fe rfl ?_ ?_
 intro h9
 try rw [nnp] at h9
 try have h9' := Et h9
 refine Ea (Ek rfl) (Ei rfl (Ea (Eo rfl rfl rfl) (Ei rfl (Ea (Fg rfl) (Ea (Em rfl rfl) (Ea (Ef rfl) (Ed (Ec (Eb [6] rfl (Ep (Eu ?_)))))))))))
 refine Eg rfl rfl ?_
 rotate_left
 intro h9
 try rw [nnp] at h9
 try have h9' := Et h9
 refine Ee rfl (Ee rfl (Ee rfl (Ea (Ej rfl rfl) (Ea (Ef rfl) (Ed (Ec (Eb [6] rfl (Ep (Eu (Eg rfl rfl ?_))))))))))
 rotate_left
 intro h8
 try rw [nnp] at h8
 try have h8' := Et h8
 refine Ee rfl (Ee rfl (Er (is := [4, 56, 58]) rfl (Ee rfl (Ea (Ej rfl rfl) (Ea (Ef rfl) (Ee rfl (Ee rfl (Ee rfl (Ea (Ej rfl rfl) (Ea (Ef rfl) (Ed ?_)))))))))))
 refine Ec (Eb [6] rfl (Ep (Eu (Eg rfl rfl ?_))))
 rotate_left
 intro h7
 try rw [nnp] at h7
 try have h7' := Et h7
 refine Ee rfl (Ee rfl (Ee rfl (Ea (Ej rfl rfl) (Ea (Ef rfl) (Ee rfl (Ee rfl (Er (is := [4, 56, 58]) rfl (Ee rfl (Ea (Ej rfl rfl) (Ea (Ef rfl) (Ee rfl ?_)))))))))))
 refine Ee rfl (Ee rfl (Ea (Ej rfl rfl) (Ea (Ef rfl) (Ed (Ec (Eb [6] rfl (Ep (Eu (Eg rfl rfl ?_)))))))))
 rotate_left
 intro h3
 try rw [nnp] at h3
 try have h3' := Et h3
 iterate 7 refine Ee rfl ?_
 refine Ea (Em rfl rfl) (Ed (Ec (Eb [2, 3, 4, 36] rfl (Fi rfl (Eh (En (Ea (Ef rfl) (Ed (Ec (Eb [6] rfl (Ep ?_)))))))))))
 refine Eu (Eg rfl rfl ?_)
 rotate_left
 intro h2
 try rw [nnp] at h2
 try have h2' := Et h2
 refine Ee rfl (Ee rfl (Ee rfl (Ee rfl (Ea (Em rfl rfl) (Er (is := [2, 3, 4, 27]) rfl (Ea (Ef rfl) ?_))))))
 iterate 7 refine Ee rfl ?_
 refine Ea (Em rfl rfl) (Ed (Ec (Eb [2, 3, 4, 36] rfl (Fi rfl (Eh (En (Ea (Ef rfl) (Ed (Ec (Eb [6] rfl (Ep ?_)))))))))))
 refine Eu (Eg rfl rfl ?_)
 rotate_left
 all_goals
  clear hs; first | (simp_all [beatA, flyOk]; done) | (simp_all [beatA, flyOk]; omega) | (show Beat.beq b.addr Beat.none = _; rw [Beat.beq_dec]; simp_all [beatA]; done)
set_option maxHeartbeats 1000000 in
theorem c_223 (b : Bus) (hs : b.small) (hp : mastersB b = true) : CV prg 223 [.agg b.r] (fun res => res = .w (.bool (heldB b))) := by
 have hml : b.ms.length ≤ 1048576 := hs.2.1
 have hms := hs.2.2.1
 have he := even_of hp
 have he1 := he.ms
 have he3 := he.splits
 have hcl : b.conf.masters.length ≤ 1048576 := by omega
 refine Fo g223 (Eb [0] rfl (Eh (En (Ea (o_box rfl rfl rfl) (Ea (Ef rfl) (Ed (Ec (Eb [1] rfl (Eh (Eh (En ?_)))))))))))
 refine Ea (Ef rfl) (Ed (Ec (Eb [1, 3] rfl (Fj (S_loop0 (ι := Nat) (fun i => i ≤ b.ms.length ∧ (List.range i).all (heldAt b) = true) (fun i => [(3, .w (.int .i64 (i : Int)))]) (fun i => b.ms.length - i) 0 (by simp) rfl ⟨rfl, trivial⟩ (fun _ _ => rfl) rfl ?_)))))
 intro i hi
 refine Eb [1, 3] rfl (Eh (Eh (En (Ea (Ef rfl) (Ea (Ek rfl) (Ea (Eo rfl rfl rfl) ?_))))))
 first | refine Ea (Fk rfl) ?_ | refine Ea (Fu rfl) ?_ | refine Ea (o_lenL rfl rfl rfl) ?_ | refine Ea (o_lenN rfl) ?_
 refine Ea (o_lss rfl rfl) (Ed (Ec (Eb [1, 3, 9] rfl ?_)))
 first | refine Ey rfl ?_ ?_ | refine Ev rfl ?_ ?_
 intro h1
 try rw [nnp] at h1
 try have h1' := Et h1
 try have h1' := locks_nil' h1
 try have h1' : 0 < (mAt b (i : Int)).beat := by rw [show mAt b (i : Int) = _ from by assumption]; exact h1
 refine Fa (Ec (Eb [1, 3] rfl (Eh (Fj (Eh (En (Ea (Ek rfl) (Ea (Eo rfl rfl rfl) (Ea (Ef rfl) (s_iaM rfl rfl (by first | omega | (have := mAt_q hp (by assumption) (by assumption); omega)) ?_))))))))))
 intro y2 e2
 (try have e2m := mAt_of e2); (try have e2s := sAt_of e2); (try simp only [Int.toNat_natCast, Int.toNat_zero] at e2); (try have e2l := Mst.locks_at e2)
 refine Ea (o_fa rfl) (Ea (o_ld rfl rfl) (Ea (o_gtr rfl rfl) (Ea (Ef rfl) ?_)))
 first | refine Ff rfl ?_ ?_ | refine Fe rfl ?_ ?_
 intro h3
 try rw [nnp] at h3
 try have h3' := Et h3
 try have h3' := locks_nil' h3
 try have h3' : 0 < (mAt b (i : Int)).beat := by rw [show mAt b (i : Int) = _ from by assumption]; exact h3
 refine Ea (Ek rfl) (Ei rfl (Ea (Eo rfl rfl rfl) (Ei rfl (Ea (Ef rfl) (Ei rfl (s_iaM rfl rfl (by first | omega | (have := mAt_q hp (by assumption) (by assumption); omega)) ?_))))))
 intro y4 e4
 (try have e4m := mAt_of e4); (try have e4s := sAt_of e4); (try simp only [Int.toNat_natCast, Int.toNat_zero] at e4); (try have e4l := Mst.locks_at e4)
 refine Ei rfl (Ea (o_fa rfl) (Ei rfl (Ea (o_ld rfl rfl) (Er (is := [1, 3, 19, 20, 21, 22, 23, 24, 25]) rfl (Ei rfl (s_iaM rfl rfl (by first | omega | (have := mAt_q hp (by assumption) (by assumption); omega)) ?_))))))
 intro y5 e5
 (try have e5m := mAt_of e5); (try have e5s := sAt_of e5); (try simp only [Int.toNat_natCast, Int.toNat_zero] at e5); (try have e5l := Mst.locks_at e5)
 refine Ei rfl (Ea (o_fa rfl) (Ei rfl (Ea (o_ld rfl rfl) (Ea (Em rfl rfl) (Ea (Ef rfl) ?_)))))
 first | refine Ff rfl ?_ ?_ | refine Ft rfl ?_ ?_ | refine s_gNT rfl ?_ ?_ | refine Fe rfl ?_ ?_
 intro h6
 try rw [nnp] at h6
 try have h6' := Et h6
 try have h6' := locks_nil' h6
 try have h6' : 0 < (mAt b (i : Int)).beat := by rw [show mAt b (i : Int) = _ from by assumption]; exact h6
 refine Ea (Ek rfl) (Ei rfl (Ea (Eo rfl rfl rfl) (Ei rfl (Ea (Ef rfl) (Ei rfl (s_iaM rfl rfl (by first | omega | (have := mAt_q hp (by assumption) (by assumption); omega)) ?_))))))
 intro y7 e7
 (try have e7m := mAt_of e7); (try have e7s := sAt_of e7); (try simp only [Int.toNat_natCast, Int.toNat_zero] at e7); (try have e7l := Mst.locks_at e7)
 refine Ei rfl (Ea (o_fa rfl) (Ei rfl (Ea (o_ld rfl rfl) (Ei rfl (Ea (Fg rfl) (Ea (Em rfl rfl) (Ea (Ef rfl) (Er (is := [1, 3, 20, 21, 22, 23, 24, 25, 26, 27, 28, 31, 32, 33, 34, 35, 36, 37, 39]) rfl ?_))))))))
 first | refine Ff rfl ?_ ?_ | refine Ft rfl ?_ ?_ | refine s_gNT rfl ?_ ?_ | refine Fe rfl ?_ ?_
 intro h8
 try rw [nnp] at h8
 try have h8' := Et h8
 try have h8' := locks_nil' h8
 try have h8' : 0 < (mAt b (i : Int)).beat := by rw [show mAt b (i : Int) = _ from by assumption]; exact h8
 refine Ea (Ek rfl) (Ei rfl (Ea (Eo rfl rfl rfl) (Ei rfl (Ea (Ef rfl) (Ei rfl (Ea (o_neq rfl rfl) (Ea (Em rfl rfl) (Ed (Ec (Eb [1, 3, 20, 21, 22, 23, 24, 25, 26, 27, 28, 31, 32, 33, 34, 35, 36, 37, 40, 41, 42, 43, 44] rfl ?_))))))))))
 first | refine Ey rfl ?_ ?_ | refine Ev rfl ?_ ?_
 intro h9
 try rw [nnp] at h9
 try have h9' := Et h9
 try have h9' := locks_nil' h9
 try have h9' : 0 < (mAt b (i : Int)).beat := by rw [show mAt b (i : Int) = _ from by assumption]; exact h9
 refine Eh (En (Ea (Ef rfl) (Ed (Ec (Eb [2] rfl (Ep (Fd (Eu (Fw (Fd (Eu ?_)))))))))))
 refine Eg rfl rfl ?_
 rotate_left
 intro h9
 try rw [nnp] at h9
 try have h9' := Et h9
 try have h9' := locks_nil' h9
 try have h9' : 0 < (mAt b (i : Int)).beat := by rw [show mAt b (i : Int) = _ from by assumption]; exact h9
 refine Fa (q_blkN (Ec (Eb [1, 3, 20, 21, 22, 23, 24, 25, 26, 27, 28, 31, 32, 33, 34, 35, 36, 37, 40, 41, 42, 43] rfl (En (Ea (Ef rfl) ?_)))))
 first | refine Ea (Fs rfl rfl (by omega)) ?_ | refine Ea (o_add rfl rfl) ?_
 refine Ea (Ef rfl) (Ed (q_loopN ?_))
 · exact ⟨i + 1, ⟨by omega, rall_succ hi.2 (by clear hs hi hp; simp_all [heldAt])⟩, by omega, hasOf ⟨rfl, trivial⟩ rfl⟩
 intro h8
 try rw [nnp] at h8
 try have h8' := Et h8
 try have h8' := locks_nil' h8
 try have h8' : 0 < (mAt b (i : Int)).beat := by rw [show mAt b (i : Int) = _ from by assumption]; exact h8
 refine Ee rfl (Ee rfl (Ee rfl (Ee rfl (Ea (Ej rfl rfl) (Ed (Ec (Eb [1, 3, 20, 21, 22, 23, 24, 25, 26, 27, 28, 31, 32, 33, 34, 35, 36, 37, 40, 41, 42, 43, 44] rfl (s_condF rfl (Fa (q_blkN (Ec ?_)))))))))))
 refine Eb [1, 3, 20, 21, 22, 23, 24, 25, 26, 27, 28, 31, 32, 33, 34, 35, 36, 37, 40, 41, 42, 43] rfl (En (Ea (Ef rfl) ?_))
 first | refine Ea (Fs rfl rfl (by omega)) ?_ | refine Ea (o_add rfl rfl) ?_
 refine Ea (Ef rfl) (Ed (q_loopN ?_))
 · exact ⟨i + 1, ⟨by omega, rall_succ hi.2 (by clear hs hi hp; simp_all [heldAt])⟩, by omega, hasOf ⟨rfl, trivial⟩ rfl⟩
 intro h6
 try rw [nnp] at h6
 try have h6' := Et h6
 try have h6' := locks_nil' h6
 try have h6' : 0 < (mAt b (i : Int)).beat := by rw [show mAt b (i : Int) = _ from by assumption]; exact h6
 iterate 7 refine Ee rfl ?_
 refine Ea (Ej rfl rfl) (Ea (Ef rfl) (Er (is := [1, 3, 20, 21, 22, 23, 24, 25, 26, 27, 28, 31, 32, 33, 34, 35, 36, 37, 39]) rfl (Ee rfl (Ee rfl (Ee rfl (Ee rfl (Ea (Ej rfl rfl) (Ed (Ec (Eb [1, 3, 20, 21, 22, 23, 24, 25, 26, 27, 28, 31, 32, 33, 34, 35, 36, 37, 40, 41, 42, 43, 44] rfl (s_condF rfl ?_)))))))))))
 refine Fa (q_blkN (Ec (Eb [1, 3, 20, 21, 22, 23, 24, 25, 26, 27, 28, 31, 32, 33, 34, 35, 36, 37, 40, 41, 42, 43] rfl (En (Ea (Ef rfl) ?_)))))
 first | refine Ea (Fs rfl rfl (by omega)) ?_ | refine Ea (o_add rfl rfl) ?_
 refine Ea (Ef rfl) (Ed (q_loopN ?_))
 · exact ⟨i + 1, ⟨by omega, rall_succ hi.2 (by clear hs hi hp; simp_all [heldAt])⟩, by omega, hasOf ⟨rfl, trivial⟩ rfl⟩
 intro h3
 try rw [nnp] at h3
 try have h3' := Et h3
 try have h3' := locks_nil' h3
 try have h3' : 0 < (mAt b (i : Int)).beat := by rw [show mAt b (i : Int) = _ from by assumption]; exact h3
 iterate 6 refine Ee rfl ?_
 refine Er (is := [1, 3, 19, 20, 21, 22, 23, 24, 25]) rfl (Ee rfl (Ee rfl (Ee rfl (Ea (Ej rfl rfl) (Ea (Ef rfl) ?_)))))
 iterate 7 refine Ee rfl ?_
 refine Ea (Ej rfl rfl) (Ea (Ef rfl) (Er (is := [1, 3, 20, 21, 22, 23, 24, 25, 26, 27, 28, 31, 32, 33, 34, 35, 36, 37, 39]) rfl (Ee rfl (Ee rfl (Ee rfl (Ee rfl (Ea (Ej rfl rfl) (Ed (Ec (Eb [1, 3, 20, 21, 22, 23, 24, 25, 26, 27, 28, 31, 32, 33, 34, 35, 36, 37, 40, 41, 42, 43, 44] rfl (s_condF rfl ?_)))))))))))
 refine Fa (q_blkN (Ec (Eb [1, 3, 20, 21, 22, 23, 24, 25, 26, 27, 28, 31, 32, 33, 34, 35, 36, 37, 40, 41, 42, 43] rfl (En (Ea (Ef rfl) ?_)))))
 first | refine Ea (Fs rfl rfl (by omega)) ?_ | refine Ea (o_add rfl rfl) ?_
 refine Ea (Ef rfl) (Ed (q_loopN ?_))
 · exact ⟨i + 1, ⟨by omega, rall_succ hi.2 (by clear hs hi hp; simp_all [heldAt])⟩, by omega, hasOf ⟨rfl, trivial⟩ rfl⟩
 intro h1
 try rw [nnp] at h1
 try have h1' := Et h1
 try have h1' := locks_nil' h1
 try have h1' : 0 < (mAt b (i : Int)).beat := by rw [show mAt b (i : Int) = _ from by assumption]; exact h1
 refine s_exit (q_seqX (q_loopX (q_blkH (Ec (Eb [1] rfl (Eh (Eh (En (Ea (Ek rfl) (Ea (Eo rfl rfl rfl) (Ea (Fv rfl rfl) ?_)))))))))))
 refine Ed (Ec (Eb [1, 47] rfl ?_))
 first | refine Ey rfl ?_ ?_ | refine Ev rfl ?_ ?_
 intro h10
 try rw [nnp] at h10
 try have h10' := Et h10
 try have h10' := locks_nil' h10
 try have h10' : 0 < (mAt b (i : Int)).beat := by rw [show mAt b (i : Int) = _ from by assumption]; exact h10
 refine Eh (En (Ea (Ek rfl) (Ea (Eo rfl rfl rfl) (Ea (Fv rfl rfl) (Ea (Ef rfl) (Ed (Ec (Eb [2] rfl (Ep (Eu (Eg rfl rfl ?_)))))))))))
 rotate_left
 intro h10
 try rw [nnp] at h10
 try have h10' := Et h10
 try have h10' := locks_nil' h10
 try have h10' : 0 < (mAt b (i : Int)).beat := by rw [show mAt b (i : Int) = _ from by assumption]; exact h10
 refine Fa (Ec (Eb [1] rfl (Eh (Eh (En (Ea (Ek rfl) (Ea (Eo rfl rfl rfl) (Ea (Ek rfl) (Ea (Eo rfl rfl rfl) ?_)))))))))
 first | refine Ea (Fk rfl) ?_ | refine Ea (Fu rfl) ?_ | refine Ea (o_lenL rfl rfl rfl) ?_ | refine Ea (o_lenN rfl) ?_
 first | refine Ea (o_subn rfl rfl (by omega)) ?_ | refine Ea (o_sub rfl rfl) ?_
 first | refine Ez rfl rfl (Fy ..) ?_ | refine Ew rfl rfl (by simp) (Fy ..) rfl ?_
 refine Ea (Fg rfl) (Ea (Ef rfl) ?_)
 first | refine Fq rfl ?_ ?_ | refine Fr rfl ?_ ?_ | refine s_gNF rfl ?_ ?_ | refine Fe rfl ?_ ?_
 intro h11
 try rw [nnp] at h11
 try have h11' := Et h11
 try have h11' := locks_nil' h11
 try have h11' : 0 < (mAt b (i : Int)).beat := by rw [show mAt b (i : Int) = _ from by assumption]; exact h11
 refine Ea (Ek rfl) (Ei rfl (Ea (Eo rfl rfl rfl) (Ei rfl (Ea (Ek rfl) (Ei rfl (Ea (Ek rfl) (Ei rfl (Ea (Eo rfl rfl rfl) (Er (is := [1, 59, 61, 64]) rfl (Ei rfl ?_))))))))))
 first | refine Ez rfl rfl (Fy ..) ?_ | refine Ew rfl rfl (by simp) (Fy ..) rfl ?_
 refine Ei rfl (Ea (Fg rfl) (Ea (Ej rfl rfl) (Ed (Ec (Eb [1, 67] rfl ?_)))))
 first | refine Ey rfl ?_ ?_ | refine Fp rfl ?_ ?_ | refine Fh rfl ?_ ?_ | refine Ev rfl ?_ ?_
 intro h12
 try rw [nnp] at h12
 try have h12' := Et h12
 try have h12' := locks_nil' h12
 try have h12' : 0 < (mAt b (i : Int)).beat := by rw [show mAt b (i : Int) = _ from by assumption]; exact h12
 refine Eh (En (Ea (Ef rfl) (Ed (Ec (Eb [2] rfl (Ep (Eu (Eg rfl rfl ?_))))))))
 rotate_left
 intro h12
 try rw [nnp] at h12
 try have h12' := Et h12
 try have h12' := locks_nil' h12
 try have h12' : 0 < (mAt b (i : Int)).beat := by rw [show mAt b (i : Int) = _ from by assumption]; exact h12
 refine Fa (Ec (Eb [1] rfl (Eh (En (Ea (Ek rfl) (Ea (Eo rfl rfl rfl) (Ea (Ek rfl) (Ea (Eo rfl rfl rfl) (s_iaM rfl rfl (by first | omega | (have := mAt_q hp (by assumption) (by assumption); omega)) ?_)))))))))
 intro y13 e13
 (try have e13m := mAt_of e13); (try have e13s := sAt_of e13); (try simp only [Int.toNat_natCast, Int.toNat_zero] at e13); (try have e13l := Mst.locks_at e13)
 refine Ea (o_ldn rfl rfl) (Ea (o_new rfl rfl) (Fx (o_stnC rfl rfl rfl rfl rfl rfl rfl) (Ed (Ec (Eb [1, 4] rfl (Eh (En (Ea (Ek rfl) (Ea (Eo rfl rfl rfl) ?_)))))))))
 first | refine Ea (Fk rfl) ?_ | refine Ea (Fu rfl) ?_ | refine Ea (o_lenL rfl rfl rfl) ?_ | refine Ea (o_lenN rfl) ?_
 refine Ea (o_gtr rfl rfl) (Ea (Ef rfl) ?_)
 first | refine Ff rfl ?_ ?_ | refine Fe rfl ?_ ?_
 intro h14
 try rw [nnp] at h14
 try have h14' := Et h14
 try have h14' := locks_nil' h14
 try have h14' : 0 < (mAt b (i : Int)).beat := by rw [show mAt b (i : Int) = _ from by assumption]; exact h14
 refine Ea (Ek rfl) (Ei rfl (Ea (Eo rfl rfl rfl) (Ei rfl (s_iaM rfl rfl (by first | omega | (have := mAt_q hp (by assumption) (by assumption); omega)) ?_))))
 intro y15 e15
 (try have e15m := mAt_of e15); (try have e15s := sAt_of e15); (try simp only [Int.toNat_natCast, Int.toNat_zero] at e15); (try have e15l := Mst.locks_at e15)
 refine Ei rfl (Ea (o_fa rfl) (Ei rfl (Ea (o_ld rfl rfl) (Ea (Em rfl rfl) (Ea (Ef rfl) ?_)))))
 first | refine Ff rfl ?_ ?_ | refine Ft rfl ?_ ?_ | refine s_gNT rfl ?_ ?_ | refine Fe rfl ?_ ?_
 intro h16
 try rw [nnp] at h16
 try have h16' := Et h16
 try have h16' := locks_nil' h16
 try have h16' : 0 < (mAt b (i : Int)).beat := by rw [show mAt b (i : Int) = _ from by assumption]; exact h16
 refine Ea (Ek rfl) (Ei rfl (Ea (Eo rfl rfl rfl) (Er (is := [1, 85, 87]) rfl (Ei rfl (Ea (Fg rfl) (Ea (Em rfl rfl) (Ea (Ef rfl) ?_)))))))
 first | refine Ff rfl ?_ ?_ | refine Ft rfl ?_ ?_ | refine s_gNT rfl ?_ ?_ | refine Fe rfl ?_ ?_
 intro h17
 try rw [nnp] at h17
 try have h17' := Et h17
 try have h17' := locks_nil' h17
 try have h17' : 0 < (mAt b (i : Int)).beat := by rw [show mAt b (i : Int) = _ from by assumption]; exact h17
 refine Ea (Ek rfl) (Ei rfl (Ea (Eo rfl rfl rfl) (Ei rfl (Ea (Ek rfl) (Ei rfl (Ea (Eo rfl rfl rfl) (Ei rfl (s_iaM rfl rfl (by first | omega | (have := mAt_q hp (by assumption) (by assumption); omega)) ?_))))))))
 intro y18 e18
 (try have e18m := mAt_of e18); (try have e18s := sAt_of e18); (try simp only [Int.toNat_natCast, Int.toNat_zero] at e18); (try have e18l := Mst.locks_at e18)
 refine Ei rfl (Ea (o_ld rfl rfl) (Ei rfl (Ea (Fv rfl rfl) (Ea (Em rfl rfl) (Ea (Ef rfl) (Ed (Ec (Eb [2] rfl (Ep (Eg rfl rfl ?_))))))))))
 rotate_left
 intro h17
 try rw [nnp] at h17
 try have h17' := Et h17
 try have h17' := locks_nil' h17
 try have h17' : 0 < (mAt b (i : Int)).beat := by rw [show mAt b (i : Int) = _ from by assumption]; exact h17
 iterate 7 refine Ee rfl ?_
 refine Ea (Ej rfl rfl) (Ea (Ef rfl) (Ed (Ec (Eb [2] rfl (Ep (Eg rfl rfl ?_))))))
 rotate_left
 intro h16
 try rw [nnp] at h16
 try have h16' := Et h16
 try have h16' := locks_nil' h16
 try have h16' : 0 < (mAt b (i : Int)).beat := by rw [show mAt b (i : Int) = _ from by assumption]; exact h16
 refine Ee rfl (Ee rfl (Er (is := [1, 85, 87]) rfl (Ee rfl (Ea (Ej rfl rfl) (Ea (Ef rfl) ?_)))))
 iterate 7 refine Ee rfl ?_
 refine Ea (Ej rfl rfl) (Ea (Ef rfl) (Ed (Ec (Eb [2] rfl (Ep (Eg rfl rfl ?_))))))
 rotate_left
 intro h14
 try rw [nnp] at h14
 try have h14' := Et h14
 try have h14' := locks_nil' h14
 try have h14' : 0 < (mAt b (i : Int)).beat := by rw [show mAt b (i : Int) = _ from by assumption]; exact h14
 refine Ee rfl (Ee rfl (Ee rfl (Ee rfl (Ee rfl (Ea (Ej rfl rfl) (Ea (Ef rfl) (Ee rfl (Ee rfl (Er (is := [1, 85, 87]) rfl (Ee rfl (Ea (Ej rfl rfl) ?_)))))))))))
 refine Ea (Ef rfl) ?_
 iterate 7 refine Ee rfl ?_
 refine Ea (Ej rfl rfl) (Ea (Ef rfl) (Ed (Ec (Eb [2] rfl (Ep (Eg rfl rfl ?_))))))
 rotate_left
 intro h11
 try rw [nnp] at h11
 try have h11' := Et h11
 try have h11' := locks_nil' h11
 try have h11' : 0 < (mAt b (i : Int)).beat := by rw [show mAt b (i : Int) = _ from by assumption]; exact h11
 refine Ee rfl (Ee rfl (Ee rfl (Ee rfl (Ee rfl (Er (is := [1, 59, 61, 64]) rfl (Ee rfl (Ee rfl (Ea (Em rfl rfl) (Ed (Ec (Eb [1, 67] rfl ?_)))))))))))
 refine Fi rfl (Eh (En (Ea (Ef rfl) (Ed (Ec (Eb [2] rfl (Ep (Eu (Eg rfl rfl ?_)))))))))
 rotate_left
 all_goals
  first | (have hr := rall_end hi.2 hi.1 (by omega); clear hi hs hp; first | (simp_all [heldB, heldE]; done) | (have hn := @Mst.locks_nil (mAt b b.holder) (by simp_all; omega); simp_all [heldB, heldE]; done)) | (unfold heldB; rw [rall_no (p := heldAt b) (by omega : i < b.ms.length) (by clear hs hi hp; simp_all [heldAt])]; rfl)
end Go.Proofs.YtoppcdecolponaaGreat.AL
