/- What functions do with plain data, each by the form of its code. Printed by program. -/
import Derived.Test.YtoppcdecolponaaGreatCIdleBus2
namespace Go.Proofs.YtoppcdecolponaaGreat.AL
open Go
set_option linter.unusedVariables false
set_option linter.unusedSimpArgs false
set_option maxRecDepth 4096
set_option maxHeartbeats 1000000 in
theorem c_224 (b : Bus) (hs : b.small) (hp : mastersB b = true) (hn : 0 ≤ b.now ∧ b.now ≤ 4000) : CV prg 224 [.agg b.r] (fun res => res = .w (.bool (loggedB b))) := by
 have hml : b.ms.length ≤ 1048576 := hs.2.1
 have hms := hs.2.2.1
 have he := even_of hp
 have he1 := he.ms
 have he3 := he.splits
 have hcl : b.conf.masters.length ≤ 1048576 := by omega
 have hlg : b.log.length ≤ 1048576 := hs.2.2.2.2.2.2
 have hz : ∀ z, 0 ≤ limit z ∧ limit z ≤ 4294967296 := limit_bd
 refine Fo g224 (Eb [0] rfl (Eh (En (Ea (o_box rfl rfl rfl) (Ea (Ef rfl) (Ed (Ec (Eb [1] rfl (Eh (Eh (En ?_)))))))))))
 refine Ea (Ef rfl) (Ed (Ec (Eb [1, 3] rfl (Fj (S_loop0 (ι := Nat) (fun i => i ≤ b.log.length ∧ (List.range i).all (logAt b) = true) (fun i => [(3, .w (.int .i64 (i : Int)))]) (fun i => b.log.length - i) 0 (by simp) rfl ⟨rfl, trivial⟩ (fun _ _ => rfl) rfl ?_)))))
 intro i hi
 have hpn := prev_nn hi.2
 have hp0 : i = 0 → prevC b i = -1 := fun e => by subst e; rfl
 refine Eb [1, 3] rfl (Eh (Eh (En (Ea (Ef rfl) (Ea (Ek rfl) (Ea (Eo rfl rfl rfl) ?_))))))
 first | refine Ea (Fk rfl) ?_ | refine Ea (Fu rfl) ?_ | refine Ea (o_lenL rfl rfl rfl) ?_ | refine Ea (o_lenN rfl) ?_
 refine Ea (o_lss rfl rfl) (Ed (Ec (Eb [1, 3, 9] rfl ?_)))
 first | refine Ey rfl ?_ ?_ | refine Ev rfl ?_ ?_
 intro h1
 try rw [nnp] at h1
 try have h1' := Et h1
 try have h1' := aligned_nn h1
 refine Fa (Ec (Eb [1, 3] rfl (Eh (Fj (Eh (En (Ea (Ek rfl) (Ea (Eo rfl rfl rfl) (Ea (Ef rfl) (s_iaM rfl rfl (by omega) ?_))))))))))
 intro y2 e2
 (try have e2l := lAt_of e2); (try have e2p := prev_of (b := b) (i := i) (by omega) (by simpa using e2)); (try simp only [Int.toNat_natCast, Int.toNat_zero] at e2)
 refine Ea (o_ldn rfl rfl) (Ea (o_new rfl rfl) (Fx (o_stnC rfl rfl rfl rfl rfl rfl rfl) (Ed (Ec (Eb [1, 3, 4] rfl (Eh (En (Ea (Ek rfl) (Ea (Eo rfl rfl rfl) (Ea (Ek rfl) (Ea (Eo rfl rfl rfl) ?_)))))))))))
 first | refine Ea (o_subn rfl rfl (by first | omega | exact limit_sub _)) ?_ | refine Ea (o_sub rfl rfl) ?_
 first | refine Ez rfl rfl (Fy ..) ?_ | refine Ew rfl rfl (by simp) (Fy ..) rfl ?_
 refine Ea (Fg rfl) (Ea (Ef rfl) ?_)
 first | refine Fq rfl ?_ ?_ | refine Fr rfl ?_ ?_ | refine s_gNF rfl ?_ ?_ | refine Fe rfl ?_ ?_
 intro h3
 try rw [nnp] at h3
 try have h3' := Et h3
 try have h3' := aligned_nn h3
 refine Ea (Ef rfl) (Ei rfl (Ea (o_gtr rfl rfl) (Ei rfl (Ea (Ef rfl) ?_))))
 first | refine Ff rfl ?_ ?_ | refine Fe rfl ?_ ?_
 intro h4
 try rw [nnp] at h4
 try have h4' := Et h4
 try have h4' := aligned_nn h4
 refine Ea (Ek rfl) (Ei rfl (Ea (Eo rfl rfl rfl) (Ei rfl (Ea (Ek rfl) (Er (is := [1, 3, 4, 24, 25, 26, 27, 28, 29, 30]) rfl (Ei rfl (Ea (Eo rfl rfl rfl) (Ei rfl (Ea (Ef rfl) (Ei rfl ?_))))))))))
 first | refine Ea (o_subn rfl rfl (by first | omega | exact limit_sub _)) ?_ | refine Ea (o_sub rfl rfl) ?_
 refine Ei rfl (s_iaM rfl rfl (by omega) ?_)
 intro y5 e5
 (try have e5l := lAt_of e5); (try have e5p := prev_of (b := b) (i := i) (by omega) (by simpa using e5)); (try simp only [Int.toNat_natCast, Int.toNat_zero] at e5)
 refine Ei rfl (Ea (o_fa rfl) (Ei rfl (Ea (o_ld rfl rfl) (Ei rfl (Ea (o_leq rfl rfl) (Ei rfl (Ea (Em rfl rfl) (Ea (Ej rfl rfl) (Ea (Ef rfl) ?_)))))))))
 first | refine Fq rfl ?_ ?_ | refine Fe rfl ?_ ?_
 intro h6
 try rw [nnp] at h6
 try have h6' := Et h6
 try have h6' := aligned_nn h6
 refine Ea (Ek rfl) (Ei rfl (Ea (Eo rfl rfl rfl) (Ei rfl (Ea (Ek rfl) (Ei rfl (Ea (Eo rfl rfl rfl) (Er (is := [1, 3, 4, 25, 26, 27, 28, 29, 30, 31, 32, 33, 34, 35, 36, 37, 38, 40, 41, 42, 43, 44]) rfl (Ei rfl ?_))))))))
 first | refine Ea (Fk rfl) ?_ | refine Ea (Fu rfl) ?_ | refine Ea (o_lenL rfl rfl rfl) ?_ | refine Ea (o_lenN rfl) ?_
 refine Ei rfl ?_
 first | refine Ea (o_subn rfl rfl (by first | omega | exact limit_sub _)) ?_ | refine Ea (o_sub rfl rfl) ?_
 refine Ei rfl ?_
 first | refine Ez rfl rfl (Fy ..) ?_ | refine Ew rfl rfl (by simp) (Fy ..) rfl ?_
 refine Ei rfl (Ea (Fg rfl) (Ea (Ej rfl rfl) (Ea (Ef rfl) ?_)))
 first | refine Fq rfl ?_ ?_ | refine Fr rfl ?_ ?_ | refine s_gNF rfl ?_ ?_ | refine Fe rfl ?_ ?_
 intro h7
 try rw [nnp] at h7
 try have h7' := Et h7
 try have h7' := aligned_nn h7
 refine Ea (Ek rfl) (Ei rfl (Ea (Eo rfl rfl rfl) (Ei rfl (Ea (Ek rfl) (Ei rfl (Ea (Eo rfl rfl rfl) (Ei rfl ?_)))))))
 first | refine Ez rfl rfl (c_172 ..) ?_ | refine Ew rfl rfl (by simp) (c_172 ..) rfl ?_
 refine Ei rfl (Ea (Fg rfl) (Ea (Ej rfl rfl) (Ea (Ef rfl) (Er (is := [1, 3, 4, 25, 26, 27, 28, 29, 30, 31, 32, 33, 34, 35, 36, 37, 38, 41, 42, 43, 44, 45, 46, 47, 48, 51, 52, 53, 54, 55, 56, 58]) rfl ?_))))
 first | refine Fq rfl ?_ ?_ | refine Fr rfl ?_ ?_ | refine s_gNF rfl ?_ ?_ | refine Fe rfl ?_ ?_
 intro h8
 try rw [nnp] at h8
 try have h8' := Et h8
 try have h8' := aligned_nn h8
 refine Ea (Ek rfl) (Ei rfl (Ea (Eo rfl rfl rfl) (Ei rfl ?_)))
 first | refine Ez rfl rfl (Fy ..) ?_ | refine Ew rfl rfl (by simp) (Fy ..) rfl ?_
 refine Ei rfl (Ea (Fg rfl) (Ea (Ej rfl rfl) (Ea (Ef rfl) ?_)))
 first | refine Fq rfl ?_ ?_ | refine Fr rfl ?_ ?_ | refine s_gNF rfl ?_ ?_ | refine Fe rfl ?_ ?_
 intro h9
 try rw [nnp] at h9
 try have h9' := Et h9
 try have h9' := aligned_nn h9
 refine Ea (Ek rfl) (Ei rfl (Ea (Eo rfl rfl rfl) (Ei rfl (Ea (Ek rfl) (Ei rfl (Ea (Eo rfl rfl rfl) (Ei rfl ?_)))))))
 first | refine Ez rfl rfl (c_201 ..) ?_ | refine Ew rfl rfl (by simp) (c_201 ..) rfl ?_
 refine Ei rfl ?_
 first | refine Ea (o_subn rfl rfl (by first | omega | exact limit_sub _)) ?_ | refine Ea (o_sub rfl rfl) ?_
 refine Ei rfl ?_
 first | refine Ez rfl rfl (Fy ..) ?_ | refine Ew rfl rfl (by simp) (Fy ..) rfl ?_
 refine Ei rfl (Ea (Fg rfl) (Er (is := [1, 3, 4, 25, 26, 27, 28, 29, 30, 31, 32, 33, 34, 35, 36, 37, 38, 41, 42, 43, 44, 45, 46, 47, 48, 51, 52, 53, 54, 55, 56, 59, 60, 61, 62, 64, 65, 66, 67, 68, 69, 70, 71, 72]) rfl (Ea (Ej rfl rfl) (Ea (Ef rfl) ?_))))
 first | refine Fq rfl ?_ ?_ | refine Fr rfl ?_ ?_ | refine s_gNF rfl ?_ ?_ | refine Fe rfl ?_ ?_
 intro h10
 try rw [nnp] at h10
 try have h10' := Et h10
 try have h10' := aligned_nn h10
 refine Ea (Ek rfl) (Ei rfl (Ea (Eo rfl rfl rfl) (Ei rfl ?_)))
 first | refine Ez rfl rfl (Fy ..) ?_ | refine Ew rfl rfl (by simp) (Fy ..) rfl ?_
 refine Ei rfl (Ea (Fg rfl) (Ea (Ej rfl rfl) (Ed (Ec (Eb [1, 3, 25, 26, 27, 28, 29, 30, 31, 32, 33, 34, 35, 36, 37, 38, 41, 42, 43, 44, 45, 46, 47, 48, 51, 52, 53, 54, 55, 56, 59, 60, 61, 62, 65, 66, 67, 68, 69, 70, 71, 72, 75, 76, 77, 78, 79] rfl ?_)))))
 first | refine Ey rfl ?_ ?_ | refine Fp rfl ?_ ?_ | refine Fh rfl ?_ ?_ | refine Ev rfl ?_ ?_
 intro h11
 try rw [nnp] at h11
 try have h11' := Et h11
 try have h11' := aligned_nn h11
 refine Eh (En (Ea (Ef rfl) (Ed (Ec (Eb [2] rfl (Ep (Fd (Eu (Fw (Fd (Eu ?_)))))))))))
 refine Eg rfl rfl ?_
 rotate_left
 intro h11
 try rw [nnp] at h11
 try have h11' := Et h11
 try have h11' := aligned_nn h11
 refine Fa (q_blkN (Ec (Eb [1, 3, 25, 26, 27, 28, 29, 30, 31, 32, 33, 34, 35, 36, 37, 38, 41, 42, 43, 44, 45, 46, 47, 48, 51, 52, 53, 54, 55, 56, 59, 60, 61, 62, 65, 66, 67, 68, 69, 70, 71, 72, 75, 76, 77, 78] rfl (En (Ea (Ef rfl) ?_)))))
 first | refine Ea (Fs rfl rfl (by first | omega | exact limit_sub _)) ?_ | refine Ea (o_add rfl rfl) ?_
 refine Ea (Ef rfl) (Ed (q_loopN ?_))
 · exact ⟨i + 1, ⟨by omega, rall_succ hi.2 (by clear hs hi hp; simp_all [logAt, inB]; omega)⟩, by omega, hasOf ⟨rfl, trivial⟩ rfl⟩
 intro h10
 try rw [nnp] at h10
 try have h10' := Et h10
 try have h10' := aligned_nn h10
 refine Ee rfl (Ee rfl (Ee rfl (Ee rfl (Ea (Em rfl rfl) (Ed (Ec (Eb [1, 3, 25, 26, 27, 28, 29, 30, 31, 32, 33, 34, 35, 36, 37, 38, 41, 42, 43, 44, 45, 46, 47, 48, 51, 52, 53, 54, 55, 56, 59, 60, 61, 62, 65, 66, 67, 68, 69, 70, 71, 72, 75, 76, 77, 78, 79] rfl (Fi rfl (Eh (En (Ea (Ef rfl) ?_)))))))))))
 refine Ed (Ec (Eb [2] rfl (Ep (Fd (Eu (Fw (Fd (Eu (Eg rfl rfl ?_)))))))))
 rotate_left
 intro h9
 try rw [nnp] at h9
 try have h9' := Et h9
 try have h9' := aligned_nn h9
 iterate 8 refine Ee rfl ?_
 refine Er (is := [1, 3, 4, 25, 26, 27, 28, 29, 30, 31, 32, 33, 34, 35, 36, 37, 38, 41, 42, 43, 44, 45, 46, 47, 48, 51, 52, 53, 54, 55, 56, 59, 60, 61, 62, 64, 65, 66, 67, 68, 69, 70, 71, 72]) rfl (Ea (Em rfl rfl) (Ea (Ef rfl) (Ee rfl (Ee rfl (Ee rfl (Ee rfl (Ea (Em rfl rfl) (Ed (Ec (Eb [1, 3, 25, 26, 27, 28, 29, 30, 31, 32, 33, 34, 35, 36, 37, 38, 41, 42, 43, 44, 45, 46, 47, 48, 51, 52, 53, 54, 55, 56, 59, 60, 61, 62, 65, 66, 67, 68, 69, 70, 71, 72, 75, 76, 77, 78, 79] rfl (Fi rfl ?_)))))))))))
 refine Eh (En (Ea (Ef rfl) (Ed (Ec (Eb [2] rfl (Ep (Fd (Eu (Fw (Fd (Eu ?_)))))))))))
 refine Eg rfl rfl ?_
 rotate_left
 intro h8
 try rw [nnp] at h8
 try have h8' := Et h8
 try have h8' := aligned_nn h8
 refine Ee rfl (Ee rfl (Ee rfl (Ee rfl (Ea (Em rfl rfl) (Ea (Ef rfl) ?_)))))
 iterate 8 refine Ee rfl ?_
 refine Er (is := [1, 3, 4, 25, 26, 27, 28, 29, 30, 31, 32, 33, 34, 35, 36, 37, 38, 41, 42, 43, 44, 45, 46, 47, 48, 51, 52, 53, 54, 55, 56, 59, 60, 61, 62, 64, 65, 66, 67, 68, 69, 70, 71, 72]) rfl (Ea (Em rfl rfl) (Ea (Ef rfl) (Ee rfl (Ee rfl (Ee rfl (Ee rfl (Ea (Em rfl rfl) (Ed (Ec (Eb [1, 3, 25, 26, 27, 28, 29, 30, 31, 32, 33, 34, 35, 36, 37, 38, 41, 42, 43, 44, 45, 46, 47, 48, 51, 52, 53, 54, 55, 56, 59, 60, 61, 62, 65, 66, 67, 68, 69, 70, 71, 72, 75, 76, 77, 78, 79] rfl (Fi rfl ?_)))))))))))
 refine Eh (En (Ea (Ef rfl) (Ed (Ec (Eb [2] rfl (Ep (Fd (Eu (Fw (Fd (Eu ?_)))))))))))
 refine Eg rfl rfl ?_
 rotate_left
 intro h7
 try rw [nnp] at h7
 try have h7' := Et h7
 try have h7' := aligned_nn h7
 iterate 6 refine Ee rfl ?_
 refine Ea (Em rfl rfl) (Ea (Ef rfl) (Er (is := [1, 3, 4, 25, 26, 27, 28, 29, 30, 31, 32, 33, 34, 35, 36, 37, 38, 41, 42, 43, 44, 45, 46, 47, 48, 51, 52, 53, 54, 55, 56, 58]) rfl (Ee rfl (Ee rfl (Ee rfl (Ee rfl (Ea (Em rfl rfl) (Ea (Ef rfl) ?_))))))))
 iterate 8 refine Ee rfl ?_
 refine Er (is := [1, 3, 4, 25, 26, 27, 28, 29, 30, 31, 32, 33, 34, 35, 36, 37, 38, 41, 42, 43, 44, 45, 46, 47, 48, 51, 52, 53, 54, 55, 56, 59, 60, 61, 62, 64, 65, 66, 67, 68, 69, 70, 71, 72]) rfl (Ea (Em rfl rfl) (Ea (Ef rfl) (Ee rfl (Ee rfl (Ee rfl (Ee rfl (Ea (Em rfl rfl) (Ed (Ec (Eb [1, 3, 25, 26, 27, 28, 29, 30, 31, 32, 33, 34, 35, 36, 37, 38, 41, 42, 43, 44, 45, 46, 47, 48, 51, 52, 53, 54, 55, 56, 59, 60, 61, 62, 65, 66, 67, 68, 69, 70, 71, 72, 75, 76, 77, 78, 79] rfl (Fi rfl ?_)))))))))))
 refine Eh (En (Ea (Ef rfl) (Ed (Ec (Eb [2] rfl (Ep (Fd (Eu (Fw (Fd (Eu ?_)))))))))))
 refine Eg rfl rfl ?_
 rotate_left
 intro h6
 try rw [nnp] at h6
 try have h6' := Et h6
 try have h6' := aligned_nn h6
 refine Ee rfl (Ee rfl (Ee rfl (Ee rfl (Er (is := [1, 3, 4, 25, 26, 27, 28, 29, 30, 31, 32, 33, 34, 35, 36, 37, 38, 40, 41, 42, 43, 44]) rfl (Ee rfl (Ee rfl (Ee rfl (Ee rfl (Ea (Em rfl rfl) (Ea (Ef rfl) ?_))))))))))
 iterate 6 refine Ee rfl ?_
 refine Ea (Em rfl rfl) (Ea (Ef rfl) (Er (is := [1, 3, 4, 25, 26, 27, 28, 29, 30, 31, 32, 33, 34, 35, 36, 37, 38, 41, 42, 43, 44, 45, 46, 47, 48, 51, 52, 53, 54, 55, 56, 58]) rfl (Ee rfl (Ee rfl (Ee rfl (Ee rfl (Ea (Em rfl rfl) (Ea (Ef rfl) ?_))))))))
 iterate 8 refine Ee rfl ?_
 refine Er (is := [1, 3, 4, 25, 26, 27, 28, 29, 30, 31, 32, 33, 34, 35, 36, 37, 38, 41, 42, 43, 44, 45, 46, 47, 48, 51, 52, 53, 54, 55, 56, 59, 60, 61, 62, 64, 65, 66, 67, 68, 69, 70, 71, 72]) rfl (Ea (Em rfl rfl) (Ea (Ef rfl) (Ee rfl (Ee rfl (Ee rfl (Ee rfl (Ea (Em rfl rfl) (Ed (Ec (Eb [1, 3, 25, 26, 27, 28, 29, 30, 31, 32, 33, 34, 35, 36, 37, 38, 41, 42, 43, 44, 45, 46, 47, 48, 51, 52, 53, 54, 55, 56, 59, 60, 61, 62, 65, 66, 67, 68, 69, 70, 71, 72, 75, 76, 77, 78, 79] rfl (Fi rfl ?_)))))))))))
 refine Eh (En (Ea (Ef rfl) (Ed (Ec (Eb [2] rfl (Ep (Fd (Eu (Fw (Fd (Eu ?_)))))))))))
 refine Eg rfl rfl ?_
 rotate_left
 intro h4
 try rw [nnp] at h4
 try have h4' := Et h4
 try have h4' := aligned_nn h4
 refine Ee rfl (Ee rfl (Ee rfl (Er (is := [1, 3, 4, 24, 25, 26, 27, 28, 29, 30]) rfl ?_)))
 iterate 7 refine Ee rfl ?_
 refine Ei rfl (Ea (Ej rfl rfl) (Ea (Ej rfl rfl) (Ea (Ef rfl) (Ei rfl (Ea (Ek rfl) (Ei rfl (Ea (Eo rfl rfl rfl) (Ei rfl (Ea (Ek rfl) (Ei rfl (Ea (Eo rfl rfl rfl) ?_)))))))))))
 refine Er (is := [1, 3, 4, 25, 26, 27, 28, 29, 30, 31, 32, 33, 34, 35, 36, 37, 38, 40, 41, 42, 43, 44]) rfl (Ei rfl ?_)
 first | refine Ea (Fk rfl) ?_ | refine Ea (Fu rfl) ?_ | refine Ea (o_lenL rfl rfl rfl) ?_ | refine Ea (o_lenN rfl) ?_
 refine Ei rfl ?_
 first | refine Ea (o_subn rfl rfl (by first | omega | exact limit_sub _)) ?_ | refine Ea (o_sub rfl rfl) ?_
 refine Ei rfl ?_
 first | refine Ez rfl rfl (Fy ..) ?_ | refine Ew rfl rfl (by simp) (Fy ..) rfl ?_
 refine Ei rfl (Ea (Fg rfl) (Ea (Ej rfl rfl) (Ea (Ef rfl) ?_)))
 first | refine Fq rfl ?_ ?_ | refine Fr rfl ?_ ?_ | refine s_gNF rfl ?_ ?_ | refine Fe rfl ?_ ?_
 intro h12
 try rw [nnp] at h12
 try have h12' := Et h12
 try have h12' := aligned_nn h12
 refine Ea (Ek rfl) (Ei rfl (Ea (Eo rfl rfl rfl) (Ei rfl (Ea (Ek rfl) (Ei rfl (Ea (Eo rfl rfl rfl) (Ei rfl ?_)))))))
 first | refine Ez rfl rfl (c_172 ..) ?_ | refine Ew rfl rfl (by simp) (c_172 ..) rfl ?_
 refine Ei rfl (Ea (Fg rfl) (Ea (Ej rfl rfl) (Ea (Ef rfl) (Er (is := [1, 3, 4, 25, 26, 27, 28, 29, 30, 31, 32, 33, 34, 35, 36, 37, 38, 41, 42, 43, 44, 45, 46, 47, 48, 51, 52, 53, 54, 55, 56, 58]) rfl ?_))))
 first | refine Fq rfl ?_ ?_ | refine Fr rfl ?_ ?_ | refine s_gNF rfl ?_ ?_ | refine Fe rfl ?_ ?_
 intro h13
 try rw [nnp] at h13
 try have h13' := Et h13
 try have h13' := aligned_nn h13
 refine Ea (Ek rfl) (Ei rfl (Ea (Eo rfl rfl rfl) (Ei rfl ?_)))
 first | refine Ez rfl rfl (Fy ..) ?_ | refine Ew rfl rfl (by simp) (Fy ..) rfl ?_
 refine Ei rfl (Ea (Fg rfl) (Ea (Ej rfl rfl) (Ea (Ef rfl) ?_)))
 first | refine Fq rfl ?_ ?_ | refine Fr rfl ?_ ?_ | refine s_gNF rfl ?_ ?_ | refine Fe rfl ?_ ?_
 intro h14
 try rw [nnp] at h14
 try have h14' := Et h14
 try have h14' := aligned_nn h14
 refine Ea (Ek rfl) (Ei rfl (Ea (Eo rfl rfl rfl) (Ei rfl (Ea (Ek rfl) (Ei rfl (Ea (Eo rfl rfl rfl) (Ei rfl ?_)))))))
 first | refine Ez rfl rfl (c_201 ..) ?_ | refine Ew rfl rfl (by simp) (c_201 ..) rfl ?_
 refine Ei rfl ?_
 first | refine Ea (o_subn rfl rfl (by first | omega | exact limit_sub _)) ?_ | refine Ea (o_sub rfl rfl) ?_
 refine Ei rfl ?_
 first | refine Ez rfl rfl (Fy ..) ?_ | refine Ew rfl rfl (by simp) (Fy ..) rfl ?_
 refine Ei rfl (Ea (Fg rfl) (Er (is := [1, 3, 4, 25, 26, 27, 28, 29, 30, 31, 32, 33, 34, 35, 36, 37, 38, 41, 42, 43, 44, 45, 46, 47, 48, 51, 52, 53, 54, 55, 56, 59, 60, 61, 62, 64, 65, 66, 67, 68, 69, 70, 71, 72]) rfl (Ea (Ej rfl rfl) (Ea (Ef rfl) ?_))))
 first | refine Fq rfl ?_ ?_ | refine Fr rfl ?_ ?_ | refine s_gNF rfl ?_ ?_ | refine Fe rfl ?_ ?_
 intro h15
 try rw [nnp] at h15
 try have h15' := Et h15
 try have h15' := aligned_nn h15
 refine Ea (Ek rfl) (Ei rfl (Ea (Eo rfl rfl rfl) (Ei rfl ?_)))
 first | refine Ez rfl rfl (Fy ..) ?_ | refine Ew rfl rfl (by simp) (Fy ..) rfl ?_
 refine Ei rfl (Ea (Fg rfl) (Ea (Ej rfl rfl) (Ed (Ec (Eb [1, 3, 25, 26, 27, 28, 29, 30, 31, 32, 33, 34, 35, 36, 37, 38, 41, 42, 43, 44, 45, 46, 47, 48, 51, 52, 53, 54, 55, 56, 59, 60, 61, 62, 65, 66, 67, 68, 69, 70, 71, 72, 75, 76, 77, 78, 79] rfl ?_)))))
 first | refine Ey rfl ?_ ?_ | refine Fp rfl ?_ ?_ | refine Fh rfl ?_ ?_ | refine Ev rfl ?_ ?_
 intro h16
 try rw [nnp] at h16
 try have h16' := Et h16
 try have h16' := aligned_nn h16
 refine Eh (En (Ea (Ef rfl) (Ed (Ec (Eb [2] rfl (Ep (Fd (Eu (Fw (Fd (Eu ?_)))))))))))
 refine Eg rfl rfl ?_
 rotate_left
 intro h16
 try rw [nnp] at h16
 try have h16' := Et h16
 try have h16' := aligned_nn h16
 refine Fa (q_blkN (Ec (Eb [1, 3, 25, 26, 27, 28, 29, 30, 31, 32, 33, 34, 35, 36, 37, 38, 41, 42, 43, 44, 45, 46, 47, 48, 51, 52, 53, 54, 55, 56, 59, 60, 61, 62, 65, 66, 67, 68, 69, 70, 71, 72, 75, 76, 77, 78] rfl (En (Ea (Ef rfl) ?_)))))
 first | refine Ea (Fs rfl rfl (by first | omega | exact limit_sub _)) ?_ | refine Ea (o_add rfl rfl) ?_
 refine Ea (Ef rfl) (Ed (q_loopN ?_))
 · exact ⟨i + 1, ⟨by omega, rall_succ hi.2 (by clear hs hi hp; simp_all [logAt, inB]; omega)⟩, by omega, hasOf ⟨rfl, trivial⟩ rfl⟩
 intro h15
 try rw [nnp] at h15
 try have h15' := Et h15
 try have h15' := aligned_nn h15
 refine Ee rfl (Ee rfl (Ee rfl (Ee rfl (Ea (Em rfl rfl) (Ed (Ec (Eb [1, 3, 25, 26, 27, 28, 29, 30, 31, 32, 33, 34, 35, 36, 37, 38, 41, 42, 43, 44, 45, 46, 47, 48, 51, 52, 53, 54, 55, 56, 59, 60, 61, 62, 65, 66, 67, 68, 69, 70, 71, 72, 75, 76, 77, 78, 79] rfl (Fi rfl (Eh (En (Ea (Ef rfl) ?_)))))))))))
 refine Ed (Ec (Eb [2] rfl (Ep (Fd (Eu (Fw (Fd (Eu (Eg rfl rfl ?_)))))))))
 rotate_left
 intro h14
 try rw [nnp] at h14
 try have h14' := Et h14
 try have h14' := aligned_nn h14
 iterate 8 refine Ee rfl ?_
 refine Er (is := [1, 3, 4, 25, 26, 27, 28, 29, 30, 31, 32, 33, 34, 35, 36, 37, 38, 41, 42, 43, 44, 45, 46, 47, 48, 51, 52, 53, 54, 55, 56, 59, 60, 61, 62, 64, 65, 66, 67, 68, 69, 70, 71, 72]) rfl (Ea (Em rfl rfl) (Ea (Ef rfl) (Ee rfl (Ee rfl (Ee rfl (Ee rfl (Ea (Em rfl rfl) (Ed (Ec (Eb [1, 3, 25, 26, 27, 28, 29, 30, 31, 32, 33, 34, 35, 36, 37, 38, 41, 42, 43, 44, 45, 46, 47, 48, 51, 52, 53, 54, 55, 56, 59, 60, 61, 62, 65, 66, 67, 68, 69, 70, 71, 72, 75, 76, 77, 78, 79] rfl (Fi rfl ?_)))))))))))
 refine Eh (En (Ea (Ef rfl) (Ed (Ec (Eb [2] rfl (Ep (Fd (Eu (Fw (Fd (Eu ?_)))))))))))
 refine Eg rfl rfl ?_
 rotate_left
 intro h13
 try rw [nnp] at h13
 try have h13' := Et h13
 try have h13' := aligned_nn h13
 refine Ee rfl (Ee rfl (Ee rfl (Ee rfl (Ea (Em rfl rfl) (Ea (Ef rfl) ?_)))))
 iterate 8 refine Ee rfl ?_
 refine Er (is := [1, 3, 4, 25, 26, 27, 28, 29, 30, 31, 32, 33, 34, 35, 36, 37, 38, 41, 42, 43, 44, 45, 46, 47, 48, 51, 52, 53, 54, 55, 56, 59, 60, 61, 62, 64, 65, 66, 67, 68, 69, 70, 71, 72]) rfl (Ea (Em rfl rfl) (Ea (Ef rfl) (Ee rfl (Ee rfl (Ee rfl (Ee rfl (Ea (Em rfl rfl) (Ed (Ec (Eb [1, 3, 25, 26, 27, 28, 29, 30, 31, 32, 33, 34, 35, 36, 37, 38, 41, 42, 43, 44, 45, 46, 47, 48, 51, 52, 53, 54, 55, 56, 59, 60, 61, 62, 65, 66, 67, 68, 69, 70, 71, 72, 75, 76, 77, 78, 79] rfl (Fi rfl ?_)))))))))))
 refine Eh (En (Ea (Ef rfl) (Ed (Ec (Eb [2] rfl (Ep (Fd (Eu (Fw (Fd (Eu ?_)))))))))))
 refine Eg rfl rfl ?_
 rotate_left
 intro h12
 try rw [nnp] at h12
 try have h12' := Et h12
 try have h12' := aligned_nn h12
 iterate 6 refine Ee rfl ?_
 refine Ea (Em rfl rfl) (Ea (Ef rfl) (Er (is := [1, 3, 4, 25, 26, 27, 28, 29, 30, 31, 32, 33, 34, 35, 36, 37, 38, 41, 42, 43, 44, 45, 46, 47, 48, 51, 52, 53, 54, 55, 56, 58]) rfl (Ee rfl (Ee rfl (Ee rfl (Ee rfl (Ea (Em rfl rfl) (Ea (Ef rfl) ?_))))))))
 iterate 8 refine Ee rfl ?_
 refine Er (is := [1, 3, 4, 25, 26, 27, 28, 29, 30, 31, 32, 33, 34, 35, 36, 37, 38, 41, 42, 43, 44, 45, 46, 47, 48, 51, 52, 53, 54, 55, 56, 59, 60, 61, 62, 64, 65, 66, 67, 68, 69, 70, 71, 72]) rfl (Ea (Em rfl rfl) (Ea (Ef rfl) (Ee rfl (Ee rfl (Ee rfl (Ee rfl (Ea (Em rfl rfl) (Ed (Ec (Eb [1, 3, 25, 26, 27, 28, 29, 30, 31, 32, 33, 34, 35, 36, 37, 38, 41, 42, 43, 44, 45, 46, 47, 48, 51, 52, 53, 54, 55, 56, 59, 60, 61, 62, 65, 66, 67, 68, 69, 70, 71, 72, 75, 76, 77, 78, 79] rfl (Fi rfl ?_)))))))))))
 refine Eh (En (Ea (Ef rfl) (Ed (Ec (Eb [2] rfl (Ep (Fd (Eu (Fw (Fd (Eu ?_)))))))))))
 refine Eg rfl rfl ?_
 rotate_left
 intro h3
 try rw [nnp] at h3
 try have h3' := Et h3
 try have h3' := aligned_nn h3
 refine Ee rfl (Ee rfl (Ee rfl (Fb rfl (Fb rfl (Fb rfl (Er (is := [1, 3, 4, 24, 25, 26, 27, 28, 29, 30]) rfl ?_))))))
 iterate 7 refine Fb rfl ?_
 refine Ee rfl (Ea (Em rfl rfl) (Ea (Ef rfl) (Ee rfl (Ee rfl (Ee rfl (Ee rfl (Er (is := [1, 3, 4, 25, 26, 27, 28, 29, 30, 31, 32, 33, 34, 35, 36, 37, 38, 40, 41, 42, 43, 44]) rfl (Ee rfl (Ee rfl (Ee rfl (Ee rfl ?_)))))))))))
 refine Ea (Em rfl rfl) (Ea (Ef rfl) ?_)
 iterate 6 refine Ee rfl ?_
 refine Ea (Em rfl rfl) (Ea (Ef rfl) (Er (is := [1, 3, 4, 25, 26, 27, 28, 29, 30, 31, 32, 33, 34, 35, 36, 37, 38, 41, 42, 43, 44, 45, 46, 47, 48, 51, 52, 53, 54, 55, 56, 58]) rfl (Ee rfl (Ee rfl (Ee rfl (Ee rfl (Ea (Em rfl rfl) (Ea (Ef rfl) ?_))))))))
 iterate 8 refine Ee rfl ?_
 refine Er (is := [1, 3, 4, 25, 26, 27, 28, 29, 30, 31, 32, 33, 34, 35, 36, 37, 38, 41, 42, 43, 44, 45, 46, 47, 48, 51, 52, 53, 54, 55, 56, 59, 60, 61, 62, 64, 65, 66, 67, 68, 69, 70, 71, 72]) rfl (Ea (Em rfl rfl) (Ea (Ef rfl) (Ee rfl (Ee rfl (Ee rfl (Ee rfl (Ea (Em rfl rfl) (Ed (Ec (Eb [1, 3, 25, 26, 27, 28, 29, 30, 31, 32, 33, 34, 35, 36, 37, 38, 41, 42, 43, 44, 45, 46, 47, 48, 51, 52, 53, 54, 55, 56, 59, 60, 61, 62, 65, 66, 67, 68, 69, 70, 71, 72, 75, 76, 77, 78, 79] rfl (Fi rfl ?_)))))))))))
 refine Eh (En (Ea (Ef rfl) (Ed (Ec (Eb [2] rfl (Ep (Fd (Eu (Fw (Fd (Eu ?_)))))))))))
 refine Eg rfl rfl ?_
 rotate_left
 intro h1
 try rw [nnp] at h1
 try have h1' := Et h1
 try have h1' := aligned_nn h1
 refine s_exit (q_seqX (q_loopX (q_blkH (Ec (Eb [] rfl (Eh (En (Ea (Ef rfl) (Ed (Ec (Eb [2] rfl ?_)))))))))))
 refine Ep (Eg rfl rfl ?_)
 rotate_left
 all_goals
  first | (unfold loggedB; rw [rall_end hi.2 hi.1 (by omega)]; done) | (unfold loggedB; rw [rall_no (p := logAt b) (by omega : i < b.log.length) (by clear hs hi hp; first | (simp_all [logAt, inB]; done) | (simp_all [logAt, inB]; intros; omega))]; done)
set_option maxHeartbeats 1000000 in
theorem c_182 (b : Bus) (hs : b.small) : CV prg 182 [.agg b.r] (fun res => res = .w (.bool b.okB)) := by
 have hml : b.ms.length ≤ 1048576 := hs.2.1
 have hms := hs.2.2.1
 have hcl : b.conf.masters.length ≤ 1048576 := hs.1
 have hmo : b.model.small := hs.2.2.2.2.2.1
 refine Fo g182 (Eb [0] rfl (Eh (En (Ea (o_box rfl rfl rfl) (Ea (Ef rfl) (Ed (Ec (Eb [1] rfl (Eh (En (Ea (Ek rfl) ?_)))))))))))
 refine Ea (Ek rfl) (Ea (Eo rfl rfl rfl) ?_)
 first | refine Ea (Fk rfl) ?_ | refine Ea (Fu rfl) ?_ | refine Ea (o_lenL rfl rfl rfl) ?_ | refine Ea (o_lenN rfl) ?_
 refine Ea (Ef rfl) (Ed (Ec (Eb [1, 3] rfl (Eh (Eh (En (Ea (Ek rfl) (Ea (Fm rfl rfl rfl) ?_))))))))
 first | refine Ez rfl rfl (c_184 b.conf hcl) ?_ | refine Ew rfl rfl (by simp) (c_184 b.conf hcl) rfl ?_
 refine Ea (Fg rfl) (Ea (Ef rfl) ?_)
 first | refine Fq rfl ?_ ?_ | refine Fr rfl ?_ ?_ | refine s_gNF rfl ?_ ?_ | refine Fe rfl ?_ ?_
 intro h1
 try rw [nnp] at h1
 try have h1' := Et h1
 refine Ea (Ek rfl) (Ei rfl (Ea (Eo rfl rfl rfl) (Ei rfl ?_)))
 first | refine Ez rfl rfl (Fy ..) ?_ | refine Ew rfl rfl (by simp) (Fy ..) rfl ?_
 refine Ei rfl (Ea (Fg rfl) (Ea (Ej rfl rfl) (Ea (Ef rfl) ?_)))
 first | refine Fq rfl ?_ ?_ | refine Fr rfl ?_ ?_ | refine s_gNF rfl ?_ ?_ | refine Fe rfl ?_ ?_
 intro h2
 try rw [nnp] at h2
 try have h2' := Et h2
 refine Ea (Ek rfl) (Ei rfl (Ea (Eo rfl rfl rfl) (Ei rfl ?_)))
 first | refine Ea (Fk rfl) ?_ | refine Ea (Fu rfl) ?_ | refine Ea (o_lenL rfl rfl rfl) ?_ | refine Ea (o_lenN rfl) ?_
 refine Er (is := [1, 3, 19, 22]) rfl (Ei rfl (Ea (Ef rfl) (Ei rfl (Ea (o_neq rfl rfl) (Ea (Ej rfl rfl) (Ea (Ef rfl) ?_))))))
 first | refine Fq rfl ?_ ?_ | refine Fe rfl ?_ ?_
 intro h3
 try rw [nnp] at h3
 try have h3' := Et h3
 refine Ea (Ek rfl) (Ei rfl (Ea (Eo rfl rfl rfl) (Ei rfl ?_)))
 first | refine Ea (Fk rfl) ?_ | refine Ea (Fu rfl) ?_ | refine Ea (o_lenL rfl rfl rfl) ?_ | refine Ea (o_lenN rfl) ?_
 refine Ei rfl (Ea (Ef rfl) (Ei rfl (Ea (o_neq rfl rfl) (Ea (Ej rfl rfl) (Ea (Ef rfl) ?_)))))
 first | refine Fq rfl ?_ ?_ | refine Fe rfl ?_ ?_
 intro h4
 try rw [nnp] at h4
 try have h4' := Et h4
 refine Ea (Ek rfl) (Ei rfl (Ea (Eo rfl rfl rfl) (Ei rfl ?_)))
 first | refine Ea (Fk rfl) ?_ | refine Ea (Fu rfl) ?_ | refine Ea (o_lenL rfl rfl rfl) ?_ | refine Ea (o_lenN rfl) ?_
 refine Er (is := [1, 3, 33, 36]) rfl (Ei rfl (Ea (Ef rfl) (Ei rfl (Ea (o_neq rfl rfl) (Ea (Ej rfl rfl) (Ea (Ef rfl) ?_))))))
 first | refine Fq rfl ?_ ?_ | refine Fe rfl ?_ ?_
 intro h5
 try rw [nnp] at h5
 try have h5' := Et h5
 refine Ea (Ek rfl) (Ei rfl (Ea (Fm rfl rfl rfl) (Ei rfl (Ea (Ek rfl) (Ei rfl (Ea (Fm rfl rfl rfl) (Ei rfl ?_)))))))
 first | refine Ez rfl rfl (c_217 b.arb b.conf hcl) ?_ | refine Ew rfl rfl (by simp) (c_217 b.arb b.conf hcl) rfl ?_
 refine Ei rfl (Ea (Fg rfl) (Ea (Ej rfl rfl) (Ea (Ef rfl) ?_)))
 first | refine Fq rfl ?_ ?_ | refine Fr rfl ?_ ?_ | refine s_gNF rfl ?_ ?_ | refine Fe rfl ?_ ?_
 intro h6
 try rw [nnp] at h6
 try have h6' := Et h6
 refine Ea (Ek rfl) (Ei rfl (Ea (Eo rfl rfl rfl) (Er (is := [1, 3, 48, 50]) rfl (Ei rfl (Ea (Ef rfl) (Ei rfl ?_))))))
 first | refine Ea (o_subn rfl rfl (by omega)) ?_ | refine Ea (o_sub rfl rfl) ?_
 refine Ei rfl ?_
 first | refine Ez rfl rfl (Fy ..) ?_ | refine Ew rfl rfl (by simp) (Fy ..) rfl ?_
 refine Ei rfl (Ea (Fg rfl) (Ea (Ej rfl rfl) (Ea (Ef rfl) ?_)))
 first | refine Fq rfl ?_ ?_ | refine Fr rfl ?_ ?_ | refine s_gNF rfl ?_ ?_ | refine Fe rfl ?_ ?_
 intro h7
 try rw [nnp] at h7
 try have h7' := Et h7
 refine Ea (Ek rfl) (Ei rfl (Ea (Fm rfl rfl rfl) (Ei rfl ?_)))
 first | refine Ez rfl rfl (c_203 b.model hmo) ?_ | refine Ew rfl rfl (by simp) (c_203 b.model hmo) rfl ?_
 refine Ei rfl (Ea (Fg rfl) (Ea (Ej rfl rfl) (Ea (Ef rfl) ?_)))
 first | refine Fq rfl ?_ ?_ | refine Fr rfl ?_ ?_ | refine s_gNF rfl ?_ ?_ | refine Fe rfl ?_ ?_
 intro h8
 try rw [nnp] at h8
 try have h8' := Et h8
 refine Ea (Ek rfl) (Ei rfl (Ea (Eo rfl rfl rfl) (Er (is := [1, 3, 62, 64]) rfl (Ei rfl (Ea (o_lss rfl rfl) (Ea (Ej rfl rfl) (Ea (Ef rfl) ?_)))))))
 first | refine Fq rfl ?_ ?_ | refine Fe rfl ?_ ?_
 intro h9
 try rw [nnp] at h9
 try have h9' := Et h9
 refine Ea (Ek rfl) (Ei rfl (Ea (Eo rfl rfl rfl) (Ei rfl (Ea (Ek rfl) (Ei rfl (Ea (Eo rfl rfl rfl) (Ei rfl (Ea (o_gtr rfl rfl) (Ea (Ej rfl rfl) (Ed (Ec ?_)))))))))))
 refine Eb [1, 3, 73] rfl ?_
 first | refine Ey rfl ?_ ?_ | refine Ev rfl ?_ ?_
 intro h10
 try rw [nnp] at h10
 try have h10' := Et h10
 refine Eh (En (Ea (Ef rfl) (Ed (Ec (Eb [2] rfl (Ep (Eu (Eg rfl rfl ?_))))))))
 rotate_left
 intro h10
 try rw [nnp] at h10
 try have h10' := Et h10
 refine Fa (Ec (Eb [1, 3] rfl (Eh (Eh (En (Ea (Ef rfl) (Ed (Ec (Eb [1, 3, 4] rfl (Fj (S_loop (ι := Nat) (fun i => i ≤ b.conf.masters.length ∧ (List.range i).all (mwAt b) = true) (fun i => [(4, .w (.int .i64 (i : Int)))]) (fun i => [.cell b.r]) (fun i => b.conf.masters.length - i) 1 0 (by simp) rfl (hasOf ⟨rfl, trivial⟩ rfl) rfl (fun _ _ => rfl) (fun _ _ => ⟨rfl, rfl⟩) ?_)))))))))))
 intro i hi
 refine Eb [1, 3, 4] rfl (Eh (Eh (En (Ea (Ef rfl) (Ea (Ef rfl) (Ea (o_lss rfl rfl) (Ed (Ec (Eb [1, 3, 4, 76] rfl ?_)))))))))
 first | refine Ey rfl ?_ ?_ | refine Ev rfl ?_ ?_
 intro h11
 try rw [nnp] at h11
 try have h11' := Et h11
 refine Fa (Ec (Eb [1, 3, 4] rfl (Eh (Fj (Eh (En (Ea (Ek rfl) (Ea (Eo rfl rfl rfl) (Ea (Ef rfl) (s_iaM rfl rfl (by first | omega | (simp_all; omega)) ?_))))))))))
 intro y12 e12
 (try have e12m := mAt_of e12); (try have e12s := sAt_of e12); (try have e12b := bAt_of e12); (try have e12c := cAt_of e12); (try have e12e := ok_every (by assumption) (List.mem_of_getElem? e12)); (try have e12sm := hms _ (List.mem_of_getElem? e12)); (try simp only [Int.toNat_natCast, Int.toNat_zero] at e12)
 refine Ea (o_ldn rfl rfl) (Ea (Ek rfl) (Ea (Fm rfl rfl rfl) ?_))
 first | refine Ez rfl rfl (c_204 _ b.conf (by assumption) hcl) ?_ | refine Ew rfl rfl (by simp) (c_204 _ b.conf (by assumption) hcl) rfl ?_
 refine Ea (Fg rfl) (Ea (Ef rfl) ?_)
 first | refine Fq rfl ?_ ?_ | refine Fr rfl ?_ ?_ | refine s_gNF rfl ?_ ?_ | refine Fe rfl ?_ ?_
 intro h13
 try rw [nnp] at h13
 try have h13' := Et h13
 refine Ea (Ek rfl) (Ei rfl (Ea (Eo rfl rfl rfl) (Ei rfl (Ea (Ef rfl) (Ei rfl (s_iaM rfl rfl (by first | omega | (simp_all; omega)) ?_))))))
 intro y14 e14
 (try have e14m := mAt_of e14); (try have e14s := sAt_of e14); (try have e14b := bAt_of e14); (try have e14c := cAt_of e14); (try have e14e := ok_every (by assumption) (List.mem_of_getElem? e14)); (try have e14sm := hms _ (List.mem_of_getElem? e14)); (try simp only [Int.toNat_natCast, Int.toNat_zero] at e14)
 refine Er (is := [1, 3, 4, 88, 89, 90, 91, 92]) rfl (Ei rfl (Ea (o_ldn rfl rfl) (Ei rfl (Ea (Ek rfl) (Ei rfl (Ea (Ek rfl) (Ei rfl (Ea (Eo rfl rfl rfl) (Ei rfl (Ea (Ef rfl) (Ei rfl ?_)))))))))))
 refine s_iaM rfl rfl (by first | omega | (simp_all; omega)) ?_
 intro y15 e15
 (try have e15m := mAt_of e15); (try have e15s := sAt_of e15); (try have e15b := bAt_of e15); (try have e15c := cAt_of e15); (try have e15e := ok_every (by assumption) (List.mem_of_getElem? e15)); (try have e15sm := hms _ (List.mem_of_getElem? e15)); (try simp only [Int.toNat_natCast, Int.toNat_zero] at e15)
 refine Ei rfl (Ea (o_ldn rfl rfl) (Ei rfl ?_))
 first | refine Ez rfl rfl (c_176w _ _ (by assumption)) ?_ | refine Ew rfl rfl (by simp) (c_176w _ _ (by assumption)) rfl ?_
 refine Ei rfl (Ea (Fg rfl) (Ea (Ej rfl rfl) (Ea (Ef rfl) ?_)))
 first | refine Fq rfl ?_ ?_ | refine Fr rfl ?_ ?_ | refine s_gNF rfl ?_ ?_ | refine Fe rfl ?_ ?_
 intro h16
 try rw [nnp] at h16
 try have h16' := Et h16
 refine Ea (Ek rfl) (Ei rfl (Ea (Eo rfl rfl rfl) (Ei rfl (Ea (Ef rfl) (Er (is := [1, 3, 4, 89, 90, 91, 92, 93, 94, 95, 96, 97, 98, 99, 100, 101, 103, 104, 105, 106]) rfl (Ei rfl (s_iaM rfl rfl (by first | omega | (simp_all; omega)) ?_)))))))
 intro y17 e17
 (try have e17m := mAt_of e17); (try have e17s := sAt_of e17); (try have e17b := bAt_of e17); (try have e17c := cAt_of e17); (try have e17e := ok_every (by assumption) (List.mem_of_getElem? e17)); (try have e17sm := hms _ (List.mem_of_getElem? e17)); (try simp only [Int.toNat_natCast, Int.toNat_zero] at e17)
 refine Ei rfl (Ea (o_ld rfl rfl) (Ei rfl (Ea (Ek rfl) (Ei rfl (Ea (Ek rfl) (Ei rfl (Ea (Eo rfl rfl rfl) (Ei rfl ?_))))))))
 first | refine Ez rfl rfl (Fy ..) ?_ | refine Ew rfl rfl (by simp) (Fy ..) rfl ?_
 refine Ei rfl (Ea (Fg rfl) (Ea (Ej rfl rfl) (Ea (Ef rfl) ?_)))
 first | refine Fq rfl ?_ ?_ | refine Fr rfl ?_ ?_ | refine s_gNF rfl ?_ ?_ | refine Fe rfl ?_ ?_
 intro h18
 try rw [nnp] at h18
 try have h18' := Et h18
 refine Ea (Ek rfl) (Ei rfl (Ea (Eo rfl rfl rfl) (Ei rfl (Ea (Ef rfl) (Ei rfl (s_iaM rfl rfl (by first | omega | (simp_all; omega)) ?_))))))
 intro y19 e19
 (try have e19m := mAt_of e19); (try have e19s := sAt_of e19); (try have e19b := bAt_of e19); (try have e19c := cAt_of e19); (try have e19e := ok_every (by assumption) (List.mem_of_getElem? e19)); (try have e19sm := hms _ (List.mem_of_getElem? e19)); (try simp only [Int.toNat_natCast, Int.toNat_zero] at e19)
 refine Ei rfl (Ea (o_fa rfl) (Er (is := [1, 3, 4, 89, 90, 91, 92, 93, 94, 95, 96, 97, 98, 99, 100, 101, 104, 105, 106, 107, 108, 109, 110, 111, 112, 113, 115, 116, 117, 118, 119, 120]) rfl (Ei rfl (Ea (o_ld rfl rfl) (Ei rfl (Ea (Ek rfl) (Ei rfl (Ea (Eo rfl rfl rfl) (Ei rfl (Ea (Ef rfl) (Ei rfl ?_)))))))))))
 refine s_iaM rfl rfl (by first | omega | (simp_all; omega)) ?_
 intro y20 e20
 (try have e20m := mAt_of e20); (try have e20s := sAt_of e20); (try have e20b := bAt_of e20); (try have e20c := cAt_of e20); (try have e20e := ok_every (by assumption) (List.mem_of_getElem? e20)); (try have e20sm := hms _ (List.mem_of_getElem? e20)); (try simp only [Int.toNat_natCast, Int.toNat_zero] at e20)
 refine Ei rfl (Ea (o_fa rfl) (Ei rfl (Ea (o_ld rfl rfl) (Ei rfl ?_))))
 first | refine Ea (o_subn rfl rfl (by omega)) ?_ | refine Ea (o_sub rfl rfl) ?_
 refine Ei rfl (Ea (Fm rfl rfl rfl) (Ei rfl (Ea (Ef rfl) (Ei rfl ?_))))
 first | refine Ez rfl rfl (c_226 b _) ?_ | refine Ew rfl rfl (by simp) (c_226 b _) rfl ?_
 refine Ei rfl (Ea (o_neq rfl rfl) (Ea (Ej rfl rfl) (Ed (Ec (Eb [1, 3, 4, 89, 90, 91, 92, 93, 94, 95, 96, 97, 98, 99, 100, 101, 104, 105, 106, 107, 108, 109, 110, 111, 112, 113, 116, 117, 118, 119, 120, 121, 122, 123, 124, 125, 126, 127, 128, 129, 130, 131, 132, 133] rfl ?_)))))
 first | refine Ey rfl ?_ ?_ | refine Ev rfl ?_ ?_
 intro h21
 try rw [nnp] at h21
 try have h21' := Et h21
 refine Eh (En (Ea (Ef rfl) (Ed (Ec (Eb [2] rfl (Ep (Fd (Eu (Fw (Fd (Eu ?_)))))))))))
 refine Eg rfl rfl ?_
 rotate_left
 intro h21
 try rw [nnp] at h21
 try have h21' := Et h21
 refine Fa (q_blkN (Ec (Eb [1, 3, 4, 89, 90, 91, 92, 93, 94, 95, 96, 97, 98, 99, 100, 101, 104, 105, 106, 107, 108, 109, 110, 111, 112, 113, 116, 117, 118, 119, 120, 121, 122, 123, 124, 125, 126, 127, 128, 129, 130, 131, 132] rfl (En (Ea (Ef rfl) ?_)))))
 first | refine Ea (Fs rfl rfl (by omega)) ?_ | refine Ea (o_add rfl rfl) ?_
 refine Ea (Ef rfl) (Ed (q_loopN ?_))
 · exact ⟨i + 1, ⟨by omega, rall_succ hi.2 (by clear hs hi; simp_all [mwAt, mOkAt, wOkAt])⟩, by omega, hasOf ⟨rfl, trivial⟩ rfl⟩
 intro h18
 try rw [nnp] at h18
 try have h18' := Et h18
 refine Ee rfl (Ee rfl (Ee rfl (Ee rfl (Ee rfl (Er (is := [1, 3, 4, 89, 90, 91, 92, 93, 94, 95, 96, 97, 98, 99, 100, 101, 104, 105, 106, 107, 108, 109, 110, 111, 112, 113, 115, 116, 117, 118, 119, 120]) rfl ?_)))))
 iterate 12 refine Ee rfl ?_
 refine Ea (Em rfl rfl) (Ed (Ec (Eb [1, 3, 4, 89, 90, 91, 92, 93, 94, 95, 96, 97, 98, 99, 100, 101, 104, 105, 106, 107, 108, 109, 110, 111, 112, 113, 116, 117, 118, 119, 120, 121, 122, 123, 124, 125, 126, 127, 128, 129, 130, 131, 132, 133] rfl (Fi rfl (Eh (En (Ea (Ef rfl) (Ed (Ec (Eb [2] rfl (Ep ?_)))))))))))
 refine Fd (Eu (Fw (Fd (Eu (Eg rfl rfl ?_)))))
 rotate_left
 intro h16
 try rw [nnp] at h16
 try have h16' := Et h16
 refine Ee rfl (Ee rfl (Ee rfl (Er (is := [1, 3, 4, 89, 90, 91, 92, 93, 94, 95, 96, 97, 98, 99, 100, 101, 103, 104, 105, 106]) rfl ?_)))
 iterate 7 refine Ee rfl ?_
 refine Ea (Em rfl rfl) (Ea (Ef rfl) (Ee rfl (Ee rfl (Ee rfl (Ee rfl (Ee rfl (Er (is := [1, 3, 4, 89, 90, 91, 92, 93, 94, 95, 96, 97, 98, 99, 100, 101, 104, 105, 106, 107, 108, 109, 110, 111, 112, 113, 115, 116, 117, 118, 119, 120]) rfl ?_)))))))
 iterate 12 refine Ee rfl ?_
 refine Ea (Em rfl rfl) (Ed (Ec (Eb [1, 3, 4, 89, 90, 91, 92, 93, 94, 95, 96, 97, 98, 99, 100, 101, 104, 105, 106, 107, 108, 109, 110, 111, 112, 113, 116, 117, 118, 119, 120, 121, 122, 123, 124, 125, 126, 127, 128, 129, 130, 131, 132, 133] rfl (Fi rfl (Eh (En (Ea (Ef rfl) (Ed (Ec (Eb [2] rfl (Ep ?_)))))))))))
 refine Fd (Eu (Fw (Fd (Eu (Eg rfl rfl ?_)))))
 rotate_left
 intro h13
 try rw [nnp] at h13
 try have h13' := Et h13
 refine Ee rfl (Ee rfl (Ee rfl (Ee rfl (Er (is := [1, 3, 4, 88, 89, 90, 91, 92]) rfl ?_))))
 iterate 9 refine Ee rfl ?_
 refine Ea (Em rfl rfl) (Ea (Ef rfl) (Ee rfl (Ee rfl (Ee rfl (Er (is := [1, 3, 4, 89, 90, 91, 92, 93, 94, 95, 96, 97, 98, 99, 100, 101, 103, 104, 105, 106]) rfl ?_)))))
 iterate 7 refine Ee rfl ?_
 refine Ea (Em rfl rfl) (Ea (Ef rfl) (Ee rfl (Ee rfl (Ee rfl (Ee rfl (Ee rfl (Er (is := [1, 3, 4, 89, 90, 91, 92, 93, 94, 95, 96, 97, 98, 99, 100, 101, 104, 105, 106, 107, 108, 109, 110, 111, 112, 113, 115, 116, 117, 118, 119, 120]) rfl ?_)))))))
 iterate 12 refine Ee rfl ?_
 refine Ea (Em rfl rfl) (Ed (Ec (Eb [1, 3, 4, 89, 90, 91, 92, 93, 94, 95, 96, 97, 98, 99, 100, 101, 104, 105, 106, 107, 108, 109, 110, 111, 112, 113, 116, 117, 118, 119, 120, 121, 122, 123, 124, 125, 126, 127, 128, 129, 130, 131, 132, 133] rfl (Fi rfl (Eh (En (Ea (Ef rfl) (Ed (Ec (Eb [2] rfl (Ep ?_)))))))))))
 refine Fd (Eu (Fw (Fd (Eu (Eg rfl rfl ?_)))))
 rotate_left
 intro h11
 try rw [nnp] at h11
 try have h11' := Et h11
 refine s_exit (q_seqX (q_loopX (q_blkH (Ec (Eb [1] rfl (Eh (En (Ea (Fm rfl rfl rfl) ?_))))))))
 have he1 : b.ms.length = b.conf.masters.length := by omega
 have hmw := mw_all (rall_end hi.2 (by omega : i ≤ b.ms.length) (by omega))
 have hp : mastersB b = true := by unfold mastersB evenB; rw [hmw.1]; simp; omega
 have hnow : inB b.now 0 4000 = true := by assumption
 have hok := ok_rest (by assumption) hnow hp (by assumption) (by assumption) (by assumption) (by omega) (by omega) hmw.2
 refine Ea (Ek rfl) (Ea (Fm rfl rfl rfl) ?_)
 first | refine Ez rfl rfl (c_222 b hs hp) ?_ | refine Ew rfl rfl (by simp) (c_222 b hs hp) rfl ?_
 refine Ea (Ef rfl) ?_
 first | refine Ff rfl ?_ ?_ | refine Ft rfl ?_ ?_ | refine s_gNT rfl ?_ ?_ | refine Fe rfl ?_ ?_
 intro h22
 try rw [nnp] at h22
 try have h22' := Et h22
 refine Ea (Fm rfl rfl rfl) (Ei rfl (Ea (Ek rfl) (Ei rfl (Ea (Fm rfl rfl rfl) (Ei rfl ?_)))))
 first | refine Ez rfl rfl (c_222a b hs hp) ?_ | refine Ew rfl rfl (by simp) (c_222a b hs hp) rfl ?_
 refine Ea (Em rfl rfl) (Ea (Ef rfl) ?_)
 first | refine Ff rfl ?_ ?_ | refine Ft rfl ?_ ?_ | refine s_gNT rfl ?_ ?_ | refine Fe rfl ?_ ?_
 intro h23
 try rw [nnp] at h23
 try have h23' := Et h23
 refine Ea (Fm rfl rfl rfl) (Ei rfl ?_)
 first | refine Ez rfl rfl (c_223 b hs hp) ?_ | refine Ew rfl rfl (by simp) (c_223 b hs hp) rfl ?_
 refine Ea (Em rfl rfl) (Er (is := [1, 147]) rfl (Ea (Ef rfl) ?_))
 first | refine Ff rfl ?_ ?_ | refine Ft rfl ?_ ?_ | refine s_gNT rfl ?_ ?_ | refine Fe rfl ?_ ?_
 intro h24
 try rw [nnp] at h24
 try have h24' := Et h24
 refine Ea (Fm rfl rfl rfl) (Ei rfl ?_)
 first | refine Ez rfl rfl (c_224 b hs hp (Et hnow)) ?_ | refine Ew rfl rfl (by simp) (c_224 b hs hp (Et hnow)) rfl ?_
 refine Ea (Em rfl rfl) (Ea (Ef rfl) (Ed (Ec (Eb [2] rfl (Ep (Eg rfl rfl ?_))))))
 rotate_left
 intro h24
 try rw [nnp] at h24
 try have h24' := Et h24
 refine Ee rfl (Ee rfl (Ea (Ej rfl rfl) (Ea (Ef rfl) (Ed (Ec (Eb [2] rfl (Ep (Eg rfl rfl ?_))))))))
 rotate_left
 intro h23
 try rw [nnp] at h23
 try have h23' := Et h23
 refine Ee rfl (Ee rfl (Ea (Ej rfl rfl) (Er (is := [1, 147]) rfl (Ea (Ef rfl) (Ee rfl (Ee rfl (Ea (Ej rfl rfl) (Ea (Ef rfl) (Ed (Ec (Eb [2] rfl ?_)))))))))))
 refine Ep (Eg rfl rfl ?_)
 rotate_left
 intro h22
 try rw [nnp] at h22
 try have h22' := Et h22
 refine Ee rfl (Ee rfl (Ee rfl (Ee rfl (Ea (Ej rfl rfl) (Ea (Ef rfl) (Ee rfl (Ee rfl (Ea (Ej rfl rfl) (Er (is := [1, 147]) rfl (Ea (Ef rfl) (Ee rfl ?_)))))))))))
 refine Ee rfl (Ea (Ej rfl rfl) (Ea (Ef rfl) (Ed (Ec (Eb [2] rfl (Ep (Eg rfl rfl ?_)))))))
 rotate_left
 intro h9
 try rw [nnp] at h9
 try have h9' := Et h9
 refine Ee rfl (Ee rfl (Ee rfl (Ee rfl (Ee rfl (Ea (Em rfl rfl) (Ed (Ec (Eb [1, 3, 73] rfl (Fi rfl (Eh (En ?_)))))))))))
 refine Ea (Ef rfl) (Ed (Ec (Eb [2] rfl (Ep (Eu (Eg rfl rfl ?_))))))
 rotate_left
 intro h8
 try rw [nnp] at h8
 try have h8' := Et h8
 refine Ee rfl (Ee rfl (Er (is := [1, 3, 62, 64]) rfl (Ee rfl (Ea (Em rfl rfl) (Ea (Ef rfl) (Ee rfl (Ee rfl (Ee rfl (Ee rfl (Ee rfl (Ea (Em rfl rfl) ?_)))))))))))
 refine Ed (Ec (Eb [1, 3, 73] rfl (Fi rfl (Eh (En (Ea (Ef rfl) (Ed (Ec (Eb [2] rfl (Ep (Eu ?_)))))))))))
 refine Eg rfl rfl ?_
 rotate_left
 intro h7
 try rw [nnp] at h7
 try have h7' := Et h7
 refine Ee rfl (Ee rfl (Ee rfl (Ee rfl (Ea (Em rfl rfl) (Ea (Ef rfl) (Ee rfl (Ee rfl (Er (is := [1, 3, 62, 64]) rfl (Ee rfl (Ea (Em rfl rfl) (Ea (Ef rfl) ?_)))))))))))
 refine Ee rfl (Ee rfl (Ee rfl (Ee rfl (Ee rfl (Ea (Em rfl rfl) (Ed (Ec (Eb [1, 3, 73] rfl (Fi rfl (Eh (En ?_)))))))))))
 refine Ea (Ef rfl) (Ed (Ec (Eb [2] rfl (Ep (Eu (Eg rfl rfl ?_))))))
 rotate_left
 intro h6
 try rw [nnp] at h6
 try have h6' := Et h6
 refine Ee rfl (Ee rfl (Er (is := [1, 3, 48, 50]) rfl (Ee rfl (Ee rfl (Ee rfl (Ee rfl (Ea (Em rfl rfl) (Ea (Ef rfl) (Ee rfl (Ee rfl (Ee rfl ?_)))))))))))
 refine Ee rfl (Ea (Em rfl rfl) (Ea (Ef rfl) (Ee rfl (Ee rfl (Er (is := [1, 3, 62, 64]) rfl (Ee rfl (Ea (Em rfl rfl) (Ea (Ef rfl) (Ee rfl (Ee rfl (Ee rfl ?_)))))))))))
 refine Ee rfl (Ee rfl (Ea (Em rfl rfl) (Ed (Ec (Eb [1, 3, 73] rfl (Fi rfl (Eh (En (Ea (Ef rfl) (Ed (Ec ?_)))))))))))
 refine Eb [2] rfl (Ep (Eu (Eg rfl rfl ?_)))
 rotate_left
 intro h5
 try rw [nnp] at h5
 try have h5' := Et h5
 iterate 6 refine Ee rfl ?_
 refine Ea (Em rfl rfl) (Ea (Ef rfl) (Ee rfl (Ee rfl (Er (is := [1, 3, 48, 50]) rfl (Ee rfl (Ee rfl (Ee rfl (Ee rfl (Ea (Em rfl rfl) (Ea (Ef rfl) (Ee rfl ?_)))))))))))
 refine Ee rfl (Ee rfl (Ee rfl (Ea (Em rfl rfl) (Ea (Ef rfl) (Ee rfl (Ee rfl (Er (is := [1, 3, 62, 64]) rfl (Ee rfl (Ea (Em rfl rfl) (Ea (Ef rfl) (Ee rfl ?_)))))))))))
 refine Ee rfl (Ee rfl (Ee rfl (Ee rfl (Ea (Em rfl rfl) (Ed (Ec (Eb [1, 3, 73] rfl (Fi rfl (Eh (En (Ea (Ef rfl) ?_)))))))))))
 refine Ed (Ec (Eb [2] rfl (Ep (Eu (Eg rfl rfl ?_)))))
 rotate_left
 intro h4
 try rw [nnp] at h4
 try have h4' := Et h4
 refine Ee rfl (Ee rfl (Ee rfl (Er (is := [1, 3, 33, 36]) rfl (Ee rfl (Ee rfl (Ea (Em rfl rfl) (Ea (Ef rfl) ?_)))))))
 iterate 6 refine Ee rfl ?_
 refine Ea (Em rfl rfl) (Ea (Ef rfl) (Ee rfl (Ee rfl (Er (is := [1, 3, 48, 50]) rfl (Ee rfl (Ee rfl (Ee rfl (Ee rfl (Ea (Em rfl rfl) (Ea (Ef rfl) (Ee rfl ?_)))))))))))
 refine Ee rfl (Ee rfl (Ee rfl (Ea (Em rfl rfl) (Ea (Ef rfl) (Ee rfl (Ee rfl (Er (is := [1, 3, 62, 64]) rfl (Ee rfl (Ea (Em rfl rfl) (Ea (Ef rfl) (Ee rfl ?_)))))))))))
 refine Ee rfl (Ee rfl (Ee rfl (Ee rfl (Ea (Em rfl rfl) (Ed (Ec (Eb [1, 3, 73] rfl (Fi rfl (Eh (En (Ea (Ef rfl) ?_)))))))))))
 refine Ed (Ec (Eb [2] rfl (Ep (Eu (Eg rfl rfl ?_)))))
 rotate_left
 intro h3
 try rw [nnp] at h3
 try have h3' := Et h3
 refine Ee rfl (Ee rfl (Ee rfl (Ee rfl (Ee rfl (Ea (Em rfl rfl) (Ea (Ef rfl) (Ee rfl (Ee rfl (Ee rfl (Er (is := [1, 3, 33, 36]) rfl (Ee rfl ?_)))))))))))
 refine Ee rfl (Ea (Em rfl rfl) (Ea (Ef rfl) ?_))
 iterate 6 refine Ee rfl ?_
 refine Ea (Em rfl rfl) (Ea (Ef rfl) (Ee rfl (Ee rfl (Er (is := [1, 3, 48, 50]) rfl (Ee rfl (Ee rfl (Ee rfl (Ee rfl (Ea (Em rfl rfl) (Ea (Ef rfl) (Ee rfl ?_)))))))))))
 refine Ee rfl (Ee rfl (Ee rfl (Ea (Em rfl rfl) (Ea (Ef rfl) (Ee rfl (Ee rfl (Er (is := [1, 3, 62, 64]) rfl (Ee rfl (Ea (Em rfl rfl) (Ea (Ef rfl) (Ee rfl ?_)))))))))))
 refine Ee rfl (Ee rfl (Ee rfl (Ee rfl (Ea (Em rfl rfl) (Ed (Ec (Eb [1, 3, 73] rfl (Fi rfl (Eh (En (Ea (Ef rfl) ?_)))))))))))
 refine Ed (Ec (Eb [2] rfl (Ep (Eu (Eg rfl rfl ?_)))))
 rotate_left
 intro h2
 try rw [nnp] at h2
 try have h2' := Et h2
 refine Ee rfl (Ee rfl (Ee rfl (Er (is := [1, 3, 19, 22]) rfl (Ee rfl (Ee rfl (Ea (Em rfl rfl) (Ea (Ef rfl) (Ee rfl (Ee rfl (Ee rfl (Ee rfl ?_)))))))))))
 refine Ee rfl (Ea (Em rfl rfl) (Ea (Ef rfl) (Ee rfl (Ee rfl (Ee rfl (Er (is := [1, 3, 33, 36]) rfl (Ee rfl (Ee rfl (Ea (Em rfl rfl) (Ea (Ef rfl) ?_))))))))))
 iterate 6 refine Ee rfl ?_
 refine Ea (Em rfl rfl) (Ea (Ef rfl) (Ee rfl (Ee rfl (Er (is := [1, 3, 48, 50]) rfl (Ee rfl (Ee rfl (Ee rfl (Ee rfl (Ea (Em rfl rfl) (Ea (Ef rfl) (Ee rfl ?_)))))))))))
 refine Ee rfl (Ee rfl (Ee rfl (Ea (Em rfl rfl) (Ea (Ef rfl) (Ee rfl (Ee rfl (Er (is := [1, 3, 62, 64]) rfl (Ee rfl (Ea (Em rfl rfl) (Ea (Ef rfl) (Ee rfl ?_)))))))))))
 refine Ee rfl (Ee rfl (Ee rfl (Ee rfl (Ea (Em rfl rfl) (Ed (Ec (Eb [1, 3, 73] rfl (Fi rfl (Eh (En (Ea (Ef rfl) ?_)))))))))))
 refine Ed (Ec (Eb [2] rfl (Ep (Eu (Eg rfl rfl ?_)))))
 rotate_left
 intro h1
 try rw [nnp] at h1
 try have h1' := Et h1
 refine Ee rfl (Ee rfl (Ee rfl (Ee rfl (Ea (Em rfl rfl) (Ea (Ef rfl) (Ee rfl (Ee rfl (Ee rfl (Er (is := [1, 3, 19, 22]) rfl (Ee rfl (Ee rfl ?_)))))))))))
 refine Ea (Em rfl rfl) (Ea (Ef rfl) (Ee rfl (Ee rfl (Ee rfl (Ee rfl (Ee rfl (Ea (Em rfl rfl) (Ea (Ef rfl) (Ee rfl (Ee rfl (Ee rfl ?_)))))))))))
 refine Er (is := [1, 3, 33, 36]) rfl (Ee rfl (Ee rfl (Ea (Em rfl rfl) (Ea (Ef rfl) ?_))))
 iterate 6 refine Ee rfl ?_
 refine Ea (Em rfl rfl) (Ea (Ef rfl) (Ee rfl (Ee rfl (Er (is := [1, 3, 48, 50]) rfl (Ee rfl (Ee rfl (Ee rfl (Ee rfl (Ea (Em rfl rfl) (Ea (Ef rfl) (Ee rfl ?_)))))))))))
 refine Ee rfl (Ee rfl (Ee rfl (Ea (Em rfl rfl) (Ea (Ef rfl) (Ee rfl (Ee rfl (Er (is := [1, 3, 62, 64]) rfl (Ee rfl (Ea (Em rfl rfl) (Ea (Ef rfl) (Ee rfl ?_)))))))))))
 refine Ee rfl (Ee rfl (Ee rfl (Ee rfl (Ea (Em rfl rfl) (Ed (Ec (Eb [1, 3, 73] rfl (Fi rfl (Eh (En (Ea (Ef rfl) ?_)))))))))))
 refine Ed (Ec (Eb [2] rfl (Ep (Eu (Eg rfl rfl ?_)))))
 rotate_left
 all_goals
  first | (rw [hok]; clear hs hi; simp_all; done) | exact (ok_no_i (by omega : i < b.ms.length) (mw_no (by assumption) (by assumption) (by assumption))).symm | exact (ok_no_i (by omega : i < b.ms.length) (by clear hs hi; first | (simp_all [mwAt, mOkAt, wOkAt]; done) | (cases hr : (mAt b (i : Int)).right <;> simp_all [mwAt, mOkAt, wOkAt] <;> intros <;> omega))).symm | (clear hs hmo; unfold Bus.okB; rw [← lastB (by omega)]; simp_all [mastersB, evenB]; done) | (clear hs hmo; unfold Bus.okB; rw [← lastB (by omega)]; simp_all [mastersB, evenB, inB]; intros; omega)
theorem c_270 (xs : List Mst) (hl : xs.length ≤ 140737488355328) (f : Nat) (caps : List V) (hc : caps.all (V.fzV 5) = true) (p : Mst → Bool) (h : ∀ y, y ∈ xs → CV prg f (.agg (Mst.r y) :: caps) (fun v => v = .w (.bool (p y)))) : CV prg 270 [.sl 6 (xs.map Mst.r), .fn f caps] (fun res => res = .w (.int .i64 (idxOf p xs))) := by
 refine Fo g270 (Eb [0, 1] rfl (Eh (En (Ea (Ef rfl) (Ed (Ec (Eb [0, 1] rfl (Eh (Eh (En (Ea (Ef rfl) ?_)))))))))))
 first | refine Ea (Fk rfl) ?_ | refine Ea (Fu rfl) ?_
 refine Ea (Ef rfl) (Ed (Ec (Eb [0, 1, 7, 8] rfl (Fj (S_loop0 (ι := Nat) (fun i => i ≤ xs.length ∧ (xs.take i).any p = false) (fun i => [(8, .w (.int .i64 (i : Int)))]) (fun i => xs.length - i) 0 (by simp) rfl ⟨rfl, trivial⟩ (fun _ _ => rfl) rfl ?_)))))
 intro i hi
 refine Eb [0, 1, 7, 8] rfl (Eh (En (Ea (o_lss rfl rfl) (Ed (Ec (Eb [0, 1, 7, 8, 9] rfl (Eh ?_)))))))
 first | refine Ey rfl ?_ ?_ | refine Ev rfl ?_ ?_
 intro h1
 try rw [nnp] at h1
 refine Fa (Ec (Eb [0, 1, 7, 8] rfl (Eh (Fj (Eh (En (Ea (Ef rfl) (Ea (Ef rfl) (Ed (Ec (Eb [0, 1, 5, 7, 8] rfl ?_)))))))))))
 refine Eh (En (Ea (Ef rfl) (Ea (Ef rfl) (Ea (Ef rfl) (s_iaM rfl rfl (by simp at *; omega) ?_)))))
 intro y2 e2
 try simp only [Int.toNat_natCast, Int.toNat_zero] at e2
 refine Ea (o_ldn rfl rfl) (s_calli rfl rfl (fz1 rfl hc) (h _ (List.mem_of_getElem? (by assumption))) (Ed (Ec (Eb [0, 1, 5, 7, 8, 16] rfl ?_))))
 first | refine Ey rfl ?_ ?_ | refine Fp rfl ?_ ?_ | refine Fh rfl ?_ ?_ | refine Ev rfl ?_ ?_
 intro h3
 try rw [nnp] at h3
 refine Eh (En (Ea (Ef rfl) (Ea (Ef rfl) (Ed (Ec (Eb [4] rfl (Ep (Fd (Eu (Fw (Fd ?_)))))))))))
 refine Eu (Fc rfl rfl ?_)
 rotate_left
 intro h3
 try rw [nnp] at h3
 refine Fa (q_blkN (Ec (Eb [0, 1, 7, 8] rfl (En ?_))))
 first | refine Ea (Fs rfl rfl (by omega)) ?_ | refine Ea (o_add rfl rfl) ?_
 refine Ea (Ef rfl) (Ed (q_loopN ?_))
 · exact ⟨i + 1, ⟨by omega, any_take (by assumption) hi.2 (by assumption)⟩, by omega, hasOf ⟨rfl, trivial⟩ rfl⟩
 intro h1
 try rw [nnp] at h1
 refine s_exit (q_seqX (q_loopX (q_blkH (Ec (Eb [] rfl (Eh (En (Ea (Ef rfl) (Ed (Ec (Eb [4] rfl ?_)))))))))))
 refine Ep (Fc rfl rfl ?_)
 rotate_left
 all_goals
  first | exact (idxOf_at (by assumption) hi.2 (by assumption)).symm | exact (idxOf_no (any_end hi.2 (by omega))).symm
theorem c_259 (xs : List Mst) (hl : xs.length ≤ 140737488355328) (f : Nat) (caps : List V) (hc : caps.all (V.fzV 5) = true) (p : Mst → Bool) (h : ∀ y, y ∈ xs → CV prg f (.agg (Mst.r y) :: caps) (fun v => v = .w (.bool (p y)))) : CV prg 259 [.sl 6 (xs.map Mst.r), .fn f caps] (fun res => res = .w (.bool (xs.any p))) := by
 refine Fo g259 (Eb [0, 1] rfl (Eh (En (Ea (Ef rfl) (Ed (Ec (Eb [0, 1] rfl (Eh (En (Ea (Ef rfl) (Ea (Ef rfl) ?_)))))))))))
 refine Ez rfl (fz2 rfl hc) (c_270 _ (by assumption) _ _ hc _ h) (Ea (o_geq rfl rfl) (Ea (Ef rfl) (Ed (Ec (Eb [4] rfl (Ep (Eg rfl rfl ?_)))))))
 rotate_left
 all_goals
  exact idxOf_any p xs
def Bus.idleB (b : Bus) : Bool := b.ms.all (fun m => !decide (0 < (m.queue.length : Int)))
theorem idle_not (xs : List Mst) : (!xs.any (fun m => decide (0 < (m.queue.length : Int)))) = xs.all (fun m => !decide (0 < (m.queue.length : Int))) := by
 induction xs with
 | nil => rfl
 | cons m xs ih => simp only [List.any_cons, List.all_cons, Bool.not_or, ih]
theorem c_11 (m : Mst) : CV prg 11 [.agg m.r] (fun res => res = .w (.bool (decide (0 < (m.queue.length : Int))))) := by
 refine Fo g11 (Eb [0] rfl (Eh (En (Ea (o_box rfl rfl rfl) (Ea (Ef rfl) (Ed (Ec (Eb [1] rfl (Eh (En (Ea (Ek rfl) ?_)))))))))))
 refine Ea (Eo rfl rfl rfl) ?_
 first | refine Ea (Fk rfl) ?_ | refine Ea (Fu rfl) ?_ | refine Ea (o_lenL rfl rfl rfl) ?_ | refine Ea (o_lenN rfl) ?_
 refine Ea (o_gtr rfl rfl) (Ea (Ef rfl) (Ed (Ec (Eb [2] rfl (Ep (Eg rfl rfl ?_))))))
 rotate_left
 all_goals
  rfl
theorem c_10 (b : Bus) (hs : b.small) : CV prg 10 [.rp b.r 0] (fun res => res = .w (.bool b.idleB)) := by
 have hml : b.ms.length ≤ 1048576 := hs.2.1
 refine Fo g10 (Eb [0] rfl (Eh (En (Ea (Ef rfl) (Ed (Ec (Eb [0] rfl (Eh (En (Ea (Ef rfl) (Ea (Fn rfl) ?_)))))))))))
 refine Ea (o_fa rfl) (Ea (o_ld rfl rfl) (Ez rfl rfl (c_259 _ (by omega) _ _ rfl _ (fun y _ => c_11 y)) (Ea (Fg rfl) (Ea (Ef rfl) (Ed (Ec (Eb [2] rfl (Ep (Eg rfl rfl ?_)))))))))
 rotate_left
 all_goals
  exact idle_not _
theorem c_49 (b : Bus) (hs : b.small) : CV prg 49 [.agg b.r] (fun res => res = .w (.bool (b.okB && b.idleB))) := by
 refine Fo g49 (Eb [0] rfl (Eh (En (Ea (o_box rfl rfl rfl) (Ea (Ef rfl) (Ed (Ec (Eb [1] rfl (Eh (En (Ea (Fm rfl rfl rfl) ?_)))))))))))
 first | refine Ez rfl rfl (c_31 _ (by assumption)) ?_ | refine Ew rfl rfl (by simp) (c_31 _ (by assumption)) rfl ?_
 refine Ea (Ef rfl) ?_
 first | refine Ff rfl ?_ ?_ | refine Ft rfl ?_ ?_ | refine s_gNT rfl ?_ ?_ | refine Fe rfl ?_ ?_
 intro h1
 try rw [nnp] at h1
 refine Ew rfl rfl (by simp) (c_10 _ (by assumption)) rfl (Ea (Em rfl rfl) (Ea (Ef rfl) (Ed (Ec (Eb [2] rfl (Ep (Eg rfl rfl ?_)))))))
 rotate_left
 intro h1
 try rw [nnp] at h1
 refine Ee rfl (Ea (Ej rfl rfl) (Ea (Ef rfl) (Ed (Ec (Eb [2] rfl (Ep (Eg rfl rfl ?_)))))))
 rotate_left
 all_goals
  clear hs; simp_all
theorem c_199 (b : Bus) (hs : b.small) : CV prg 199 [.agg b.r] (fun res => res = .w (.bool (b.okB && b.idleB))) := by
 have hml : b.ms.length ≤ 1048576 := hs.2.1
 refine Fo g199 (Eb [0] rfl (Eh (En (Ea (o_box rfl rfl rfl) (Ea (Ef rfl) (Ed (Ec (Eb [1] rfl (Eh (Eh (En ?_)))))))))))
 refine Ea (Ef rfl) (Ed (Ec (Eb [1, 3] rfl (Fj (S_loop (ι := Nat) (fun i => i ≤ b.ms.length ∧ (b.ms.take i).all (fun m => !decide (0 < (m.queue.length : Int))) = true) (fun i => [(3, .w (.int .i64 (i : Int)))]) (fun i => [.cell b.r]) (fun i => b.ms.length - i) 1 0 (by simp) rfl (hasOf ⟨rfl, trivial⟩ rfl) rfl (fun _ _ => rfl) (fun _ _ => ⟨rfl, rfl⟩) ?_)))))
 intro i hi
 refine Eb [1, 3] rfl (Eh (Eh (En (Ea (Ef rfl) (Ea (Ek rfl) (Ea (Eo rfl rfl rfl) ?_))))))
 first | refine Ea (Fk rfl) ?_ | refine Ea (Fu rfl) ?_ | refine Ea (o_lenL rfl rfl rfl) ?_ | refine Ea (o_lenN rfl) ?_
 refine Ea (o_lss rfl rfl) (Ed (Ec (Eb [1, 3, 8] rfl ?_)))
 first | refine Ey rfl ?_ ?_ | refine Ev rfl ?_ ?_
 intro h1
 try rw [nnp] at h1
 refine Fa (Ec (Eb [1, 3] rfl (Eh (Fj (Eh (En (Ea (Ek rfl) (Ea (Eo rfl rfl rfl) (Ea (Ef rfl) (s_iaM rfl rfl (by omega) ?_))))))))))
 intro y2 e2
 try simp only [Int.toNat_natCast, Int.toNat_zero] at e2
 refine Ea (o_fa rfl) (Ea (o_ld rfl rfl) ?_)
 first | refine Ea (Fk rfl) ?_ | refine Ea (Fu rfl) ?_ | refine Ea (o_lenL rfl rfl rfl) ?_ | refine Ea (o_lenN rfl) ?_
 refine Ea (o_gtr rfl rfl) (Ed (Ec (Eb [1, 3, 18] rfl ?_)))
 first | refine Ey rfl ?_ ?_ | refine Ev rfl ?_ ?_
 intro h3
 try rw [nnp] at h3
 refine Eh (En (Ea (Ef rfl) (Ed (Ec (Eb [2] rfl (Ep (Fd (Eu (Fw (Fd (Eu ?_)))))))))))
 refine Eg rfl rfl ?_
 rotate_left
 intro h3
 try rw [nnp] at h3
 refine Fa (q_blkN (Ec (Eb [1, 3] rfl (En (Ea (Ef rfl) ?_)))))
 first | refine Ea (Fs rfl rfl (by omega)) ?_ | refine Ea (o_add rfl rfl) ?_
 refine Ea (Ef rfl) (Ed (q_loopN ?_))
 · exact ⟨i + 1, ⟨by omega, all_take (by assumption) hi.2 (by clear hs hi; simp_all)⟩, by omega, hasOf ⟨rfl, trivial⟩ rfl⟩
 intro h1
 try rw [nnp] at h1
 refine s_exit (q_seqX (q_loopX (q_blkH (Ec (Eb [1] rfl (Eh (En (Ea (Fm rfl rfl rfl) ?_))))))))
 first | refine Ez rfl rfl (c_182 _ (by assumption)) ?_ | refine Ew rfl rfl (by simp) (c_182 _ (by assumption)) rfl ?_
 refine Ea (Ef rfl) (Ed (Ec (Eb [2] rfl (Ep (Eg rfl rfl ?_)))))
 rotate_left
 all_goals
  first | (unfold Bus.idleB; rw [all_no (by assumption : b.ms[i]? = some _) (by clear hs hi; simp_all), Bool.and_false]; done) | (unfold Bus.idleB; rw [all_end hi.2 (by omega), Bool.and_true])
theorem c_112 (x : Bus) (hwx : x.wf) : CV prg 112 [.agg x.r] (fun res => res = .w (.bool true)) := by
 refine Fo g112 (Eb [0] rfl (Eh (En (Ea (o_box rfl rfl rfl) (Ea (Ef rfl) (Ed (Ec (Eb [1] rfl (Eh (En (Ea (Ef rfl) ?_)))))))))))
 refine Ed (Ec (Eb [1, 3] rfl (Eh (En (Ea (Fm rfl rfl rfl) (Ea (Ef rfl) ?_))))))
 first | refine Ez rfl rfl (c_144 _ _ (by (try unfold room at *); omega) (by assumption)) ?_ | refine Ew rfl rfl (by simp) (c_144 _ _ (by (try unfold room at *); omega) (by assumption)) rfl ?_
 refine Ea (Ef rfl) (Ed (Ec (Eb [1, 3] rfl (Eh (Eh (En (Ea (Ef rfl) (Ea (o_lss rfl rfl) (Ed (Ec (Eb [1, 11] rfl ?_)))))))))))
 first | refine Ey rfl ?_ ?_ | refine Ev rfl ?_ ?_
 intro h1
 try rw [nnp] at h1
 try have hsx : x.small := Bus.small_of (by (try unfold room at *); omega)
 try rw [decide_eq_true (rfl : x = x)] at h1
 refine Eh (En (Ea (Ef rfl) (Ed (Ec (Eb [2] rfl (Ep (Eu (Eg rfl rfl ?_))))))))
 rotate_left
 intro h1
 try rw [nnp] at h1
 try have hsx : x.small := Bus.small_of (by (try unfold room at *); omega)
 try rw [decide_eq_true (rfl : x = x)] at h1
 refine Fa (Ec (Eb [1] rfl (Eh (En (Ea (Fm rfl rfl rfl) ?_)))))
 first | refine Ez rfl rfl (c_158 _ (by assumption)) ?_ | refine Ew rfl rfl (by simp) (c_158 _ (by assumption)) rfl ?_
 first | refine Ez rfl rfl (c_199 _ (by assumption)) ?_ | refine Ew rfl rfl (by simp) (c_199 _ (by assumption)) rfl ?_
 refine Ea (Ef rfl) (Ed (Ec (Eb [1, 4] rfl (Eh (En (Ea (Fm rfl rfl rfl) ?_))))))
 first | refine Ez rfl rfl (c_158 _ (by assumption)) ?_ | refine Ew rfl rfl (by simp) (c_158 _ (by assumption)) rfl ?_
 refine Ea (o_new rfl rfl) (Fx (o_stnC rfl rfl rfl rfl rfl rfl rfl) (Ed (Ec (Eb [1, 4, 5] rfl (Eh (En (Ea (Fm rfl rfl rfl) ?_)))))))
 first | refine Ez rfl rfl (c_49 _ (by assumption)) ?_ | refine Ew rfl rfl (by simp) (c_49 _ (by assumption)) rfl ?_
 refine Ea (Ef rfl) (Ed (Ec (Eb [1, 4, 5, 6] rfl (Eh (Eh (En (Ea (Ef rfl) (Ea (Ef rfl) (Ea (o_eqb rfl rfl) (Ed (Ec ?_)))))))))))
 refine Eb [1, 5, 21] rfl ?_
 first | refine Fh rfl ?_ ?_ | refine Ev rfl ?_ ?_
 intro h2
 try rw [nnp] at h2
 try have hsx : x.small := Bus.small_of (by (try unfold room at *); omega)
 try rw [decide_eq_true (rfl : x = x)] at h2
 refine Eh (En (Ea (Ef rfl) (Ed (Ec (Eb [2] rfl (Ep (Eu (Eg rfl rfl ?_))))))))
 rotate_left
 intro h2
 try rw [nnp] at h2
 try have hsx : x.small := Bus.small_of (by (try unfold room at *); omega)
 try rw [decide_eq_true (rfl : x = x)] at h2
 refine Fa (Ec (Eb [1, 5] rfl (Eh (Eh (En (Ea (Fm rfl rfl rfl) (Ea (Fm rfl rfl rfl) ?_)))))))
 first | refine Ez rfl rfl (c_158 _ (by assumption)) ?_ | refine Ew rfl rfl (by simp) (c_158 _ (by assumption)) rfl ?_
 first | refine Ez rfl rfl (c_127 _ _ (by assumption)) ?_ | refine Ew rfl rfl (by simp) (c_127 _ _ (by assumption)) rfl ?_
 refine Ea (Fg rfl) (Ed (Ec (Eb [26] rfl ?_)))
 first | refine Ey rfl ?_ ?_ | refine Fp rfl ?_ ?_ | refine Fh rfl ?_ ?_ | refine Ev rfl ?_ ?_
 intro h3
 try rw [nnp] at h3
 try have hsx : x.small := Bus.small_of (by (try unfold room at *); omega)
 try rw [decide_eq_true (rfl : x = x)] at h3
 refine Eh (En (Ea (Ef rfl) (Ed (Ec (Eb [2] rfl (Ep (Eu (Eg rfl rfl ?_))))))))
 rotate_left
 intro h3
 try rw [nnp] at h3
 try have hsx : x.small := Bus.small_of (by (try unfold room at *); omega)
 try rw [decide_eq_true (rfl : x = x)] at h3
 refine Fa (Ec (Eb [] rfl (Eh (En (Ea (Ef rfl) (Ed (Ec (Eb [2] rfl (Ep (Eg rfl rfl ?_))))))))))
 rotate_left
 all_goals
  simp_all
end Go.Proofs.YtoppcdecolponaaGreat.AL
