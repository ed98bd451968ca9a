/- What functions do with plain data,each by the form of its code. Printed by program. -/
import Derived.Test.YtoppcdecolponaaGreatCGoesFirst1
namespace Go.Proofs.YtoppcdecolponaaGreat.AL
open Go
set_option linter.unusedVariables false
set_option linter.unusedSimpArgs false
set_option maxRecDepth 4096
set_option maxHeartbeats 1000000 in
theorem c_2 (b:Bus) (hs:b.small) (he:b.even):CV prg 2 [.rp b.r 0] (fun res=>res=.w (.bool (beatsB b))):=by
 have hml:b.ms.length≤1048576:=hs.2.1
 have hms:=hs.2.2.1
 have he1:=he.ms
 have he3:=he.splits
 have hcl:b.conf.masters.length≤1048576:=by omega
 have hll:=liveL_le b
 refine cv_in g2 (Ei [0] Y (Et (Ea Y (z_q [0] Y (Ea Y (Fo Y (u_fa Y (u_ld Y Y (Fw Y ?_)))))))))
 refine Fa (o_mk Y Y Y Y (by simp [roomy];omega) Y) (Ea Y (Em [0,3] Y (Ey (Et (Ea Y (Ev Y Y (c_13 b) ?_))))))
 refine Fw Y ?_
 refine Ea Y (Em [0,3,18,19,20] Y (Fh (S_loop (ι:=Nat) (fun j=>j≤(liveL b).length∧((liveL b).take j).all (flyOk b)=true) (fun j=>[(20,.w (.int .i64 (j:Int)))]) (fun j=>[.arr 1 (fl b j)]) (fun j=>(liveL b).length-j) 1 0 (by simp) Y (hasOf ⟨Y,trivial⟩ (by rw[←fl_zero];rfl)) Y (fun _ _=>Y) (fun _ _=>⟨Y,Y⟩) ?_)))
 intro j hj
 have hcn:=cntW_le b j
 refine Ei [0,3,18,19,20] Y (Et (u_lss Y Y (Em [0,3,18,19,20,21] Y (Ey (Ew Y ?_ ?_)))))
 intro h1
 refine z_s [0,3,18,19,20] Y (Ey (Fh (Et (s_iaM Y Y (by omega) ?_))))
 intro y2 e2
 (skip);(skip);(simp only[Int.toNat_natCast,Int.toNat_zero] at e2)
 refine u_ldn Y Y (Fu Y Y (Eo (Er Y Y Y Y Y Y Y) (Em [0,3,5,18,19,20] Y (Ey (Et (Ea Y (Fo Y (u_fa Y (u_ldn Y Y (Ee Y (Ej Y Y Y (Ev Y Y (c_91 b.conf _ hcl) (Fk Y (Ea Y (s_gNF Y ?_ ?_)))))))))))))))
 intro h3
 have h3':=inB_t h3
 refine Ee Y (Ec Y (Ej Y Y Y (Ec Y (Ev Y Y (c_103 ..) (Ec Y (Fk Y (Ed Y Y (Ek (is:=[0,3,5,18,19,20,33,34,35,36,37]) Y (Ea Y (s_gNF Y ?_ ?_))))))))))
 intro h4
 have h4':=inB_t h4
 refine Ea Y (Ec Y (Fo Y (Ec Y (u_fa Y (Ec Y (u_ld Y Y (Ec Y (Ee Y (Ec Y (Ej Y Y Y (Ec Y (s_iaM Y Y (by omega) ?_))))))))))))
 intro y5 e5
 (skip);(have e5s:=sAt_of e5);(skip)
 refine Ec Y (u_ld Y Y (Ec Y (u_neq Y Y (Ed Y Y (Em [0,3,5,18,19,20,33,34,35,36,39,40,41,42,43,44,45,46,47,48] Y (Ew Y ?_ ?_))))))
 intro h6
 refine Et (Ea Y (Em [2] Y (Eh (Ep (Fc (Ep (q_loopR (Fc (Ep (Ef Y Y ?_))))))))))
 rotate_left
 intro h6
 rw[nnp] at h6
 refine z_s [0,3,5,18,19,20,33,34,35,36,39,40,41,42,43,44,45,46,47] Y (Fs (Ea Y (Ee Y (Ej Y Y Y (Fa (o_iaL Y Y (by simp [fl_len]) Y (by simp;omega)) (u_ldA Y Y (by simp [fl_len]) (by exact fl_at b j (by omega)) Y ?_))))))
 refine Fa (Fn Y Y (by exact cntW_add (hcn _))) ?_
 refine Fa (o_iaL Y Y (by simp [fl_len]) Y (by simp;omega)) (Eo (o_stA Y Y Y Y (by simp [fl_len]) (by exact fl_at b j (by omega)) Y Y) (Ez (Fb (Eu (Ei [0,3,18,19,20,33,34,35,36,39,40,41,42,43,44,45,46,47] Y (Fs ?_))))))
 refine Fa (Fn Y Y (by omega)) (Ea Y (Ez (Fp ?_)))
 ·refine⟨j+1,⟨by omega,all_take (by assumption) hj.2 (by clear hs hj;simp_all [flyOk])⟩,by omega,hasOf ⟨rfl,trivial⟩ ?_⟩
  rw[←fl_step (by assumption) (by omega) (by omega)];rfl
 intro h4
 iterate 9 refine Eb rfl ?_
 refine Eg Y Y (Em [0,3,5,18,19,20,33,34,35,36,39,40,41,42,43,44,45,46,47,48] Y (Fd Y (Et (Ea Y (Em [2] Y (Eh (Ep (Fc (Ep (q_loopR (Fc (Ep (Ef Y Y ?_)))))))))))))
 rotate_left
 intro h3
 refine Eb Y (Eb Y (Eb Y (Eb Y (Eg Y Y (Ek (is:=[0,3,5,18,19,20,33,34,35,36,37]) Y (Ea Y ?_))))))
 iterate 9 refine Eb rfl ?_
 refine Eg Y Y (Em [0,3,5,18,19,20,33,34,35,36,39,40,41,42,43,44,45,46,47,48] Y (Fd Y (Et (Ea Y (Em [2] Y (Eh (Ep (Fc (Ep (q_loopR (Fc (Ep (Ef Y Y ?_)))))))))))))
 rotate_left
 intro h1
 refine s_exit (q_seqX (q_loopX (q_blkH (Eu (Ei [0,3] Y (Ey (Et (Ea Y (Fo Y (u_fa Y (u_ld Y Y (Fw Y (Ea Y (Em [0,3,60,61,62] Y (Fh ?_)))))))))))))))
 have hfly:=all_end hj.2 (by omega)
 obtain rfl:j=(liveL b).length:=by omega
 refine S_loop (ι:=Nat) (fun i=>i≤b.ms.length∧(List.range i).all (wOkAt b)=true) (fun i=>[(62,.w (.int .i64 (i:Int)))]) (fun i=>[.arr 1 (fl b (liveL b).length)]) (fun i=>b.ms.length-i) 1 0 (by simp) Y (hasOf ⟨Y,trivial⟩ Y) Y (fun _ _=>Y) (fun _ _=>⟨Y,Y⟩) ?_
 intro i hi
 have hcw:=cnt_ways b i
 refine Ei [0,3,60,61,62] Y (Et (u_lss Y Y (Em [0,3,60,61,62,63] Y (Ey (Ew Y ?_ ?_)))))
 intro h9
 refine z_s [0,3,60,61,62] Y (Ey (Fh (Et (Ea Y (s_iaM Y Y (by omega) ?_)))))
 intro y10 e10
 (have e10m:=mAt_of e10);(skip);(simp only[Int.toNat_natCast,Int.toNat_zero] at e10)
 refine u_ldn Y Y (Fu Y Y (Ea Y (Eo (Er Y Y Y Y Y Y Y) (z_q [0,3,6,7,60,61,62] Y (Ee Y (Ej Y Y Y (Ee Y (Ej Y Y Y (u_sub Y Y ?_)))))))))
 refine Ea Y (Ea Y (Fa (o_iaL Y Y (by simp [fl_len]) Y (by simp;omega)) (u_ldA Y Y (by simp [fl_len]) (by rw[Int.toNat_natCast];exact fl_at b (liveL b).length (by omega)) Y (u_neq Y Y (Em [0,3,60,61,62,76] Y ?_)))))
 refine Ew Y ?_ ?_
 intro h12
 refine Et (Ea Y (Em [2] Y (Eh (Fc (Ep (q_loopR (Fc (Ep (Ef Y Y ?_)))))))))
 rotate_left
 intro h12
 rw[nnp] at h12
 refine Fr (Fb (Eu (Ei [0,3,60,61,62] Y (Fs (Fa (Fn Y Y (by omega)) (Ea Y (Ez (Fp ?_))))))))
 ·exact⟨i+1,⟨by omega,rall_succ hi.2 (by clear hs hi hfly;simp_all [wOkAt])⟩,by omega,hasOf ⟨rfl,trivial⟩ rfl⟩
 intro h9
 refine s_exit (q_seqX (q_loopX (q_blkH (Eu (Ei [0] Y (Ey (Et (Ea Y (Fo Y (u_fa Y (u_ldn Y Y (Fu Y Y (Eo (Er Y Y Y Y Y Y Y) (z_q [0,8] Y (Ee Y (Ej Y Y Y (Ea Y (s_gB Y ?_ ?_))))))))))))))))))
 intro h13
 refine Ee Y (Ec Y (Ej Y Y Y (Ec Y (Ea Y (Ec Y (Fo Y (Ec Y (u_fa Y (Ec Y (u_ld Y Y (Ec Y ?_)))))))))))
 refine Ee Y (Ec Y (Ej Y Y Y (Ec Y (s_iaM Y Y (by have:=fly_bd (fly_A hfly (by assumption));omega) ?_))))
 intro y14 e14
 (have e14m:=mAt_of e14);(skip);(skip)
 refine Ec Y (u_fa Y (Ec Y (u_ld Y Y (Ek (is:=[0,8,84,86,95]) Y (Ec Y (u_sub Y Y (Ec Y (u_neq Y Y (Ec Y (Ea Y (s_gDF Y ?_ ?_)))))))))))
 intro h15
 rw[nnp] at h15
 refine Ee Y (Ec Y (Ej Y Y Y (Ec Y (u_neq Y Y (Ec Y (Ed Y Y (Ec Y (Ea Y (s_gDF Y ?_ ?_)))))))))
 intro h16
 rw[nnp] at h16
 refine Ee Y (Ec Y (Ej Y Y Y (Ec Y (u_neq Y Y (Ec Y (Ed Y Y (Ec Y (Ea Y (s_gDF Y ?_ ?_)))))))))
 intro h17
 rw[nnp] at h17
 refine Ee Y (Ek (is:=[0,8,84,108,109]) Y (Ec Y (Ej Y Y Y (Ec Y (Ed Y Y (Eg Y Y (Ea Y (s_gB Y ?_ ?_))))))))
 intro h18
 refine Ee Y (Ec Y (Ej Y Y Y (Ec Y (Fk Y (Ec Y (Ea Y (s_gNT Y ?_ ?_)))))))
 intro h19
 refine En Y Y Y (Ec Y (u_bd Y Y (Ec Y (u_eqs Y Y Y Y Y (Ec Y (Eg Y Y (Ed Y Y (Em [0,122] Y (s_condNB Y ?_ ?_)))))))))
 intro h20
 have h20':=Beat.no_beq (y:=Beat.none) h20
 refine Et (Ea Y (Em [2] Y (Eh (Ep (Ef Y Y ?_)))))
 rotate_left
 intro h20
 have h20':=Beat.of_beq (y:=Beat.none) h20
 refine z_s [0] Y (Et (Ea Y (Fo Y (u_fa Y (u_ldn Y Y (Fu Y Y (Eo (Er Y Y Y Y Y Y Y) (Em [0,9] Y (Ey (Et (Ee Y (Ej Y Y Y (Fk Y (Em [0,9,129] Y (s_condNB Y ?_ ?_)))))))))))))))
 intro h21
 refine Et (En Y Y Y (u_bd Y Y (u_eqs Y Y Y Y Y (Ea Y (Em [2] Y (Eh (Ep (Ef Y Y ?_))))))))
 rotate_left
 intro h21
 refine z_s [0,9] Y (Et (Ea Y (Fo Y (u_fa Y (u_ld Y Y (Ee Y (Ej Y Y Y (s_iaM Y Y (by have:=fly_bd (fly_D hfly (by assumption));omega) ?_))))))))
 intro y22 e22
 (have e22m:=mAt_of e22);(skip);(skip)
 refine u_ldn Y Y (Fu Y Y (Eo (Er Y Y Y Y Y Y Y) (Em [0,9,10] Y (Ey (Fh (Et (Ee Y (Ej Y Y Y (Ee Y (Ej Y Y Y (u_neq Y Y (Ea Y (s_gDF Y ?_ ?_)))))))))))))
 intro h23
 rw[nnp] at h23
 refine Ee Y (Ec Y (Ej Y Y Y (Ec Y (Ea Y (Ec Y (Fo Y (Ec Y (u_fa Y (Ec Y (u_fa Y (Ec Y (u_ld Y Y (Ec Y (u_add Y Y (Ek (is:=[0,9,10,147,149,155]) Y (Ec Y (Ev Y Y (c_103 ..) (Ec Y (Fk Y (Ed Y Y (Ea Y (s_gNF Y ?_ ?_))))))))))))))))))))))
 intro h24
 have h24':=inB_t h24
 refine Ee Y (Ec Y (Ej Y Y Y (Ec Y (Ev Y Y (c_103 ..) (Ec Y (Fk Y (Ed Y Y (Ea Y (Em [0,9,10,141] Y (s_condNB Y ?_ ?_))))))))))
 intro h25
 refine Et (Ea Y (Em [2] Y (Eh (Fc (Ep (Ef Y Y ?_))))))
 rotate_left
 intro h25
 have h25':=inB_t h25
 refine Et (Ee Y (Ej Y Y Y (Fm Y Y (Ea Y (Ft Y ?_ ?_)))))
 intro h26
 refine Ee Y (Ec Y (Ej Y Y Y (Ec Y (Ea Y (Ec Y (Fo Y (Ec Y (u_fa Y (Ec Y (u_fa Y (Ec Y (u_ld Y Y (Ec Y (u_geq Y Y (Eg Y Y (Ea Y (Em [0,9,10,165] Y (Ew Y ?_ ?_))))))))))))))))))
 intro h27
 refine Et (Ea Y (Em [2] Y (Eh (Fc (Ep (Ef Y Y ?_))))))
 rotate_left
 intro h27
 refine Et (Ee Y (Ej Y Y Y (Fm Y Y (Ea Y (Ft Y ?_ ?_)))))
 intro h28
 refine Ee Y (Ec Y (Ej Y Y Y (Ec Y (Ea Y (s_gB Y ?_ ?_)))))
 intro h29
 refine Ee Y (Ec Y (Ej Y Y Y (Ec Y (Ea Y (Ec Y (Fo Y (Ec Y (u_fa Y (Ec Y (u_ld Y Y (Ec Y (Fm Y Y (Ek (is:=[0,9,183,186,193]) Y (Ec Y (Ed Y Y (Eg Y Y (Ea Y (Em [0,9,179] Y (Ew Y ?_ ?_)))))))))))))))))))
 intro h30
 refine Et (Ea Y (Em [2] Y (Eh (Fc (Ep (Ef Y Y ?_))))))
 rotate_left
 intro h30
 refine Fr (Fb (Eu (Ei [0,9] Y (Et (Ee Y (Ej Y Y Y (Fk Y (Ea Y (s_gNF Y ?_ ?_)))))))))
 intro h31
 refine Ee Y (Ec Y (Ej Y Y Y (Ec Y (Fm Y Y (Ec Y (Ea Y (Ft Y ?_ ?_)))))))
 intro h32
 refine Ee Y (Ec Y (Ej Y Y Y (Ec Y (u_neq Y Y (Ec Y (Eg Y Y (Ec Y (Ea Y (Ft Y ?_ ?_)))))))))
 intro h33
 refine Ea Y (Ek (is:=[199,208,209]) Y (Ec Y (Fo Y (Ec Y (u_fa Y (Ec Y (u_fa Y (Ec Y (u_ld Y Y (Ec Y (Fk Y (Ec Y (Eg Y Y (Ed Y Y (Ea Y (Em [2] Y (Eh (Ef Y Y ?_))))))))))))))))))
 rotate_left
 intro h33
 rw[nnp] at h33
 refine Eb Y (Ek (is:=[199,208,209]) Y (Eb Y (Eb Y (Eb Y (Eb Y (Eb Y (Ec Y (Ed Y Y (Ed Y Y (Ea Y (Em [2] Y (Eh (Ef Y Y ?_)))))))))))))
 rotate_left
 intro h32
 refine Eb Y (Eb Y (Eb Y (Ec Y (Ed Y Y (Ec Y (Ea Y (Eb Y (Ek (is:=[199,208,209]) Y (Eb Y (Eb Y (Eb Y (Eb Y (Eb Y (Ec Y (Ed Y Y (Ed Y Y (Ea Y (Em [2] Y (Eh (Ef Y Y ?_))))))))))))))))))))
 rotate_left
 intro h31
 refine Eb Y (Eb Y (Eb Y (Eb Y (Ff Y (Ff Y (Ff Y (Eb Y (Eb Y (Ff Y (Ek (is:=[199,208,209]) Y (Ff Y (Ff Y (Ff Y (Ff Y (Ff Y (Eb Y (Eg Y Y (Ea Y (Em [2] Y (Eh (Ef Y Y ?_)))))))))))))))))))))
 rotate_left
 intro h29
 iterate 7 refine Eb rfl ?_
 refine Ek (is:=[0,9,183,186,193]) Y (Ec Y (Eg Y Y (Eg Y Y (Ea Y (Em [0,9,179] Y (Fd Y (Et (Ea Y (Em [2] Y (Eh (Fc (Ep (Ef Y Y ?_)))))))))))))
 rotate_left
 intro h28
 refine Eb Y (Eb Y (Eb Y ?_))
 iterate 7 refine Ff rfl ?_
 refine Ek (is:=[0,9,183,186,193]) Y (Eb Y (Ed Y Y (Ea Y (Em [0,9,179] Y (Fi Y (Fr (Fb (Eu (Ei [0,9] Y (Et (Ee Y (Ej Y Y Y (Fk Y (Ea Y (s_gNF Y ?_ ?_)))))))))))))))
 intro h34
 refine Ee Y (Ec Y (Ej Y Y Y (Ec Y (Fm Y Y (Ec Y (Ea Y (Ft Y ?_ ?_)))))))
 intro h35
 refine Ee Y (Ec Y (Ej Y Y Y (Ec Y (u_neq Y Y (Ec Y (Eg Y Y (Ec Y (Ea Y (Ft Y ?_ ?_)))))))))
 intro h36
 refine Ea Y (Ek (is:=[199,208,209]) Y (Ec Y (Fo Y (Ec Y (u_fa Y (Ec Y (u_fa Y (Ec Y (u_ld Y Y (Ec Y (Fk Y (Ec Y (Eg Y Y (Ed Y Y (Ea Y (Em [2] Y (Eh (Ef Y Y ?_))))))))))))))))))
 rotate_left
 intro h36
 rw[nnp] at h36
 refine Eb Y (Ek (is:=[199,208,209]) Y (Eb Y (Eb Y (Eb Y (Eb Y (Eb Y (Ec Y (Ed Y Y (Ed Y Y (Ea Y (Em [2] Y (Eh (Ef Y Y ?_)))))))))))))
 rotate_left
 intro h35
 refine Eb Y (Eb Y (Eb Y (Ec Y (Ed Y Y (Ec Y (Ea Y (Eb Y (Ek (is:=[199,208,209]) Y (Eb Y (Eb Y (Eb Y (Eb Y (Eb Y (Ec Y (Ed Y Y (Ed Y Y (Ea Y (Em [2] Y (Eh (Ef Y Y ?_))))))))))))))))))))
 rotate_left
 intro h34
 refine Eb Y (Eb Y (Eb Y (Eb Y (Ff Y (Ff Y (Ff Y (Eb Y (Eb Y (Ff Y (Ek (is:=[199,208,209]) Y (Ff Y (Ff Y (Ff Y (Ff Y (Ff Y (Eb Y (Eg Y Y (Ea Y (Em [2] Y (Eh (Ef Y Y ?_)))))))))))))))))))))
 rotate_left
 intro h26
 iterate 8 refine Eb rfl ?_
 refine Ed Y Y (Ea Y (Em [0,9,10,165] Y (Fi Y (Et (Ee Y (Ej Y Y Y (Fm Y Y (Ea Y (Ft Y ?_ ?_)))))))))
 intro h37
 refine Ee Y (Ec Y (Ej Y Y Y (Ec Y (Ea Y (s_gB Y ?_ ?_)))))
 intro h38
 refine Ee Y (Ec Y (Ej Y Y Y (Ec Y (Ea Y (Ec Y (Fo Y (Ec Y (u_fa Y (Ec Y (u_ld Y Y (Ec Y (Fm Y Y (Ek (is:=[0,9,183,186,193]) Y (Ec Y (Ed Y Y (Eg Y Y (Ea Y (Em [0,9,179] Y (Ew Y ?_ ?_)))))))))))))))))))
 intro h39
 refine Et (Ea Y (Em [2] Y (Eh (Fc (Ep (Ef Y Y ?_))))))
 rotate_left
 intro h39
 refine Fr (Fb (Eu (Ei [0,9] Y (Et (Ee Y (Ej Y Y Y (Fk Y (Ea Y (s_gNF Y ?_ ?_)))))))))
 intro h40
 refine Ee Y (Ec Y (Ej Y Y Y (Ec Y (Fm Y Y (Ec Y (Ea Y (Ft Y ?_ ?_)))))))
 intro h41
 refine Ee Y (Ec Y (Ej Y Y Y (Ec Y (u_neq Y Y (Ec Y (Eg Y Y (Ec Y (Ea Y (Ft Y ?_ ?_)))))))))
 intro h42
 refine Ea Y (Ek (is:=[199,208,209]) Y (Ec Y (Fo Y (Ec Y (u_fa Y (Ec Y (u_fa Y (Ec Y (u_ld Y Y (Ec Y (Fk Y (Ec Y (Eg Y Y (Ed Y Y (Ea Y (Em [2] Y (Eh (Ef Y Y ?_))))))))))))))))))
 rotate_left
 intro h42
 rw[nnp] at h42
 refine Eb Y (Ek (is:=[199,208,209]) Y (Eb Y (Eb Y (Eb Y (Eb Y (Eb Y (Ec Y (Ed Y Y (Ed Y Y (Ea Y (Em [2] Y (Eh (Ef Y Y ?_)))))))))))))
 rotate_left
 intro h41
 refine Eb Y (Eb Y (Eb Y (Ec Y (Ed Y Y (Ec Y (Ea Y (Eb Y (Ek (is:=[199,208,209]) Y (Eb Y (Eb Y (Eb Y (Eb Y (Eb Y (Ec Y (Ed Y Y (Ed Y Y (Ea Y (Em [2] Y (Eh (Ef Y Y ?_))))))))))))))))))))
 rotate_left
 intro h40
 refine Eb Y (Eb Y (Eb Y (Eb Y (Ff Y (Ff Y (Ff Y (Eb Y (Eb Y (Ff Y (Ek (is:=[199,208,209]) Y (Ff Y (Ff Y (Ff Y (Ff Y (Ff Y (Eb Y (Eg Y Y (Ea Y (Em [2] Y (Eh (Ef Y Y ?_)))))))))))))))))))))
 rotate_left
 intro h38
 iterate 7 refine Eb rfl ?_
 refine Ek (is:=[0,9,183,186,193]) Y (Ec Y (Eg Y Y (Eg Y Y (Ea Y (Em [0,9,179] Y (Fd Y (Et (Ea Y (Em [2] Y (Eh (Fc (Ep (Ef Y Y ?_)))))))))))))
 rotate_left
 intro h37
 refine Eb Y (Eb Y (Eb Y ?_))
 iterate 7 refine Ff rfl ?_
 refine Ek (is:=[0,9,183,186,193]) Y (Eb Y (Ed Y Y (Ea Y (Em [0,9,179] Y (Fi Y (Fr (Fb (Eu (Ei [0,9] Y (Et (Ee Y (Ej Y Y Y (Fk Y (Ea Y (s_gNF Y ?_ ?_)))))))))))))))
 intro h43
 refine Ee Y (Ec Y (Ej Y Y Y (Ec Y (Fm Y Y (Ec Y (Ea Y (Ft Y ?_ ?_)))))))
 intro h44
 refine Ee Y (Ec Y (Ej Y Y Y (Ec Y (u_neq Y Y (Ec Y (Eg Y Y (Ec Y (Ea Y (Ft Y ?_ ?_)))))))))
 intro h45
 refine Ea Y (Ek (is:=[199,208,209]) Y (Ec Y (Fo Y (Ec Y (u_fa Y (Ec Y (u_fa Y (Ec Y (u_ld Y Y (Ec Y (Fk Y (Ec Y (Eg Y Y (Ed Y Y (Ea Y (Em [2] Y (Eh (Ef Y Y ?_))))))))))))))))))
 rotate_left
 intro h45
 rw[nnp] at h45
 refine Eb Y (Ek (is:=[199,208,209]) Y (Eb Y (Eb Y (Eb Y (Eb Y (Eb Y (Ec Y (Ed Y Y (Ed Y Y (Ea Y (Em [2] Y (Eh (Ef Y Y ?_)))))))))))))
 rotate_left
 intro h44
 refine Eb Y (Eb Y (Eb Y (Ec Y (Ed Y Y (Ec Y (Ea Y (Eb Y (Ek (is:=[199,208,209]) Y (Eb Y (Eb Y (Eb Y (Eb Y (Eb Y (Ec Y (Ed Y Y (Ed Y Y (Ea Y (Em [2] Y (Eh (Ef Y Y ?_))))))))))))))))))))
 rotate_left
 intro h43
 refine Eb Y (Eb Y (Eb Y (Eb Y (Ff Y (Ff Y (Ff Y (Eb Y (Eb Y (Ff Y (Ek (is:=[199,208,209]) Y (Ff Y (Ff Y (Ff Y (Ff Y (Ff Y (Eb Y (Eg Y Y (Ea Y (Em [2] Y (Eh (Ef Y Y ?_)))))))))))))))))))))
 rotate_left
 intro h24
 refine Eb Y (Eb Y (Eb Y (Eb Y (Eg Y Y (Ea Y (Em [0,9,10,141] Y (Fd Y (Et (Ea Y (Em [2] Y (Eh (Fc (Ep (Ef Y Y ?_))))))))))))))
 rotate_left
 intro h23
 iterate 8 refine Eb rfl ?_
 refine Ek (is:=[0,9,10,147,149,155]) Y (Eb Y (Eb Y (Eg Y Y (Ea Y (Eb Y (Eb Y (Eb Y (Eb Y (Eg Y Y (Ea Y (Em [0,9,10,141] Y (Fd Y (Et (Ea Y (Em [2] Y (Eh (Fc (Ep (Ef Y Y ?_)))))))))))))))))))
 rotate_left
 intro h19
 refine Eb Y (Eb Y (Eb Y (Ec Y (Ed Y Y (Ed Y Y (Em [0,122] Y (Fi Y (z_s [0] Y (Et (Ea Y (Fo Y (u_fa Y (u_ldn Y Y (Fu Y Y (Eo (Er Y Y Y Y Y Y Y) (Em [0,9] Y (Ey (Et (Ee Y (Ej Y Y Y (Fk Y (Em [0,9,129] Y (s_condNB Y ?_ ?_)))))))))))))))))))))))
 intro h46
 refine Et (En Y Y Y (u_bd Y Y (u_eqs Y Y Y Y Y (Ea Y (Em [2] Y (Eh (Ep (Ef Y Y ?_))))))))
 rotate_left
 intro h46
 refine z_s [0,9] Y (Et (Ea Y (Fo Y (u_fa Y (u_ld Y Y (Ee Y (Ej Y Y Y (s_iaM Y Y (by have:=fly_bd (fly_D hfly (by assumption));omega) ?_))))))))
 intro y47 e47
 (have e47m:=mAt_of e47);(skip);(skip)
 refine u_ldn Y Y (Fu Y Y (Eo (Er Y Y Y Y Y Y Y) (Em [0,9,10] Y (Ey (Fh (Et (Ee Y (Ej Y Y Y (Ee Y (Ej Y Y Y (u_neq Y Y (Ea Y (s_gDF Y ?_ ?_)))))))))))))
 intro h48
 rw[nnp] at h48
 refine Ee Y (Ec Y (Ej Y Y Y (Ec Y (Ea Y (Ec Y (Fo Y (Ec Y (u_fa Y (Ec Y (u_fa Y (Ec Y (u_ld Y Y (Ec Y (u_add Y Y (Ek (is:=[0,9,10,147,149,155]) Y (Ec Y (Ev Y Y (c_103 ..) (Ec Y (Fk Y (Ed Y Y (Ea Y (s_gNF Y ?_ ?_))))))))))))))))))))))
 intro h49
 have h49':=inB_t h49
 refine Ee Y (Ec Y (Ej Y Y Y (Ec Y (Ev Y Y (c_103 ..) (Ec Y (Fk Y (Ed Y Y (Ea Y (Em [0,9,10,141] Y (s_condNB Y ?_ ?_))))))))))
 intro h50
 refine Et (Ea Y (Em [2] Y (Eh (Fc (Ep (Ef Y Y ?_))))))
 rotate_left
 intro h50
 have h50':=inB_t h50
 refine Et (Ee Y (Ej Y Y Y (Fm Y Y (Ea Y (Ft Y ?_ ?_)))))
 intro h51
 refine Ee Y (Ec Y (Ej Y Y Y (Ec Y (Ea Y (Ec Y (Fo Y (Ec Y (u_fa Y (Ec Y (u_fa Y (Ec Y (u_ld Y Y (Ec Y (u_geq Y Y (Eg Y Y (Ea Y (Em [0,9,10,165] Y (Ew Y ?_ ?_))))))))))))))))))
 intro h52
 refine Et (Ea Y (Em [2] Y (Eh (Fc (Ep (Ef Y Y ?_))))))
 rotate_left
 intro h52
 refine Et (Ee Y (Ej Y Y Y (Fm Y Y (Ea Y (Ft Y ?_ ?_)))))
 intro h53
 refine Ee Y (Ec Y (Ej Y Y Y (Ec Y (Ea Y (s_gB Y ?_ ?_)))))
 intro h54
 refine Ee Y (Ec Y (Ej Y Y Y (Ec Y (Ea Y (Ec Y (Fo Y (Ec Y (u_fa Y (Ec Y (u_ld Y Y (Ec Y (Fm Y Y (Ek (is:=[0,9,183,186,193]) Y (Ec Y (Ed Y Y (Eg Y Y (Ea Y (Em [0,9,179] Y (Ew Y ?_ ?_)))))))))))))))))))
 intro h55
 refine Et (Ea Y (Em [2] Y (Eh (Fc (Ep (Ef Y Y ?_))))))
 rotate_left
 intro h55
 refine Fr (Fb (Eu (Ei [0,9] Y (Et (Ee Y (Ej Y Y Y (Fk Y (Ea Y (s_gNF Y ?_ ?_)))))))))
 intro h56
 refine Ee Y (Ec Y (Ej Y Y Y (Ec Y (Fm Y Y (Ec Y (Ea Y (Ft Y ?_ ?_)))))))
 intro h57
 refine Ee Y (Ec Y (Ej Y Y Y (Ec Y (u_neq Y Y (Ec Y (Eg Y Y (Ec Y (Ea Y (Ft Y ?_ ?_)))))))))
 intro h58
 refine Ea Y (Ek (is:=[199,208,209]) Y (Ec Y (Fo Y (Ec Y (u_fa Y (Ec Y (u_fa Y (Ec Y (u_ld Y Y (Ec Y (Fk Y (Ec Y (Eg Y Y (Ed Y Y (Ea Y (Em [2] Y (Eh (Ef Y Y ?_))))))))))))))))))
 rotate_left
 intro h58
 rw[nnp] at h58
 refine Eb Y (Ek (is:=[199,208,209]) Y (Eb Y (Eb Y (Eb Y (Eb Y (Eb Y (Ec Y (Ed Y Y (Ed Y Y (Ea Y (Em [2] Y (Eh (Ef Y Y ?_)))))))))))))
 rotate_left
 intro h57
 refine Eb Y (Eb Y (Eb Y (Ec Y (Ed Y Y (Ec Y (Ea Y (Eb Y (Ek (is:=[199,208,209]) Y (Eb Y (Eb Y (Eb Y (Eb Y (Eb Y (Ec Y (Ed Y Y (Ed Y Y (Ea Y (Em [2] Y (Eh (Ef Y Y ?_))))))))))))))))))))
 rotate_left
 intro h56
 refine Eb Y (Eb Y (Eb Y (Eb Y (Ff Y (Ff Y (Ff Y (Eb Y (Eb Y (Ff Y (Ek (is:=[199,208,209]) Y (Ff Y (Ff Y (Ff Y (Ff Y (Ff Y (Eb Y (Eg Y Y (Ea Y (Em [2] Y (Eh (Ef Y Y ?_)))))))))))))))))))))
 rotate_left
 intro h54
 iterate 7 refine Eb rfl ?_
 refine Ek (is:=[0,9,183,186,193]) Y (Ec Y (Eg Y Y (Eg Y Y (Ea Y (Em [0,9,179] Y (Fd Y (Et (Ea Y (Em [2] Y (Eh (Fc (Ep (Ef Y Y ?_)))))))))))))
 rotate_left
 intro h53
 refine Eb Y (Eb Y (Eb Y ?_))
 iterate 7 refine Ff rfl ?_
 refine Ek (is:=[0,9,183,186,193]) Y (Eb Y (Ed Y Y (Ea Y (Em [0,9,179] Y (Fi Y (Fr (Fb (Eu (Ei [0,9] Y (Et (Ee Y (Ej Y Y Y (Fk Y (Ea Y (s_gNF Y ?_ ?_)))))))))))))))
 intro h59
 refine Ee Y (Ec Y (Ej Y Y Y (Ec Y (Fm Y Y (Ec Y (Ea Y (Ft Y ?_ ?_)))))))
 intro h60
 refine Ee Y (Ec Y (Ej Y Y Y (Ec Y (u_neq Y Y (Ec Y (Eg Y Y (Ec Y (Ea Y (Ft Y ?_ ?_)))))))))
 intro h61
 refine Ea Y (Ek (is:=[199,208,209]) Y (Ec Y (Fo Y (Ec Y (u_fa Y (Ec Y (u_fa Y (Ec Y (u_ld Y Y (Ec Y (Fk Y (Ec Y (Eg Y Y (Ed Y Y (Ea Y (Em [2] Y (Eh (Ef Y Y ?_))))))))))))))))))
 rotate_left
 intro h61
 rw[nnp] at h61
 refine Eb Y (Ek (is:=[199,208,209]) Y (Eb Y (Eb Y (Eb Y (Eb Y (Eb Y (Ec Y (Ed Y Y (Ed Y Y (Ea Y (Em [2] Y (Eh (Ef Y Y ?_)))))))))))))
 rotate_left
 intro h60
 refine Eb Y (Eb Y (Eb Y (Ec Y (Ed Y Y (Ec Y (Ea Y (Eb Y (Ek (is:=[199,208,209]) Y (Eb Y (Eb Y (Eb Y (Eb Y (Eb Y (Ec Y (Ed Y Y (Ed Y Y (Ea Y (Em [2] Y (Eh (Ef Y Y ?_))))))))))))))))))))
 rotate_left
 intro h59
 refine Eb Y (Eb Y (Eb Y (Eb Y (Ff Y (Ff Y (Ff Y (Eb Y (Eb Y (Ff Y (Ek (is:=[199,208,209]) Y (Ff Y (Ff Y (Ff Y (Ff Y (Ff Y (Eb Y (Eg Y Y (Ea Y (Em [2] Y (Eh (Ef Y Y ?_)))))))))))))))))))))
 rotate_left
 intro h51
 iterate 8 refine Eb rfl ?_
 refine Ed Y Y (Ea Y (Em [0,9,10,165] Y (Fi Y (Et (Ee Y (Ej Y Y Y (Fm Y Y (Ea Y (Ft Y ?_ ?_)))))))))
 intro h62
 refine Ee Y (Ec Y (Ej Y Y Y (Ec Y (Ea Y (s_gB Y ?_ ?_)))))
 intro h63
 refine Ee Y (Ec Y (Ej Y Y Y (Ec Y (Ea Y (Ec Y (Fo Y (Ec Y (u_fa Y (Ec Y (u_ld Y Y (Ec Y (Fm Y Y (Ek (is:=[0,9,183,186,193]) Y (Ec Y (Ed Y Y (Eg Y Y (Ea Y (Em [0,9,179] Y (Ew Y ?_ ?_)))))))))))))))))))
 intro h64
 refine Et (Ea Y (Em [2] Y (Eh (Fc (Ep (Ef Y Y ?_))))))
 rotate_left
 intro h64
 refine Fr (Fb (Eu (Ei [0,9] Y (Et (Ee Y (Ej Y Y Y (Fk Y (Ea Y (s_gNF Y ?_ ?_)))))))))
 intro h65
 refine Ee Y (Ec Y (Ej Y Y Y (Ec Y (Fm Y Y (Ec Y (Ea Y (Ft Y ?_ ?_)))))))
 intro h66
 refine Ee Y (Ec Y (Ej Y Y Y (Ec Y (u_neq Y Y (Ec Y (Eg Y Y (Ec Y (Ea Y (Ft Y ?_ ?_)))))))))
 intro h67
 refine Ea Y (Ek (is:=[199,208,209]) Y (Ec Y (Fo Y (Ec Y (u_fa Y (Ec Y (u_fa Y (Ec Y (u_ld Y Y (Ec Y (Fk Y (Ec Y (Eg Y Y (Ed Y Y (Ea Y (Em [2] Y (Eh (Ef Y Y ?_))))))))))))))))))
 rotate_left
 intro h67
 rw[nnp] at h67
 refine Eb Y (Ek (is:=[199,208,209]) Y (Eb Y (Eb Y (Eb Y (Eb Y (Eb Y (Ec Y (Ed Y Y (Ed Y Y (Ea Y (Em [2] Y (Eh (Ef Y Y ?_)))))))))))))
 rotate_left
 intro h66
 refine Eb Y (Eb Y (Eb Y (Ec Y (Ed Y Y (Ec Y (Ea Y (Eb Y (Ek (is:=[199,208,209]) Y (Eb Y (Eb Y (Eb Y (Eb Y (Eb Y (Ec Y (Ed Y Y (Ed Y Y (Ea Y (Em [2] Y (Eh (Ef Y Y ?_))))))))))))))))))))
 rotate_left
 intro h65
 refine Eb Y (Eb Y (Eb Y (Eb Y (Ff Y (Ff Y (Ff Y (Eb Y (Eb Y (Ff Y (Ek (is:=[199,208,209]) Y (Ff Y (Ff Y (Ff Y (Ff Y (Ff Y (Eb Y (Eg Y Y (Ea Y (Em [2] Y (Eh (Ef Y Y ?_)))))))))))))))))))))
 rotate_left
 intro h63
 iterate 7 refine Eb rfl ?_
 refine Ek (is:=[0,9,183,186,193]) Y (Ec Y (Eg Y Y (Eg Y Y (Ea Y (Em [0,9,179] Y (Fd Y (Et (Ea Y (Em [2] Y (Eh (Fc (Ep (Ef Y Y ?_)))))))))))))
 rotate_left
 intro h62
 refine Eb Y (Eb Y (Eb Y ?_))
 iterate 7 refine Ff rfl ?_
 refine Ek (is:=[0,9,183,186,193]) Y (Eb Y (Ed Y Y (Ea Y (Em [0,9,179] Y (Fi Y (Fr (Fb (Eu (Ei [0,9] Y (Et (Ee Y (Ej Y Y Y (Fk Y (Ea Y (s_gNF Y ?_ ?_)))))))))))))))
 intro h68
 refine Ee Y (Ec Y (Ej Y Y Y (Ec Y (Fm Y Y (Ec Y (Ea Y (Ft Y ?_ ?_)))))))
 intro h69
 refine Ee Y (Ec Y (Ej Y Y Y (Ec Y (u_neq Y Y (Ec Y (Eg Y Y (Ec Y (Ea Y (Ft Y ?_ ?_)))))))))
 intro h70
 refine Ea Y (Ek (is:=[199,208,209]) Y (Ec Y (Fo Y (Ec Y (u_fa Y (Ec Y (u_fa Y (Ec Y (u_ld Y Y (Ec Y (Fk Y (Ec Y (Eg Y Y (Ed Y Y (Ea Y (Em [2] Y (Eh (Ef Y Y ?_))))))))))))))))))
 rotate_left
 intro h70
 rw[nnp] at h70
 refine Eb Y (Ek (is:=[199,208,209]) Y (Eb Y (Eb Y (Eb Y (Eb Y (Eb Y (Ec Y (Ed Y Y (Ed Y Y (Ea Y (Em [2] Y (Eh (Ef Y Y ?_)))))))))))))
 rotate_left
 intro h69
 refine Eb Y (Eb Y (Eb Y (Ec Y (Ed Y Y (Ec Y (Ea Y (Eb Y (Ek (is:=[199,208,209]) Y (Eb Y (Eb Y (Eb Y (Eb Y (Eb Y (Ec Y (Ed Y Y (Ed Y Y (Ea Y (Em [2] Y (Eh (Ef Y Y ?_))))))))))))))))))))
 rotate_left
 intro h68
 refine Eb Y (Eb Y (Eb Y (Eb Y (Ff Y (Ff Y (Ff Y (Eb Y (Eb Y (Ff Y (Ek (is:=[199,208,209]) Y (Ff Y (Ff Y (Ff Y (Ff Y (Ff Y (Eb Y (Eg Y Y (Ea Y (Em [2] Y (Eh (Ef Y Y ?_)))))))))))))))))))))
 rotate_left
 intro h49
 refine Eb Y (Eb Y (Eb Y (Eb Y (Eg Y Y (Ea Y (Em [0,9,10,141] Y (Fd Y (Et (Ea Y (Em [2] Y (Eh (Fc (Ep (Ef Y Y ?_))))))))))))))
 rotate_left
 intro h48
 iterate 8 refine Eb rfl ?_
 refine Ek (is:=[0,9,10,147,149,155]) Y (Eb Y (Eb Y (Eg Y Y (Ea Y (Eb Y (Eb Y (Eb Y (Eb Y (Eg Y Y (Ea Y (Em [0,9,10,141] Y (Fd Y (Et (Ea Y (Em [2] Y (Eh (Fc (Ep (Ef Y Y ?_)))))))))))))))))))
 rotate_left
 intro h18
 refine Eb Y (Eb Y (Eb Y (Eb Y (Ff Y (Ff Y (Ff Y (Eb Y (Eg Y Y (Em [0,122] Y (Fd Y (Et (Ea Y (Em [2] Y (Eh (Ep (Ef Y Y ?_))))))))))))))))
 rotate_left
 intro h17
 refine Eb Y (Ek (is:=[0,8,84,108,109]) Y (Eb Y (Ec Y (Eg Y Y (Eg Y Y (Ea Y (Eb Y (Eb Y (Eb Y (Eb Y (Ff Y (Ff Y (Ff Y (Eb Y (Eg Y Y (Em [0,122] Y (Fd Y (Et (Ea Y (Em [2] Y (Eh (Ep (Ef Y Y ?_)))))))))))))))))))))))
 rotate_left
 intro h16
 refine Eb Y (Eb Y (Eb Y (Ec Y (Eg Y Y (Ec Y (Ea Y (Eb Y (Ek (is:=[0,8,84,108,109]) Y (Eb Y (Ec Y (Eg Y Y (Eg Y Y (Ea Y (Eb Y (Eb Y (Eb Y (Eb Y (Ff Y (Ff Y (Ff Y (Eb Y (Eg Y Y (Em [0,122] Y (Fd Y (Et (Ea Y (Em [2] Y (Eh (Ep (Ef Y Y ?_))))))))))))))))))))))))))))))
 rotate_left
 intro h15
 refine Eb Y (Eb Y (Eb Y (Ec Y (Eg Y Y (Ec Y (Ea Y (Eb Y (Eb Y (Eb Y (Ec Y (Eg Y Y (Ec Y (Ea Y (Eb Y (Ek (is:=[0,8,84,108,109]) Y (Eb Y (Ec Y (Eg Y Y (Eg Y Y (Ea Y (Eb Y (Eb Y (Eb Y (Eb Y (Ff Y (Ff Y (Ff Y (Eb Y (Eg Y Y (Em [0,122] Y (Fd Y (Et (Ea Y (Em [2] Y (Eh (Ep (Ef Y Y ?_)))))))))))))))))))))))))))))))))))))
 rotate_left
 intro h13
 iterate 11 refine Eb rfl ?_
 refine Ek (is:=[0,8,84,86,95]) Y (Eb Y (Eb Y (Eb Y (Ff Y (Ff Y (Ff Y (Eb Y (Eb Y (Ff Y (Ff Y (Ff Y (Eb Y (Eb Y (Ff Y (Ek (is:=[0,8,84,108,109]) Y (Ff Y (Eb Y (Ed Y Y (Ea Y (Ec Y (Ee Y (Ec Y (Ej Y Y Y (Ec Y (Fk Y (Ec Y (Ea Y (s_gNT Y ?_ ?_))))))))))))))))))))))))))))
 intro h71
 refine En Y Y Y (Ec Y (u_bd Y Y (Ec Y (u_eqs Y Y Y Y Y (Ec Y (Eg Y Y (Ed Y Y (Em [0,122] Y (s_condNB Y ?_ ?_)))))))))
 intro h72
 have h72':=Beat.no_beq (y:=Beat.none) h72
 refine Et (Ea Y (Em [2] Y (Eh (Ep (Ef Y Y ?_)))))
 rotate_left
 intro h72
 have h72':=Beat.of_beq (y:=Beat.none) h72
 refine z_s [0] Y (Et (Ea Y (Fo Y (u_fa Y (u_ldn Y Y (Fu Y Y (Eo (Er Y Y Y Y Y Y Y) (Em [0,9] Y (Ey (Et (Ee Y (Ej Y Y Y (Fk Y (Em [0,9,129] Y (s_condNB Y ?_ ?_)))))))))))))))
 intro h73
 refine Et (En Y Y Y (u_bd Y Y (u_eqs Y Y Y Y Y (Ea Y (Em [2] Y (Eh (Ep (Ef Y Y ?_))))))))
 rotate_left
 intro h73
 refine z_s [0,9] Y (Et (Ea Y (Fo Y (u_fa Y (u_ld Y Y (Ee Y (Ej Y Y Y (s_iaM Y Y (by have:=fly_bd (fly_D hfly (by assumption));omega) ?_))))))))
 intro y74 e74
 (have e74m:=mAt_of e74);(skip);(skip)
 refine u_ldn Y Y (Fu Y Y (Eo (Er Y Y Y Y Y Y Y) (Em [0,9,10] Y (Ey (Fh (Et (Ee Y (Ej Y Y Y (Ee Y (Ej Y Y Y (u_neq Y Y (Ea Y (s_gDF Y ?_ ?_)))))))))))))
 intro h75
 rw[nnp] at h75
 refine Ee Y (Ec Y (Ej Y Y Y (Ec Y (Ea Y (Ec Y (Fo Y (Ec Y (u_fa Y (Ec Y (u_fa Y (Ec Y (u_ld Y Y (Ec Y (u_add Y Y (Ek (is:=[0,9,10,147,149,155]) Y (Ec Y (Ev Y Y (c_103 ..) (Ec Y (Fk Y (Ed Y Y (Ea Y (s_gNF Y ?_ ?_))))))))))))))))))))))
 intro h76
 have h76':=inB_t h76
 refine Ee Y (Ec Y (Ej Y Y Y (Ec Y (Ev Y Y (c_103 ..) (Ec Y (Fk Y (Ed Y Y (Ea Y (Em [0,9,10,141] Y (s_condNB Y ?_ ?_))))))))))
 intro h77
 refine Et (Ea Y (Em [2] Y (Eh (Fc (Ep (Ef Y Y ?_))))))
 rotate_left
 intro h77
 have h77':=inB_t h77
 refine Et (Ee Y (Ej Y Y Y (Fm Y Y (Ea Y (Ft Y ?_ ?_)))))
 intro h78
 refine Ee Y (Ec Y (Ej Y Y Y (Ec Y (Ea Y (Ec Y (Fo Y (Ec Y (u_fa Y (Ec Y (u_fa Y (Ec Y (u_ld Y Y (Ec Y (u_geq Y Y (Eg Y Y (Ea Y (Em [0,9,10,165] Y (Ew Y ?_ ?_))))))))))))))))))
 intro h79
 refine Et (Ea Y (Em [2] Y (Eh (Fc (Ep (Ef Y Y ?_))))))
 rotate_left
 intro h79
 refine Et (Ee Y (Ej Y Y Y (Fm Y Y (Ea Y (Ft Y ?_ ?_)))))
 intro h80
 refine Ee Y (Ec Y (Ej Y Y Y (Ec Y (Ea Y (s_gB Y ?_ ?_)))))
 intro h81
 refine Ee Y (Ec Y (Ej Y Y Y (Ec Y (Ea Y (Ec Y (Fo Y (Ec Y (u_fa Y (Ec Y (u_ld Y Y (Ec Y (Fm Y Y (Ek (is:=[0,9,183,186,193]) Y (Ec Y (Ed Y Y (Eg Y Y (Ea Y (Em [0,9,179] Y (Ew Y ?_ ?_)))))))))))))))))))
 intro h82
 refine Et (Ea Y (Em [2] Y (Eh (Fc (Ep (Ef Y Y ?_))))))
 rotate_left
 intro h82
 refine Fr (Fb (Eu (Ei [0,9] Y (Et (Ee Y (Ej Y Y Y (Fk Y (Ea Y (s_gNF Y ?_ ?_)))))))))
 intro h83
 refine Ee Y (Ec Y (Ej Y Y Y (Ec Y (Fm Y Y (Ec Y (Ea Y (Ft Y ?_ ?_)))))))
 intro h84
 refine Ee Y (Ec Y (Ej Y Y Y (Ec Y (u_neq Y Y (Ec Y (Eg Y Y (Ec Y (Ea Y (Ft Y ?_ ?_)))))))))
 intro h85
 refine Ea Y (Ek (is:=[199,208,209]) Y (Ec Y (Fo Y (Ec Y (u_fa Y (Ec Y (u_fa Y (Ec Y (u_ld Y Y (Ec Y (Fk Y (Ec Y (Eg Y Y (Ed Y Y (Ea Y (Em [2] Y (Eh (Ef Y Y ?_))))))))))))))))))
 rotate_left
 intro h85
 rw[nnp] at h85
 refine Eb Y (Ek (is:=[199,208,209]) Y (Eb Y (Eb Y (Eb Y (Eb Y (Eb Y (Ec Y (Ed Y Y (Ed Y Y (Ea Y (Em [2] Y (Eh (Ef Y Y ?_)))))))))))))
 rotate_left
 intro h84
 refine Eb Y (Eb Y (Eb Y (Ec Y (Ed Y Y (Ec Y (Ea Y (Eb Y (Ek (is:=[199,208,209]) Y (Eb Y (Eb Y (Eb Y (Eb Y (Eb Y (Ec Y (Ed Y Y (Ed Y Y (Ea Y (Em [2] Y (Eh (Ef Y Y ?_))))))))))))))))))))
 rotate_left
 intro h83
 refine Eb Y (Eb Y (Eb Y (Eb Y (Ff Y (Ff Y (Ff Y (Eb Y (Eb Y (Ff Y (Ek (is:=[199,208,209]) Y (Ff Y (Ff Y (Ff Y (Ff Y (Ff Y (Eb Y (Eg Y Y (Ea Y (Em [2] Y (Eh (Ef Y Y ?_)))))))))))))))))))))
 rotate_left
 intro h81
 iterate 7 refine Eb rfl ?_
 refine Ek (is:=[0,9,183,186,193]) Y (Ec Y (Eg Y Y (Eg Y Y (Ea Y (Em [0,9,179] Y (Fd Y (Et (Ea Y (Em [2] Y (Eh (Fc (Ep (Ef Y Y ?_)))))))))))))
 rotate_left
 intro h80
 refine Eb Y (Eb Y (Eb Y ?_))
 iterate 7 refine Ff rfl ?_
 refine Ek (is:=[0,9,183,186,193]) Y (Eb Y (Ed Y Y (Ea Y (Em [0,9,179] Y (Fi Y (Fr (Fb (Eu (Ei [0,9] Y (Et (Ee Y (Ej Y Y Y (Fk Y (Ea Y (s_gNF Y ?_ ?_)))))))))))))))
 intro h86
 refine Ee Y (Ec Y (Ej Y Y Y (Ec Y (Fm Y Y (Ec Y (Ea Y (Ft Y ?_ ?_)))))))
 intro h87
 refine Ee Y (Ec Y (Ej Y Y Y (Ec Y (u_neq Y Y (Ec Y (Eg Y Y (Ec Y (Ea Y (Ft Y ?_ ?_)))))))))
 intro h88
 refine Ea Y (Ek (is:=[199,208,209]) Y (Ec Y (Fo Y (Ec Y (u_fa Y (Ec Y (u_fa Y (Ec Y (u_ld Y Y (Ec Y (Fk Y (Ec Y (Eg Y Y (Ed Y Y (Ea Y (Em [2] Y (Eh (Ef Y Y ?_))))))))))))))))))
 rotate_left
 intro h88
 rw[nnp] at h88
 refine Eb Y (Ek (is:=[199,208,209]) Y (Eb Y (Eb Y (Eb Y (Eb Y (Eb Y (Ec Y (Ed Y Y (Ed Y Y (Ea Y (Em [2] Y (Eh (Ef Y Y ?_)))))))))))))
 rotate_left
 intro h87
 refine Eb Y (Eb Y (Eb Y (Ec Y (Ed Y Y (Ec Y (Ea Y (Eb Y (Ek (is:=[199,208,209]) Y (Eb Y (Eb Y (Eb Y (Eb Y (Eb Y (Ec Y (Ed Y Y (Ed Y Y (Ea Y (Em [2] Y (Eh (Ef Y Y ?_))))))))))))))))))))
 rotate_left
 intro h86
 refine Eb Y (Eb Y (Eb Y (Eb Y (Ff Y (Ff Y (Ff Y (Eb Y (Eb Y (Ff Y (Ek (is:=[199,208,209]) Y (Ff Y (Ff Y (Ff Y (Ff Y (Ff Y (Eb Y (Eg Y Y (Ea Y (Em [2] Y (Eh (Ef Y Y ?_)))))))))))))))))))))
 rotate_left
 intro h78
 iterate 8 refine Eb rfl ?_
 refine Ed Y Y (Ea Y (Em [0,9,10,165] Y (Fi Y (Et (Ee Y (Ej Y Y Y (Fm Y Y (Ea Y (Ft Y ?_ ?_)))))))))
 intro h89
 refine Ee Y (Ec Y (Ej Y Y Y (Ec Y (Ea Y (s_gB Y ?_ ?_)))))
 intro h90
 refine Ee Y (Ec Y (Ej Y Y Y (Ec Y (Ea Y (Ec Y (Fo Y (Ec Y (u_fa Y (Ec Y (u_ld Y Y (Ec Y (Fm Y Y (Ek (is:=[0,9,183,186,193]) Y (Ec Y (Ed Y Y (Eg Y Y (Ea Y (Em [0,9,179] Y (Ew Y ?_ ?_)))))))))))))))))))
 intro h91
 refine Et (Ea Y (Em [2] Y (Eh (Fc (Ep (Ef Y Y ?_))))))
 rotate_left
 intro h91
 refine Fr (Fb (Eu (Ei [0,9] Y (Et (Ee Y (Ej Y Y Y (Fk Y (Ea Y (s_gNF Y ?_ ?_)))))))))
 intro h92
 refine Ee Y (Ec Y (Ej Y Y Y (Ec Y (Fm Y Y (Ec Y (Ea Y (Ft Y ?_ ?_)))))))
 intro h93
 refine Ee Y (Ec Y (Ej Y Y Y (Ec Y (u_neq Y Y (Ec Y (Eg Y Y (Ec Y (Ea Y (Ft Y ?_ ?_)))))))))
 intro h94
 refine Ea Y (Ek (is:=[199,208,209]) Y (Ec Y (Fo Y (Ec Y (u_fa Y (Ec Y (u_fa Y (Ec Y (u_ld Y Y (Ec Y (Fk Y (Ec Y (Eg Y Y (Ed Y Y (Ea Y (Em [2] Y (Eh (Ef Y Y ?_))))))))))))))))))
 rotate_left
 intro h94
 rw[nnp] at h94
 refine Eb Y (Ek (is:=[199,208,209]) Y (Eb Y (Eb Y (Eb Y (Eb Y (Eb Y (Ec Y (Ed Y Y (Ed Y Y (Ea Y (Em [2] Y (Eh (Ef Y Y ?_)))))))))))))
 rotate_left
 intro h93
 refine Eb Y (Eb Y (Eb Y (Ec Y (Ed Y Y (Ec Y (Ea Y (Eb Y (Ek (is:=[199,208,209]) Y (Eb Y (Eb Y (Eb Y (Eb Y (Eb Y (Ec Y (Ed Y Y (Ed Y Y (Ea Y (Em [2] Y (Eh (Ef Y Y ?_))))))))))))))))))))
 rotate_left
 intro h92
 refine Eb Y (Eb Y (Eb Y (Eb Y (Ff Y (Ff Y (Ff Y (Eb Y (Eb Y (Ff Y (Ek (is:=[199,208,209]) Y (Ff Y (Ff Y (Ff Y (Ff Y (Ff Y (Eb Y (Eg Y Y (Ea Y (Em [2] Y (Eh (Ef Y Y ?_)))))))))))))))))))))
 rotate_left
 intro h90
 iterate 7 refine Eb rfl ?_
 refine Ek (is:=[0,9,183,186,193]) Y (Ec Y (Eg Y Y (Eg Y Y (Ea Y (Em [0,9,179] Y (Fd Y (Et (Ea Y (Em [2] Y (Eh (Fc (Ep (Ef Y Y ?_)))))))))))))
 rotate_left
 intro h89
 refine Eb Y (Eb Y (Eb Y ?_))
 iterate 7 refine Ff rfl ?_
 refine Ek (is:=[0,9,183,186,193]) Y (Eb Y (Ed Y Y (Ea Y (Em [0,9,179] Y (Fi Y (Fr (Fb (Eu (Ei [0,9] Y (Et (Ee Y (Ej Y Y Y (Fk Y (Ea Y (s_gNF Y ?_ ?_)))))))))))))))
 intro h95
 refine Ee Y (Ec Y (Ej Y Y Y (Ec Y (Fm Y Y (Ec Y (Ea Y (Ft Y ?_ ?_)))))))
 intro h96
 refine Ee Y (Ec Y (Ej Y Y Y (Ec Y (u_neq Y Y (Ec Y (Eg Y Y (Ec Y (Ea Y (Ft Y ?_ ?_)))))))))
 intro h97
 refine Ea Y (Ek (is:=[199,208,209]) Y (Ec Y (Fo Y (Ec Y (u_fa Y (Ec Y (u_fa Y (Ec Y (u_ld Y Y (Ec Y (Fk Y (Ec Y (Eg Y Y (Ed Y Y (Ea Y (Em [2] Y (Eh (Ef Y Y ?_))))))))))))))))))
 rotate_left
 intro h97
 rw[nnp] at h97
 refine Eb Y (Ek (is:=[199,208,209]) Y (Eb Y (Eb Y (Eb Y (Eb Y (Eb Y (Ec Y (Ed Y Y (Ed Y Y (Ea Y (Em [2] Y (Eh (Ef Y Y ?_)))))))))))))
 rotate_left
 intro h96
 refine Eb Y (Eb Y (Eb Y (Ec Y (Ed Y Y (Ec Y (Ea Y (Eb Y (Ek (is:=[199,208,209]) Y (Eb Y (Eb Y (Eb Y (Eb Y (Eb Y (Ec Y (Ed Y Y (Ed Y Y (Ea Y (Em [2] Y (Eh (Ef Y Y ?_))))))))))))))))))))
 rotate_left
 intro h95
 refine Eb Y (Eb Y (Eb Y (Eb Y (Ff Y (Ff Y (Ff Y (Eb Y (Eb Y (Ff Y (Ek (is:=[199,208,209]) Y (Ff Y (Ff Y (Ff Y (Ff Y (Ff Y (Eb Y (Eg Y Y (Ea Y (Em [2] Y (Eh (Ef Y Y ?_)))))))))))))))))))))
 rotate_left
 intro h76
 refine Eb Y (Eb Y (Eb Y (Eb Y (Eg Y Y (Ea Y (Em [0,9,10,141] Y (Fd Y (Et (Ea Y (Em [2] Y (Eh (Fc (Ep (Ef Y Y ?_))))))))))))))
 rotate_left
 intro h75
 iterate 8 refine Eb rfl ?_
 refine Ek (is:=[0,9,10,147,149,155]) Y (Eb Y (Eb Y (Eg Y Y (Ea Y (Eb Y (Eb Y (Eb Y (Eb Y (Eg Y Y (Ea Y (Em [0,9,10,141] Y (Fd Y (Et (Ea Y (Em [2] Y (Eh (Fc (Ep (Ef Y Y ?_)))))))))))))))))))
 rotate_left
 intro h71
 refine Eb Y (Eb Y (Eb Y (Ec Y (Ed Y Y (Ed Y Y (Em [0,122] Y (Fi Y (z_s [0] Y (Et (Ea Y (Fo Y (u_fa Y (u_ldn Y Y (Fu Y Y (Eo (Er Y Y Y Y Y Y Y) (Em [0,9] Y (Ey (Et (Ee Y (Ej Y Y Y (Fk Y (Em [0,9,129] Y (s_condNB Y ?_ ?_)))))))))))))))))))))))
 intro h98
 refine Et (En Y Y Y (u_bd Y Y (u_eqs Y Y Y Y Y (Ea Y (Em [2] Y (Eh (Ep (Ef Y Y ?_))))))))
 rotate_left
 intro h98
 refine z_s [0,9] Y (Et (Ea Y (Fo Y (u_fa Y (u_ld Y Y (Ee Y (Ej Y Y Y (s_iaM Y Y (by have:=fly_bd (fly_D hfly (by assumption));omega) ?_))))))))
 intro y99 e99
 (have e99m:=mAt_of e99);(skip);(skip)
 refine u_ldn Y Y (Fu Y Y (Eo (Er Y Y Y Y Y Y Y) (Em [0,9,10] Y (Ey (Fh (Et (Ee Y (Ej Y Y Y (Ee Y (Ej Y Y Y (u_neq Y Y (Ea Y (s_gDF Y ?_ ?_)))))))))))))
 intro h100
 rw[nnp] at h100
 refine Ee Y (Ec Y (Ej Y Y Y (Ec Y (Ea Y (Ec Y (Fo Y (Ec Y (u_fa Y (Ec Y (u_fa Y (Ec Y (u_ld Y Y (Ec Y (u_add Y Y (Ek (is:=[0,9,10,147,149,155]) Y (Ec Y (Ev Y Y (c_103 ..) (Ec Y (Fk Y (Ed Y Y (Ea Y (s_gNF Y ?_ ?_))))))))))))))))))))))
 intro h101
 have h101':=inB_t h101
 refine Ee Y (Ec Y (Ej Y Y Y (Ec Y (Ev Y Y (c_103 ..) (Ec Y (Fk Y (Ed Y Y (Ea Y (Em [0,9,10,141] Y (s_condNB Y ?_ ?_))))))))))
 intro h102
 refine Et (Ea Y (Em [2] Y (Eh (Fc (Ep (Ef Y Y ?_))))))
 rotate_left
 intro h102
 have h102':=inB_t h102
 refine Et (Ee Y (Ej Y Y Y (Fm Y Y (Ea Y (Ft Y ?_ ?_)))))
 intro h103
 refine Ee Y (Ec Y (Ej Y Y Y (Ec Y (Ea Y (Ec Y (Fo Y (Ec Y (u_fa Y (Ec Y (u_fa Y (Ec Y (u_ld Y Y (Ec Y (u_geq Y Y (Eg Y Y (Ea Y (Em [0,9,10,165] Y (Ew Y ?_ ?_))))))))))))))))))
 intro h104
 refine Et (Ea Y (Em [2] Y (Eh (Fc (Ep (Ef Y Y ?_))))))
 rotate_left
 intro h104
 refine Et (Ee Y (Ej Y Y Y (Fm Y Y (Ea Y (Ft Y ?_ ?_)))))
 intro h105
 refine Ee Y (Ec Y (Ej Y Y Y (Ec Y (Ea Y (s_gB Y ?_ ?_)))))
 intro h106
 refine Ee Y (Ec Y (Ej Y Y Y (Ec Y (Ea Y (Ec Y (Fo Y (Ec Y (u_fa Y (Ec Y (u_ld Y Y (Ec Y (Fm Y Y (Ek (is:=[0,9,183,186,193]) Y (Ec Y (Ed Y Y (Eg Y Y (Ea Y (Em [0,9,179] Y (Ew Y ?_ ?_)))))))))))))))))))
 intro h107
 refine Et (Ea Y (Em [2] Y (Eh (Fc (Ep (Ef Y Y ?_))))))
 rotate_left
 intro h107
 refine Fr (Fb (Eu (Ei [0,9] Y (Et (Ee Y (Ej Y Y Y (Fk Y (Ea Y (s_gNF Y ?_ ?_)))))))))
 intro h108
 refine Ee Y (Ec Y (Ej Y Y Y (Ec Y (Fm Y Y (Ec Y (Ea Y (Ft Y ?_ ?_)))))))
 intro h109
 refine Ee Y (Ec Y (Ej Y Y Y (Ec Y (u_neq Y Y (Ec Y (Eg Y Y (Ec Y (Ea Y (Ft Y ?_ ?_)))))))))
 intro h110
 refine Ea Y (Ek (is:=[199,208,209]) Y (Ec Y (Fo Y (Ec Y (u_fa Y (Ec Y (u_fa Y (Ec Y (u_ld Y Y (Ec Y (Fk Y (Ec Y (Eg Y Y (Ed Y Y (Ea Y (Em [2] Y (Eh (Ef Y Y ?_))))))))))))))))))
 rotate_left
 intro h110
 rw[nnp] at h110
 refine Eb Y (Ek (is:=[199,208,209]) Y (Eb Y (Eb Y (Eb Y (Eb Y (Eb Y (Ec Y (Ed Y Y (Ed Y Y (Ea Y (Em [2] Y (Eh (Ef Y Y ?_)))))))))))))
 rotate_left
 intro h109
 refine Eb Y (Eb Y (Eb Y (Ec Y (Ed Y Y (Ec Y (Ea Y (Eb Y (Ek (is:=[199,208,209]) Y (Eb Y (Eb Y (Eb Y (Eb Y (Eb Y (Ec Y (Ed Y Y (Ed Y Y (Ea Y (Em [2] Y (Eh (Ef Y Y ?_))))))))))))))))))))
 rotate_left
 intro h108
 refine Eb Y (Eb Y (Eb Y (Eb Y (Ff Y (Ff Y (Ff Y (Eb Y (Eb Y (Ff Y (Ek (is:=[199,208,209]) Y (Ff Y (Ff Y (Ff Y (Ff Y (Ff Y (Eb Y (Eg Y Y (Ea Y (Em [2] Y (Eh (Ef Y Y ?_)))))))))))))))))))))
 rotate_left
 intro h106
 iterate 7 refine Eb rfl ?_
 refine Ek (is:=[0,9,183,186,193]) Y (Ec Y (Eg Y Y (Eg Y Y (Ea Y (Em [0,9,179] Y (Fd Y (Et (Ea Y (Em [2] Y (Eh (Fc (Ep (Ef Y Y ?_)))))))))))))
 rotate_left
 intro h105
 refine Eb Y (Eb Y (Eb Y ?_))
 iterate 7 refine Ff rfl ?_
 refine Ek (is:=[0,9,183,186,193]) Y (Eb Y (Ed Y Y (Ea Y (Em [0,9,179] Y (Fi Y (Fr (Fb (Eu (Ei [0,9] Y (Et (Ee Y (Ej Y Y Y (Fk Y (Ea Y (s_gNF Y ?_ ?_)))))))))))))))
 intro h111
 refine Ee Y (Ec Y (Ej Y Y Y (Ec Y (Fm Y Y (Ec Y (Ea Y (Ft Y ?_ ?_)))))))
 intro h112
 refine Ee Y (Ec Y (Ej Y Y Y (Ec Y (u_neq Y Y (Ec Y (Eg Y Y (Ec Y (Ea Y (Ft Y ?_ ?_)))))))))
 intro h113
 refine Ea Y (Ek (is:=[199,208,209]) Y (Ec Y (Fo Y (Ec Y (u_fa Y (Ec Y (u_fa Y (Ec Y (u_ld Y Y (Ec Y (Fk Y (Ec Y (Eg Y Y (Ed Y Y (Ea Y (Em [2] Y (Eh (Ef Y Y ?_))))))))))))))))))
 rotate_left
 intro h113
 rw[nnp] at h113
 refine Eb Y (Ek (is:=[199,208,209]) Y (Eb Y (Eb Y (Eb Y (Eb Y (Eb Y (Ec Y (Ed Y Y (Ed Y Y (Ea Y (Em [2] Y (Eh (Ef Y Y ?_)))))))))))))
 rotate_left
 intro h112
 refine Eb Y (Eb Y (Eb Y (Ec Y (Ed Y Y (Ec Y (Ea Y (Eb Y (Ek (is:=[199,208,209]) Y (Eb Y (Eb Y (Eb Y (Eb Y (Eb Y (Ec Y (Ed Y Y (Ed Y Y (Ea Y (Em [2] Y (Eh (Ef Y Y ?_))))))))))))))))))))
 rotate_left
 intro h111
 refine Eb Y (Eb Y (Eb Y (Eb Y (Ff Y (Ff Y (Ff Y (Eb Y (Eb Y (Ff Y (Ek (is:=[199,208,209]) Y (Ff Y (Ff Y (Ff Y (Ff Y (Ff Y (Eb Y (Eg Y Y (Ea Y (Em [2] Y (Eh (Ef Y Y ?_)))))))))))))))))))))
 rotate_left
 intro h103
 iterate 8 refine Eb rfl ?_
 refine Ed Y Y (Ea Y (Em [0,9,10,165] Y (Fi Y (Et (Ee Y (Ej Y Y Y (Fm Y Y (Ea Y (Ft Y ?_ ?_)))))))))
 intro h114
 refine Ee Y (Ec Y (Ej Y Y Y (Ec Y (Ea Y (s_gB Y ?_ ?_)))))
 intro h115
 refine Ee Y (Ec Y (Ej Y Y Y (Ec Y (Ea Y (Ec Y (Fo Y (Ec Y (u_fa Y (Ec Y (u_ld Y Y (Ec Y (Fm Y Y (Ek (is:=[0,9,183,186,193]) Y (Ec Y (Ed Y Y (Eg Y Y (Ea Y (Em [0,9,179] Y (Ew Y ?_ ?_)))))))))))))))))))
 intro h116
 refine Et (Ea Y (Em [2] Y (Eh (Fc (Ep (Ef Y Y ?_))))))
 rotate_left
 intro h116
 refine Fr (Fb (Eu (Ei [0,9] Y (Et (Ee Y (Ej Y Y Y (Fk Y (Ea Y (s_gNF Y ?_ ?_)))))))))
 intro h117
 refine Ee Y (Ec Y (Ej Y Y Y (Ec Y (Fm Y Y (Ec Y (Ea Y (Ft Y ?_ ?_)))))))
 intro h118
 refine Ee Y (Ec Y (Ej Y Y Y (Ec Y (u_neq Y Y (Ec Y (Eg Y Y (Ec Y (Ea Y (Ft Y ?_ ?_)))))))))
 intro h119
 refine Ea Y (Ek (is:=[199,208,209]) Y (Ec Y (Fo Y (Ec Y (u_fa Y (Ec Y (u_fa Y (Ec Y (u_ld Y Y (Ec Y (Fk Y (Ec Y (Eg Y Y (Ed Y Y (Ea Y (Em [2] Y (Eh (Ef Y Y ?_))))))))))))))))))
 rotate_left
 intro h119
 rw[nnp] at h119
 refine Eb Y (Ek (is:=[199,208,209]) Y (Eb Y (Eb Y (Eb Y (Eb Y (Eb Y (Ec Y (Ed Y Y (Ed Y Y (Ea Y (Em [2] Y (Eh (Ef Y Y ?_)))))))))))))
 rotate_left
 intro h118
 refine Eb Y (Eb Y (Eb Y (Ec Y (Ed Y Y (Ec Y (Ea Y (Eb Y (Ek (is:=[199,208,209]) Y (Eb Y (Eb Y (Eb Y (Eb Y (Eb Y (Ec Y (Ed Y Y (Ed Y Y (Ea Y (Em [2] Y (Eh (Ef Y Y ?_))))))))))))))))))))
 rotate_left
 intro h117
 refine Eb Y (Eb Y (Eb Y (Eb Y (Ff Y (Ff Y (Ff Y (Eb Y (Eb Y (Ff Y (Ek (is:=[199,208,209]) Y (Ff Y (Ff Y (Ff Y (Ff Y (Ff Y (Eb Y (Eg Y Y (Ea Y (Em [2] Y (Eh (Ef Y Y ?_)))))))))))))))))))))
 rotate_left
 intro h115
 iterate 7 refine Eb rfl ?_
 refine Ek (is:=[0,9,183,186,193]) Y (Ec Y (Eg Y Y (Eg Y Y (Ea Y (Em [0,9,179] Y (Fd Y (Et (Ea Y (Em [2] Y (Eh (Fc (Ep (Ef Y Y ?_)))))))))))))
 rotate_left
 intro h114
 refine Eb Y (Eb Y (Eb Y ?_))
 iterate 7 refine Ff rfl ?_
 refine Ek (is:=[0,9,183,186,193]) Y (Eb Y (Ed Y Y (Ea Y (Em [0,9,179] Y (Fi Y (Fr (Fb (Eu (Ei [0,9] Y (Et (Ee Y (Ej Y Y Y (Fk Y (Ea Y (s_gNF Y ?_ ?_)))))))))))))))
 intro h120
 refine Ee Y (Ec Y (Ej Y Y Y (Ec Y (Fm Y Y (Ec Y (Ea Y (Ft Y ?_ ?_)))))))
 intro h121
 refine Ee Y (Ec Y (Ej Y Y Y (Ec Y (u_neq Y Y (Ec Y (Eg Y Y (Ec Y (Ea Y (Ft Y ?_ ?_)))))))))
 intro h122
 refine Ea Y (Ek (is:=[199,208,209]) Y (Ec Y (Fo Y (Ec Y (u_fa Y (Ec Y (u_fa Y (Ec Y (u_ld Y Y (Ec Y (Fk Y (Ec Y (Eg Y Y (Ed Y Y (Ea Y (Em [2] Y (Eh (Ef Y Y ?_))))))))))))))))))
 rotate_left
 intro h122
 rw[nnp] at h122
 refine Eb Y (Ek (is:=[199,208,209]) Y (Eb Y (Eb Y (Eb Y (Eb Y (Eb Y (Ec Y (Ed Y Y (Ed Y Y (Ea Y (Em [2] Y (Eh (Ef Y Y ?_)))))))))))))
 rotate_left
 intro h121
 refine Eb Y (Eb Y (Eb Y (Ec Y (Ed Y Y (Ec Y (Ea Y (Eb Y (Ek (is:=[199,208,209]) Y (Eb Y (Eb Y (Eb Y (Eb Y (Eb Y (Ec Y (Ed Y Y (Ed Y Y (Ea Y (Em [2] Y (Eh (Ef Y Y ?_))))))))))))))))))))
 rotate_left
 intro h120
 refine Eb Y (Eb Y (Eb Y (Eb Y (Ff Y (Ff Y (Ff Y (Eb Y (Eb Y (Ff Y (Ek (is:=[199,208,209]) Y (Ff Y (Ff Y (Ff Y (Ff Y (Ff Y (Eb Y (Eg Y Y (Ea Y (Em [2] Y (Eh (Ef Y Y ?_)))))))))))))))))))))
 rotate_left
 intro h101
 refine Eb Y (Eb Y (Eb Y (Eb Y (Eg Y Y (Ea Y (Em [0,9,10,141] Y (Fd Y (Et (Ea Y (Em [2] Y (Eh (Fc (Ep (Ef Y Y ?_))))))))))))))
 rotate_left
 intro h100
 iterate 8 refine Eb rfl ?_
 refine Ek (is:=[0,9,10,147,149,155]) Y (Eb Y (Eb Y (Eg Y Y (Ea Y (Eb Y (Eb Y (Eb Y (Eb Y (Eg Y Y (Ea Y (Em [0,9,10,141] Y (Fd Y (Et (Ea Y (Em [2] Y (Eh (Fc (Ep (Ef Y Y ?_)))))))))))))))))))
 rotate_left
 all_goals
  first|exact(fly_no (by assumption) (by clear hj hs;simp_all [flyOk])).symm|exact(ways_no (by omega:i<b.ms.length) (by clear hi hs;simp_all [wOkAt])).symm|(rw[beats_all (rall_end hi.2 hi.1 (by omega))];have hA:=@fly_A b hfly;have hD:=@fly_D b hfly;clear hi hs hfly hj;first|(simp_all [beatA,beatD];done)|(show Beat.beq b.data Beat.none=_;rw[Beat.beq_dec];simp_all [beatA,beatD];done))
def lAt (b:Bus) (k:Int):Done:=(b.log[k.toNat]?).getD ⟨0,0,false,0,0,0,0⟩
theorem lAt_of {b:Bus} {k:Int} {m:Done} (h:b.log[k.toNat]?=some m):lAt b k=m:=by unfold lAt;rw[h];rfl
def prevC (b:Bus) (i:Nat):Int:=match i with|0=>-1|k+1=>(lAt b k).cycle
def logAt (b:Bus) (i:Nat):Bool:=decide (prevC b i<(lAt b i).cycle) && decide ((lAt b i).cycle<b.now) && inB (lAt b i).who 0 (b.ms.length-1) && aligned (lAt b i).addr (lAt b i).size && decide ((lAt b i).addr<512) && inB (lAt b i).value 0 (limit (lAt b i).size-1) && (decide ((lAt b i).resp=0) || decide ((lAt b i).resp=1))
def loggedB (b:Bus):Bool:=(List.range b.log.length).all (logAt b)
set_option maxHeartbeats 1000000 in
theorem c_12 (b:Bus) (hs:b.small) (he:b.even):CV prg 12 [.rp b.r 0] (fun res=>res=.w (.bool (loggedB b))):=by
 have hml:b.ms.length≤1048576:=hs.2.1
 have hlg:b.log.length≤1048576:=hs.2.2.2.2.2.2
 have he1:=he.ms
 have hcl:b.conf.masters.length≤1048576:=by omega
 refine cv_in g12 (Ei [0] Y (Et (Ea Y (z_q [0] Y (Ea Y (Em [0,3] Y (Ey (Et (Ea Y (Fo Y (u_fa Y (u_ld Y Y (Fw Y (Ea Y (Em [0,3,9,10,11] Y (Fh (S_loop0 (ι:=Nat) (fun i=>i≤b.log.length∧(List.range i).all (logAt b)=true) (fun i=>[(11,.w (.int .i64 (i:Int))),(3,.w (.int .i64 (prevC b i)))]) (fun i=>b.log.length-i) 0 (by simp) Y ⟨Y,Y,trivial⟩ (fun _ _=>Y) Y ?_)))))))))))))))))
 intro i hi
 refine Ei [0,3,9,10,11] Y (Et (u_lss Y Y (Em [0,3,9,10,11,12] Y (Ey (Ew Y ?_ ?_)))))
 intro h1
 refine z_s [0,3,9,10,11] Y (Ey (Fh (Et (s_iaM Y Y (by omega) ?_))))
 intro y2 e2
 (have e2l:=lAt_of e2);(simp only[Int.toNat_natCast,Int.toNat_zero] at e2)
 refine u_ldn Y Y (Fu Y Y (Eo (Er Y Y Y Y Y Y Y) (Em [0,3,5,9,10,11] Y (Ey (Et (Ee Y (Ej Y Y Y (Ea Y (u_leq Y Y (Ea Y (s_gDF Y ?_ ?_)))))))))))
 intro h3
 refine Ee Y (Ec Y (Ej Y Y Y (Ec Y (Ea Y (Ec Y (Fo Y (Ec Y (u_fa Y (Ec Y (u_ld Y Y (Ec Y (u_geq Y Y (Ed Y Y (Ea Y (Ek (is:=[0,5,9,10,11,20,21,22,23,24,25,26,28]) Y (s_gDF Y ?_ ?_))))))))))))))))
 intro h4
 refine Ea Y (Ec Y (Fo Y (Ec Y (u_fa Y (Ec Y (u_ldn Y Y (Ec Y (Ee Y (Ec Y (Ej Y Y Y (Ec Y (Ev Y Y (c_91 b.conf _ hcl) (Ec Y (Fk Y (Ed Y Y (Ea Y (s_gNF Y ?_ ?_)))))))))))))))))
 intro h5
 refine Ee Y (Ec Y (Ej Y Y Y (Ec Y (Ee Y (Ec Y (Ej Y Y Y (Ek (is:=[0,5,9,10,11,20,21,22,23,24,25,26,29,30,31,32,33,34,35,36,38,39,40,41,42]) Y (Ec Y (Ev Y Y (c_21 ..) (Ec Y (Fk Y (Ed Y Y (Ea Y (s_gNF Y ?_ ?_))))))))))))))
 intro h6
 refine Ee Y (Ec Y (Ej Y Y Y (Ec Y (u_geq Y Y (Ed Y Y (Ea Y (s_gDF Y ?_ ?_)))))))
 intro h7
 refine Ee Y (Ec Y (Ej Y Y Y (Ec Y (Ee Y (Ec Y (Ej Y Y Y (Ec Y (Ev Y Y (c_92 ..) (Ek (is:=[0,5,9,10,11,20,21,22,23,24,25,26,29,30,31,32,33,34,35,36,39,40,41,42,43,44,47,48,49,51,52,53,54,55,56]) Y (Ec Y (Fk Y (Ed Y Y (Ea Y (s_gNF Y ?_ ?_))))))))))))))
 intro h8
 refine Ee Y (Ec Y (Ej Y Y Y (Ec Y (u_neq Y Y (Ec Y (Ea Y (Ft Y ?_ ?_)))))))
 intro h9
 refine Ee Y (Ec Y (Ej Y Y Y (Ec Y (u_neq Y Y (Ec Y (Eg Y Y (Ed Y Y (Em [0,5,9,10,11,20,21,22,23,24,25,26,29,30,31,32,33,34,35,36,39,40,41,42,43,44,47,48,49,52,53,54,55,56,57,60,61,62,63,64,65,66,67,68] Y (Ew Y ?_ ?_)))))))))
 intro h10
 refine Et (Ea Y (Em [2] Y (Eh (Ep (Fc (Ep (q_loopR (Fc (Ep (Ef Y Y ?_))))))))))
 rotate_left
 intro h10
 rw[nnp] at h10
 refine z_s [0,5,9,10,11,20,21,22,23,24,25,26,29,30,31,32,33,34,35,36,39,40,41,42,43,44,47,48,49,52,53,54,55,56,57,60,61,62,63,64,65,66,67] Y (Fs (Ee Y (Ej Y Y Y (Ea Y (Ez (Fb (Eu (Ei [0,3,9,10,11,20,21,22,23,24,25,26,29,30,31,32,33,34,35,36,39,40,41,42,43,44,47,48,49,52,53,54,55,56,57,60,61,62,63,64,65,66,67] Y (Fs (Fa (Fn Y Y (by omega)) (Ea Y (Ez (Fp ?_)))))))))))))
 ·refine⟨i+1,⟨by omega,rall_succ hi.2 (by clear hs hi;simp_all [logAt])⟩,by omega,hasOf ⟨rfl,congrArg (fun b=>some (V.w (.int .i64 b))) (congrArg Done.cycle (lAt_of (k:=(i:Int)) (by assumption)).symm),trivial⟩ rfl⟩
 intro h9
 rw[nnp] at h9
 refine Eb Y (Eb Y (Eb Y (Ec Y (Ed Y Y (Ed Y Y (Em [0,5,9,10,11,20,21,22,23,24,25,26,29,30,31,32,33,34,35,36,39,40,41,42,43,44,47,48,49,52,53,54,55,56,57,60,61,62,63,64,65,66,67,68] Y (Fi Y (Fr (Eu ?_)))))))))
 refine Ei [0,5,9,10,11,20,21,22,23,24,25,26,29,30,31,32,33,34,35,36,39,40,41,42,43,44,47,48,49,52,53,54,55,56,57,60,61,62,63,64,65,66,67] Y (Fs (Ee Y (Ej Y Y Y (Ea Y (Ez (Fb (Eu (Ei [0,3,9,10,11,20,21,22,23,24,25,26,29,30,31,32,33,34,35,36,39,40,41,42,43,44,47,48,49,52,53,54,55,56,57,60,61,62,63,64,65,66,67] Y (Fs (Fa (Fn Y Y (by omega)) (Ea Y (Ez (Fp ?_)))))))))))))
 ·refine⟨i+1,⟨by omega,rall_succ hi.2 (by clear hs hi;simp_all [logAt])⟩,by omega,hasOf ⟨rfl,congrArg (fun b=>some (V.w (.int .i64 b))) (congrArg Done.cycle (lAt_of (k:=(i:Int)) (by assumption)).symm),trivial⟩ rfl⟩
 intro h8
 refine Eb Y (Eb Y (Eb Y (Eb Y (Ff Y (Ff Y (Ff Y (Eb Y (Eg Y Y (Em [0,5,9,10,11,20,21,22,23,24,25,26,29,30,31,32,33,34,35,36,39,40,41,42,43,44,47,48,49,52,53,54,55,56,57,60,61,62,63,64,65,66,67,68] Y (Fd Y (Et (Ea Y (Em [2] Y (Eh (Ep (Fc (Ep (q_loopR (Fc (Ep (Ef Y Y ?_)))))))))))))))))))))
 rotate_left
 intro h7
 refine Eb Y (Eb Y (Eb Y (Eb Y (Eb Y (Ek (is:=[0,5,9,10,11,20,21,22,23,24,25,26,29,30,31,32,33,34,35,36,39,40,41,42,43,44,47,48,49,51,52,53,54,55,56]) Y (Eb Y (Eg Y Y (Ea Y (Eb Y (Eb Y (Eb Y (Eb Y (Ff Y (Ff Y (Ff Y (Eb Y (Eg Y Y (Em [0,5,9,10,11,20,21,22,23,24,25,26,29,30,31,32,33,34,35,36,39,40,41,42,43,44,47,48,49,52,53,54,55,56,57,60,61,62,63,64,65,66,67,68] Y (Fd Y (Et (Ea Y (Em [2] Y (Eh (Ep (Fc (Ep (q_loopR (Fc (Ep (Ef Y Y ?_))))))))))))))))))))))))))))))
 rotate_left
 intro h6
 refine Eb Y (Eb Y (Eb Y (Eg Y Y (Ea Y (Eb Y (Eb Y (Eb Y (Eb Y (Eb Y (Ek (is:=[0,5,9,10,11,20,21,22,23,24,25,26,29,30,31,32,33,34,35,36,39,40,41,42,43,44,47,48,49,51,52,53,54,55,56]) Y (Eb Y (Eg Y Y (Ea Y (Eb Y (Eb Y (Eb Y (Eb Y (Ff Y (Ff Y (Ff Y (Eb Y (Eg Y Y (Ez ?_)))))))))))))))))))))))
 refine Eu (Ei [0,5,9,10,11,20,21,22,23,24,25,26,29,30,31,32,33,34,35,36,39,40,41,42,43,44,47,48,49,52,53,54,55,56,57,60,61,62,63,64,65,66,67,68] Y (Fd Y (Et (Ea Y (Em [2] Y (Eh (Ep (Fc (Ep (q_loopR (Fc (Ep (Ef Y Y ?_)))))))))))))
 rotate_left
 intro h5
 refine Eb Y (Eb Y (Eb Y (Eb Y (Ek (is:=[0,5,9,10,11,20,21,22,23,24,25,26,29,30,31,32,33,34,35,36,38,39,40,41,42]) Y (Eb Y (Eb Y (Eg Y Y (Ea Y (Eb Y (Eb Y (Eb Y (Eg Y Y (Ea Y (Eb Y (Eb Y (Eb Y (Eb Y (Eb Y (Ek (is:=[0,5,9,10,11,20,21,22,23,24,25,26,29,30,31,32,33,34,35,36,39,40,41,42,43,44,47,48,49,51,52,53,54,55,56]) Y (Eb Y (Eg Y Y (Ea Y (Eb Y ?_)))))))))))))))))))))))
 refine Eb Y (Eb Y (Eb Y (Ff Y (Ff Y (Ff Y (Eb Y (Eg Y Y (Em [0,5,9,10,11,20,21,22,23,24,25,26,29,30,31,32,33,34,35,36,39,40,41,42,43,44,47,48,49,52,53,54,55,56,57,60,61,62,63,64,65,66,67,68] Y (Fd Y (Et (Ea Y (Em [2] Y (Eh (Ep (Fc (Ep (q_loopR (Fc (Ep (Ef Y Y ?_))))))))))))))))))))
 rotate_left
 intro h4
 iterate 8 refine Eb rfl ?_
 refine Eg Y Y (Ea Y (Eb Y (Eb Y (Eb Y (Eb Y (Ek (is:=[0,5,9,10,11,20,21,22,23,24,25,26,29,30,31,32,33,34,35,36,38,39,40,41,42]) Y (Eb Y (Eb Y (Eg Y Y (Ea Y (Eb Y (Eb Y (Eb Y (Eg Y Y (Ea Y (Eb Y (Eb Y (Eb Y (Eb Y (Eb Y (Ek (is:=[0,5,9,10,11,20,21,22,23,24,25,26,29,30,31,32,33,34,35,36,39,40,41,42,43,44,47,48,49,51,52,53,54,55,56]) Y (Eb Y (Eg Y Y ?_)))))))))))))))))))))))
 refine Ea Y (Eb Y (Eb Y (Eb Y (Eb Y (Ff Y (Ff Y (Ff Y (Eb Y (Eg Y Y (Em [0,5,9,10,11,20,21,22,23,24,25,26,29,30,31,32,33,34,35,36,39,40,41,42,43,44,47,48,49,52,53,54,55,56,57,60,61,62,63,64,65,66,67,68] Y (Fd Y (Et (Ea Y (Em [2] Y (Eh (Ep (Fc (Ep (q_loopR (Fc (Ep (Ef Y Y ?_))))))))))))))))))))))
 rotate_left
 intro h3
 iterate 7 refine Eb rfl ?_
 refine Eg Y Y (Ea Y (Ek (is:=[0,5,9,10,11,20,21,22,23,24,25,26,28]) Y ?_))
 iterate 8 refine Eb rfl ?_
 refine Eg Y Y (Ea Y (Eb Y (Eb Y (Eb Y (Eb Y (Ek (is:=[0,5,9,10,11,20,21,22,23,24,25,26,29,30,31,32,33,34,35,36,38,39,40,41,42]) Y (Eb Y (Eb Y (Eg Y Y (Ea Y (Eb Y (Eb Y (Eb Y (Eg Y Y (Ea Y (Eb Y (Eb Y (Eb Y (Eb Y (Eb Y (Ek (is:=[0,5,9,10,11,20,21,22,23,24,25,26,29,30,31,32,33,34,35,36,39,40,41,42,43,44,47,48,49,51,52,53,54,55,56]) Y (Eb Y (Eg Y Y ?_)))))))))))))))))))))))
 refine Ea Y (Eb Y (Eb Y (Eb Y (Eb Y (Ff Y (Ff Y (Ff Y (Eb Y (Eg Y Y (Em [0,5,9,10,11,20,21,22,23,24,25,26,29,30,31,32,33,34,35,36,39,40,41,42,43,44,47,48,49,52,53,54,55,56,57,60,61,62,63,64,65,66,67,68] Y (Fd Y (Et (Ea Y (Em [2] Y (Eh (Ep (Fc (Ep (q_loopR (Fc (Ep (Ef Y Y ?_))))))))))))))))))))))
 rotate_left
 intro h1
 refine s_exit (q_seqX (q_loopX (q_blkH (Eu (Ei [] Y (Et (Ea Y (Em [2] Y (Eh (Ef Y Y ?_))))))))))
 rotate_left
 all_goals
  first|(unfold loggedB;rw[rall_end hi.2 hi.1 (by omega)];done)|(unfold loggedB;rw[rall_no (p:=logAt b) (by omega:i<b.log.length) (by clear hs hi;first|(simp_all [logAt];done)|(simp_all [logAt];intros;omega))];done)
def Bus.okB (b:Bus):Bool:=b.conf.ok && inB b.now 0 4000 && mastersB b && b.arb.ok b.conf && (decide (b.last=-1) || inB b.last 0 (b.conf.masters.length-1)) && b.model.ok && inB b.picks 0 b.now && beatsB b && heldB b && loggedB b
theorem even_of {b:Bus} (h:mastersB b=true):b.even:=by
 unfold mastersB at h
 rw[Bool.and_eq_true] at h
 exact evenB_of h.1
set_option maxHeartbeats 1000000 in
theorem c_31 (b:Bus) (hs:b.small):CV prg 31 [.agg b.r] (fun res=>res=.w (.bool b.okB)):=by
 have hcl:b.conf.masters.length≤1048576:=hs.1
 have hmo:b.model.small:=hs.2.2.2.2.2.1
 refine cv_in g31 (Ei [0] Y (Et (u_box Y Y Y (Ea Y (z_q [1] Y (Ee Y (En Y Y Y (Ev Y Y (c_34 b.conf hcl) (Ea Y (s_gB Y ?_ ?_))))))))))
 intro h1
 refine Ee Y (Ec Y (Ej Y Y Y (Ec Y (Ev Y Y (c_103 ..) (Eg Y Y (Ea Y (s_gB Y ?_ ?_)))))))
 intro h2
 refine s_callL Y Y (by simp) (c_3 b hs) Y (Eg Y Y (Ea Y (s_gB Y ?_ ?_)))
 intro h3
 have he:=even_of h3
 refine Ee Y (Ec Y (En Y Y Y (Ek (is:=[1,14,16]) Y (Ec Y (Ee Y (Ec Y (En Y Y Y (Ec Y (Ev Y Y (c_82 b.arb b.conf hcl) (Eg Y Y (Ea Y (s_gB Y ?_ ?_))))))))))))
 intro h4
 refine Ee Y (Ec Y (Ej Y Y Y (Ec Y (Fm Y Y (Ec Y (Ea Y (s_gDF Y ?_ ?_)))))))
 intro h5
 refine Ee Y (Ec Y (En Y Y Y (Ec Y (Ee Y (Ec Y (Ej Y Y Y (Ec Y (Ev Y Y (c_91 b.conf _ hcl) (Ek (is:=[1,21,25,30]) Y (Ec Y (Ed Y Y (Eg Y Y (Ea Y (s_gB Y ?_ ?_))))))))))))))
 intro h6
 refine Ee Y (Ec Y (En Y Y Y (Ec Y (Ev Y Y (c_53 b.model hmo) (Eg Y Y (Ea Y (s_gB Y ?_ ?_)))))))
 intro h7
 refine Ee Y (Ec Y (Ej Y Y Y (Ec Y (Ee Y (Ec Y (Ej Y Y Y (Ec Y (Ev Y Y (c_103 ..) (Eg Y Y (Ek (is:=[1,44]) Y (Ea Y (s_gB Y ?_ ?_))))))))))))
 intro h8
 refine s_callL Y Y (by simp) (c_2 b hs he) Y (Eg Y Y (Ea Y (s_gB Y ?_ ?_)))
 intro h9
 refine s_callL Y Y (by simp) (c_9 b hs he) Y (Eg Y Y (Ea Y (s_gB Y ?_ ?_)))
 intro h10
 refine s_callL Y Y (by simp) (c_12 b hs he) Y (Eg Y Y (Ea Y (Em [2] Y (Eh (Ef Y Y ?_)))))
 rotate_left
 intro h10
 refine Eb Y (Ed Y Y (Ea Y (Em [2] Y (Eh (Ef Y Y ?_)))))
 rotate_left
 intro h9
 refine Eb Y (Ed Y Y (Ea Y (Eb Y (Ed Y Y (Ea Y (Em [2] Y (Eh (Ef Y Y ?_))))))))
 rotate_left
 intro h8
 refine Eb Y (Ed Y Y (Ea Y (Eb Y (Ed Y Y (Ea Y (Eb Y (Ed Y Y (Ea Y (Em [2] Y (Eh (Ef Y Y ?_)))))))))))
 rotate_left
 intro h7
 refine Eb Y (Eb Y (Eb Y (Eb Y (Eb Y (Ed Y Y (Ek (is:=[1,44]) Y (Ea Y (Eb Y (Ed Y Y (Ea Y (Eb Y (Ed Y Y (Ea Y (Eb Y (Ed Y Y (Ea Y (Em [2] Y (Eh (Ef Y Y ?_)))))))))))))))))))
 rotate_left
 intro h6
 refine Eb Y (Eb Y (Eb Y (Ed Y Y (Ea Y (Eb Y (Eb Y (Eb Y (Eb Y (Eb Y (Ed Y Y (Ek (is:=[1,44]) Y (Ea Y (Eb Y (Ed Y Y (Ea Y (Eb Y (Ed Y Y (Ea Y (Eb Y (Ed Y Y (Ea Y (Em [2] Y (Eh (Ef Y Y ?_))))))))))))))))))))))))
 rotate_left
 intro h5
 refine Eb Y (Eb Y (Eb Y (Eb Y (Eb Y (Ek (is:=[1,21,25,30]) Y (Ec Y (Eg Y Y (Eg Y Y (Ea Y (Ec Y (Ee Y (Ec Y (En Y Y Y (Ec Y (Ev Y Y (c_53 b.model hmo) (Eg Y Y (Ea Y (s_gB Y ?_ ?_))))))))))))))))))
 intro h11
 refine Ee Y (Ec Y (Ej Y Y Y (Ec Y (Ee Y (Ec Y (Ej Y Y Y (Ec Y (Ev Y Y (c_103 ..) (Eg Y Y (Ek (is:=[1,44]) Y (Ea Y (s_gB Y ?_ ?_))))))))))))
 intro h12
 refine s_callL Y Y (by simp) (c_2 b hs he) Y (Eg Y Y (Ea Y (s_gB Y ?_ ?_)))
 intro h13
 refine s_callL Y Y (by simp) (c_9 b hs he) Y (Eg Y Y (Ea Y (s_gB Y ?_ ?_)))
 intro h14
 refine s_callL Y Y (by simp) (c_12 b hs he) Y (Eg Y Y (Ea Y (Em [2] Y (Eh (Ef Y Y ?_)))))
 rotate_left
 intro h14
 refine Eb Y (Ed Y Y (Ea Y (Em [2] Y (Eh (Ef Y Y ?_)))))
 rotate_left
 intro h13
 refine Eb Y (Ed Y Y (Ea Y (Eb Y (Ed Y Y (Ea Y (Em [2] Y (Eh (Ef Y Y ?_))))))))
 rotate_left
 intro h12
 refine Eb Y (Ed Y Y (Ea Y (Eb Y (Ed Y Y (Ea Y (Eb Y (Ed Y Y (Ea Y (Em [2] Y (Eh (Ef Y Y ?_)))))))))))
 rotate_left
 intro h11
 refine Eb Y (Eb Y (Eb Y (Eb Y (Eb Y (Ed Y Y (Ek (is:=[1,44]) Y (Ea Y (Eb Y (Ed Y Y (Ea Y (Eb Y (Ed Y Y (Ea Y (Eb Y (Ed Y Y (Ea Y (Em [2] Y (Eh (Ef Y Y ?_)))))))))))))))))))
 rotate_left
 intro h4
 refine Eb Y (Eb Y (Eb Y (Eb Y (Ff Y (Ff Y (Ff Y (Ff Y (Ff Y (Ek (is:=[1,21,25,30]) Y (Eb Y (Ed Y Y (Ea Y (Eb Y (Eb Y (Eb Y (Ed Y Y (Ea Y (Eb Y (Eb Y (Eb Y (Eb Y (Eb Y (Ed Y Y (Ek (is:=[1,44]) Y (Ea Y (Eb Y (Ed Y Y (Ea Y (Eb Y (Ed Y Y (Ea Y (Eb Y (Ed Y Y (Ea Y (Em [2] Y (Eh (Ef Y Y ?_)))))))))))))))))))))))))))))))))))))
 rotate_left
 intro h3
 refine Eb Y (Eb Y (Ek (is:=[1,14,16]) Y (Eb Y (Eb Y (Eb Y (Ed Y Y (Ea Y (Eb Y (Eb Y (Eb Y (Eb Y (Ff Y (Ff Y (Ff Y (Ff Y (Ff Y (Ek (is:=[1,21,25,30]) Y (Eb Y (Ed Y Y (Ea Y (Eb Y (Eb Y (Eb Y (Ed Y Y (Ea Y (Eb Y (Eb Y (Eb Y (Eb Y (Eb Y (Ed Y Y (Ek (is:=[1,44]) Y (Ea Y (Eb Y (Ed Y Y (Ea Y (Eb Y (Ed Y Y (Ea Y (Eb Y (Ed Y Y (Ea Y (Em [2] Y (Eh (Ef Y Y ?_)))))))))))))))))))))))))))))))))))))))))))))
 rotate_left
 intro h2
 refine Eb Y (Ed Y Y (Ea Y (Eb Y (Eb Y (Ek (is:=[1,14,16]) Y (Eb Y (Eb Y (Eb Y (Ed Y Y (Ea Y (Eb Y (Eb Y (Eb Y (Eb Y (Ff Y (Ff Y (Ff Y (Ff Y (Ff Y (Ek (is:=[1,21,25,30]) Y (Eb Y (Ed Y Y (Ea Y (Eb Y (Eb Y (Eb Y (Ed Y Y (Ea Y (Eb Y (Eb Y (Eb Y (Eb Y (Eb Y (Ed Y Y (Ek (is:=[1,44]) Y (Ea Y (Eb Y (Ed Y Y (Ea Y (Eb Y (Ed Y Y (Ea Y (Eb Y (Ed Y Y (Ea Y (Em [2] Y (Eh (Ef Y Y ?_))))))))))))))))))))))))))))))))))))))))))))))))
 rotate_left
 intro h1
 refine Eb Y (Eb Y (Eb Y (Ed Y Y (Ea Y (Eb Y (Ed Y Y (Ea Y (Eb Y (Eb Y (Ek (is:=[1,14,16]) Y (Eb Y (Eb Y (Eb Y (Ed Y Y (Ea Y (Eb Y (Eb Y (Eb Y (Eb Y (Ff Y (Ff Y (Ff Y (Ff Y (Ff Y (Ek (is:=[1,21,25,30]) Y (Eb Y (Ed Y Y (Ea Y (Eb Y (Eb Y (Eb Y (Ed Y Y (Ea Y (Eb Y (Eb Y ?_)))))))))))))))))))))))))))))))))))
 refine Eb Y (Eb Y (Eb Y (Ed Y Y (Ek (is:=[1,44]) Y (Ea Y (Eb Y (Ed Y Y (Ea Y (Eb Y (Ed Y Y (Ea Y (Eb Y (Ed Y Y (Ea Y (Em [2] Y (Eh (Ef Y Y ?_)))))))))))))))))
 rotate_left
 all_goals
  clear hs hmo;simp_all [Bus.okB];done
theorem take_snoc {α:Type} (r:α→List V) {xs:List α} {i:Nat} {y:α} (h:xs[i]?=some y):(xs.take (i+1)).map r=(xs.take i).map r++[r y]:=by
 rw[take_get h,List.map_append];rfl
theorem take_all {α:Type} {xs:List α} {i:Nat} (h:xs.length≤i):xs.take i=xs:=List.take_of_length_le h
theorem cg_253 (xs:List Int) (hl:xs.length≤1048576):GV prg 253 [] [.sl 1 (xs.map iR)] (fun u L1=>u=.ls 0 xs.length∧L1=[.arr 1 (xs.map iR)]):=by
 refine gv_in g253 (Ei [0] Y (Et (Ea Y (Em [0] Y (Ey (Et (Ea Y (s_eqnilS Y ?_ ?_))))))))
 refine Em [0,4] Y (Fi Y (z_s [0] Y (Et (Fa (o_bs Y Y Y Y) (Ea Y ?_)))))
 refine Fa (o_app Y Y Y Y Y (by simp [roomy];omega)) ?_
 refine Ea Y (Em [2] Y (Eh ?_))
 rotate_left
 intro hnil
 refine Em [0,4] Y (Fd Y (Et (Ea Y (Em [2] Y (s_nil 2 1 Y ⟨Y,Y⟩ Y (Eh (Ep ?_)))))))
 rotate_left
 all_goals
  refine Fv [0] (.inr Y) Y Y Y Y (show(List.range 0++[0]).Nodup by decide) ?_
  first|(have:xs=[]:=List.map_eq_nil_iff.1 hnil
         subst this;exact⟨Y,Y⟩)|exact⟨by simp,rfl⟩
theorem c_100 (x:Req) (hs:x.small):CV prg 100 [.agg x.r] (fun res=>res=.agg x.r):=by
 refine cv_in g100 (Ei [0] Y (Et (u_box Y Y Y (Fu Y Y (z_q [1,2] Y (Ee Y (Ej Y Y Y (Fg [] Y Y Y Y (by simp) (.inl Y) (cg_253 _ hs) ?_))))))))
 rintro u L1 ⟨rfl,rfl⟩
 refine⟨_,_,Y,Y,?_⟩
 refine Ee Y (Eo (o_stC Y Y Y Y Y Y) (z_q [1,2] Y (En Y Y Y (Eo (Er Y Y Y Y Y Y Y) (Em [2] Y (Eh ?_))))))
 ·refine ret_leafA (.inr Y) Y Y (by simp) ?_
  rfl
theorem cg_99 (m:Mst) (hs:m.small):GV prg 99 [] [.agg m.r] (fun u L1=>u=.agg [.ls 0 m.queue.length,.w (.int .i64 m.beat),.w (.int .i64 m.done),.w (.int .i64 m.tries),.w (.bool m.parted),.w (.bool m.broken)]∧L1=[.arr 6 (m.queue.map Req.r)]):=by
 have hq:=hs.1
 have hqs:=hs.2
 refine gv_in g99 (Ei [0] Y (Et (u_box Y Y Y (Fu Y Y (z_q [1,2] Y (Fa (o_bs Y Y Y Y) (Ea Y (Em [1,2,3] Y (Ey (Et (Ee Y (Ej Y Y Y (Fw Y ?_)))))))))))))
 refine Ea Y (Em [1,2,3,8,9,10] Y (Fh (S_loop (ι:=Nat) (fun i=>i≤m.queue.length) (fun i=>[(10,.w (.int .i64 (i:Int))),(3,.ls 2 ((m.queue.take i).map Req.r).length)]) (fun i=>[.cell m.r,.cell [.w (.slice none 0 0),.w (.int .i64 0),.w (.int .i64 0),.w (.int .i64 0),.w (.bool false),.w (.bool false)],.arr 6 ((m.queue.take i).map Req.r)]) (fun i=>m.queue.length-i) 3 0 (by simp) Y (hasOf ⟨Y,Y,trivial⟩ Y) Y (fun _ _=>Y) (fun _ _=>⟨Y,Y⟩) ?_)))
 intro i hi
 have hml:(m.queue.take i).length≤i:=by rw[List.length_take];omega
 refine Ei [1,2,3,8,9,10] Y (Et (u_lss Y Y (Em [1,2,3,8,9,10,11] Y (Ey (Ew Y ?_ ?_)))))
 intro h1
 refine z_s [1,2,3,8,9,10] Y (Ey (Fh (Et (s_iaM Y Y (by omega) ?_))))
 intro y2 e2
 simp only[Int.toNat_natCast,Int.toNat_zero] at e2
 refine u_ldn Y Y (Fu Y Y (Eo (Er Y Y Y Y Y Y Y) (Em [1,2,3,5,8,9,10] Y (Fs (Ea Y (En Y Y Y (Ev Y Y (c_100 _ (hqs _ (List.mem_of_getElem? (by assumption)))) (Fa (o_bs Y Y Y Y) ?_))))))))
 refine Fa (o_appL Y Y Y Y Y Y Y (by simp [roomy];omega)) ?_
 refine Ea Y (Ez (Fb (Eu (Ei [1,2,3,8,9,10] Y (Fs (Fa (Fn Y Y (by omega)) (Ea Y (Ez (Fp ?_)))))))))
 ·refine⟨i+1,by omega,by omega,hasOf ⟨rfl,?_,trivial⟩ ?_⟩ <;> rw[take_snoc _ (by assumption)] <;> rfl
 intro h1
 refine s_exit (q_seqX (q_loopX (q_blkH (Eu (Ei [1,2,3] Y (Et (Ea Y (Ee Y (Eo (o_stC Y Y Y Y Y Y) (z_q [1,2] Y (En Y Y Y (Eo (Er Y Y Y Y Y Y Y) (Em [2] Y (Eh ?_))))))))))))))
 ·refine Fv [2] (.inr Y) Y Y Y Y (show(List.range 0++[2]).Nodup by decide) ?_
  rw[take_all (show m.queue.length≤i by omega)];exact⟨by simp,rfl⟩
def Mst.issueC (m:Mst):Bool:=m.right && decide (m.beat<m.beats) && decide (m.beat≠m.done+2)
def Mst.issue (m:Mst):Mst×Bool:=if m.issueC then(⟨m.queue,m.beat+1,m.done,m.tries,m.parted,m.broken⟩,true) else(m,false)
def Mst.backC (m:Mst):Bool:=m.right && decide (m.beat≠m.done)
def Mst.back (m:Mst):Mst×Bool:=if m.backC then(⟨m.queue,m.beat-1,m.done,m.tries,m.parted,m.broken⟩,true) else(m,false)
theorem m_issue_no {m:Mst} (h:m.issueC=false):m.issue=(m,false):=by unfold Mst.issue;rw[h];rfl
theorem m_issue_yes {m:Mst} (h:m.issueC=true):m.issue=(⟨m.queue,m.beat+1,m.done,m.tries,m.parted,m.broken⟩,true):=by unfold Mst.issue;rw[h];rfl
theorem m_back_no {m:Mst} (h:m.backC=false):m.back=(m,false):=by unfold Mst.back;rw[h];rfl
theorem m_back_yes {m:Mst} (h:m.backC=true):m.back=(⟨m.queue,m.beat-1,m.done,m.tries,m.parted,m.broken⟩,true):=by unfold Mst.back;rw[h];rfl
theorem right_bd {m:Mst} (h:m.right=true):0≤m.done∧m.done≤8∧0≤m.beat∧m.beat≤8∧m.done≤m.beat:=by
 have hb:=m.beats_bd
 simp only[Mst.right,Bool.and_eq_true] at h
 have h2:=h.2
 split at h2
 ·simp only[Bool.and_eq_true,decide_eq_true_eq] at h2
  omega
 ·simp only[Bool.and_eq_true] at h2
  have h3:=inB_t h2.1
  have h4:=inB_t h2.2
  omega
theorem wants_bd {m:Mst} (h:(m.right && decide (m.beat<m.beats))=true):m.right=true∧0≤m.done∧m.done≤8∧0≤m.beat∧m.beat≤8∧m.done≤m.beat:=by
 rw[Bool.and_eq_true] at h
 exact⟨h.1,right_bd h.1⟩
theorem c_57 (m:Mst) (hs:m.small):CV prg 57 [.agg m.r] (fun res=>res=.tup [.agg m.issue.1.r,.w (.bool m.issue.2)]):=by
 have hq:=hs.1
 refine cv_in g57 (Ei [0] Y (Et (u_box Y Y Y (Fu Y Y (Ea Y (z_q [1,2] Y (En Y Y Y (Fg [] Y Y Y Y (by simp) (.inl Y) (cg_99 _ hs) ?_))))))))
 rintro u L1 ⟨rfl,rfl⟩
 refine⟨_,_,Y,Y,?_⟩
 refine Fu Y Y (Eo (Er Y Y Y Y Y Y Y) (Em [1,2,4] Y (Ey (Et (En Y Y Y (Ev Y Y (c_59 _ (by assumption)) (Fk Y (Ea Y (s_gNF Y ?_ ?_)))))))))
 intro h1
 have h1':=wants_bd h1
 refine Ee Y (Ec Y (Ej Y Y Y (Ec Y (Ee Y (Ec Y (Ej Y Y Y (Ec Y (Fa (Fn Y Y (by omega)) (Ec Y (Fm Y Y (Ed Y Y (Em [2,4,17] Y (Ew Y ?_ ?_)))))))))))))
 intro h2
 refine Et (En Y Y Y (Eo (Er Y Y Y Y Y Y Y) (Ea Y (Em [2,3] Y (Eh (Ep ?_))))))
 rotate_left
 intro h2
 refine z_s [2,4] Y (Et (Ee Y (Ej Y Y Y (Fa (Fn Y Y (by omega)) (Ee Y (Eo (o_stC Y Y Y Y Y Y) (z_q [2,4] Y (En Y Y Y (Eo (Er Y Y Y Y Y Y Y) (Ea Y (Em [2,3] Y (Eh ?_))))))))))))
 rotate_left
 intro h1
 iterate 6 refine Eb rfl ?_
 refine Eg Y Y (Em [2,4,17] Y (Fd Y (Et (En Y Y Y (Eo (Er Y Y Y Y Y Y Y) (Ea Y (Em [2,3] Y (Eh (Ep ?_)))))))))
 rotate_left
 all_goals
  refine ret_leafA (.inr Y) Y Y (by simp) ?_
  first|(refine(Eq.trans (congrArg (fun p:Mst×Bool=>V.tup [.agg p.1.r,.w (.bool p.2)]) (m_issue_no (m:=m) ?_)) Y).symm;clear hs;unfold Mst.issueC;clear hq;generalize m.right=r at *;generalize m.beats=n at *;generalize m.beat=b at *;generalize m.done=d at *;first|(simp_all;done)|(cases r <;> simp_all <;> intros <;> omega))|(refine(Eq.trans (congrArg (fun p:Mst×Bool=>V.tup [.agg p.1.r,.w (.bool p.2)]) (m_issue_yes (m:=m) ?_)) Y).symm;clear hs;unfold Mst.issueC;clear hq;generalize m.right=r at *;generalize m.beats=n at *;generalize m.beat=b at *;generalize m.done=d at *;simp_all;done)
theorem c_55 (m:Mst) (hs:m.small):CV prg 55 [.agg m.r] (fun res=>res=.tup [.agg m.back.1.r,.w (.bool m.back.2)]):=by
 have hq:=hs.1
 refine cv_in g55 (Ei [0] Y (Et (u_box Y Y Y (Fu Y Y (Ea Y (z_q [1,2] Y (En Y Y Y (Fg [] Y Y Y Y (by simp) (.inl Y) (cg_99 _ hs) ?_))))))))
 rintro u L1 ⟨rfl,rfl⟩
 refine⟨_,_,Y,Y,?_⟩
 refine Fu Y Y (Eo (Er Y Y Y Y Y Y Y) (Em [1,2,4] Y (Ey (Et (En Y Y Y (Ev Y Y (c_88 _ (by assumption)) (Fk Y (Ea Y (s_gNF Y ?_ ?_)))))))))
 intro h1
 have h1':=right_bd h1
 refine Ee Y (Ec Y (Ej Y Y Y (Ec Y (Ee Y (Ec Y (Ej Y Y Y (Ec Y (Fm Y Y (Ed Y Y (Em [2,4,16] Y (Ew Y ?_ ?_)))))))))))
 intro h2
 refine Et (En Y Y Y (Eo (Er Y Y Y Y Y Y Y) (Ea Y (Em [2,3] Y (Eh (Ep ?_))))))
 rotate_left
 intro h2
 refine z_s [2,4] Y (Et (Ee Y (Ej Y Y Y (Fa (o_subn Y Y (by omega)) (Ee Y (Eo (o_stC Y Y Y Y Y Y) (z_q [2,4] Y (En Y Y Y (Eo (Er Y Y Y Y Y Y Y) (Ea Y (Em [2,3] Y (Eh ?_))))))))))))
 rotate_left
 intro h1
 refine Eb Y (Eb Y (Eb Y (Eb Y (Eb Y (Eg Y Y (Em [2,4,16] Y (Fd Y (Et (En Y Y Y (Eo (Er Y Y Y Y Y Y Y) (Ea Y (Em [2,3] Y (Eh (Ep ?_))))))))))))))
 rotate_left
 all_goals
  refine ret_leafA (.inr Y) Y Y (by simp) ?_
  first|(refine(Eq.trans (congrArg (fun p:Mst×Bool=>V.tup [.agg p.1.r,.w (.bool p.2)]) (m_back_no (m:=m) ?_)) Y).symm;clear hs;unfold Mst.backC;clear hq;generalize m.right=r at *;generalize m.beats=n at *;generalize m.beat=b at *;generalize m.done=d at *;simp_all;done)|(refine(Eq.trans (congrArg (fun p:Mst×Bool=>V.tup [.agg p.1.r,.w (.bool p.2)]) (m_back_yes (m:=m) ?_)) Y).symm;clear hs;unfold Mst.backC;clear hq;generalize m.right=r at *;generalize m.beats=n at *;generalize m.beat=b at *;generalize m.done=d at *;simp_all;done)
def Mst.finC (m:Mst):Bool:=m.right && decide (m.beat≠m.done)
def Mst.fin (m:Mst):Mst×Bool:=if m.finC then(if m.done+1=m.beats then(⟨m.queue.drop 1,0,0,0,false,false⟩,true) else(⟨m.queue,m.beat,m.done+1,0,false,m.broken⟩,true)) else(m,false)
theorem m_fin_no {m:Mst} (h:m.finC=false):m.fin=(m,false):=by unfold Mst.fin;rw[h];rfl
theorem m_fin_last {m:Mst} (h:m.finC=true∧m.done+1=m.beats):m.fin=(⟨m.queue.drop 1,0,0,0,false,false⟩,true):=by unfold Mst.fin;rw[h.1,if_pos rfl,if_pos h.2]
theorem m_fin_yes {m:Mst} (h:m.finC=true∧¬ m.done+1=m.beats):m.fin=(⟨m.queue,m.beat,m.done+1,0,false,m.broken⟩,true):=by unfold Mst.fin;rw[h.1,if_pos rfl,if_neg h.2]
theorem take_map_len {α:Type} (r:α→List V) (xs:List α):(xs.map r).take xs.length=xs.map r:=List.take_of_length_le (by simp)
theorem c_18b (m:Mst) (d:Int):CV prg 18 [.rp (Mst.r ⟨m.queue,m.beat,d,m.tries,m.parted,m.broken⟩) 0] (fun v=>v=.w (.int .i64 m.beats)):=c_18 ⟨m.queue,m.beat,d,m.tries,m.parted,m.broken⟩
theorem right_q {m:Mst} (h:m.right=true) (hne:¬ m.beat=m.done):1≤m.queue.length:=by
 simp only[Mst.right,Bool.and_eq_true] at h
 have h2:=h.2
 split at h2
 ·simp only[Bool.and_eq_true,decide_eq_true_eq] at h2
  omega
 ·omega
def Mst.postC (m:Mst) (x:Req):Bool:=m.right && x.ok && decide (¬ (m.queue.length:Int)=4)
def Mst.post (m:Mst) (x:Req):Mst×Bool:=if m.postC x then(⟨m.queue++[x],m.beat,m.done,m.tries,m.parted,m.broken⟩,true) else(m,false)
theorem m_post_no {m:Mst} {x:Req} (h:m.postC x=false):m.post x=(m,false):=by unfold Mst.post;rw[h];rfl
theorem m_post_yes {m:Mst} {x:Req} (h:m.postC x=true):m.post x=(⟨m.queue++[x],m.beat,m.done,m.tries,m.parted,m.broken⟩,true):=by unfold Mst.post;rw[h];rfl
theorem c_56 (m:Mst) (hs:m.small):CV prg 56 [.agg m.r] (fun res=>res=.tup [.agg m.fin.1.r,.w (.bool m.fin.2)]):=by
 have hq:=hs.1
 refine cv_in g56 (Ei [0] Y (Et (u_box Y Y Y (Fu Y Y (Ea Y (z_q [1,2] Y (En Y Y Y (Fg [] Y Y Y Y (by simp) (.inl Y) (cg_99 _ hs) ?_))))))))
 rintro u L1 ⟨rfl,rfl⟩
 refine⟨_,_,Y,Y,?_⟩
 refine Fu Y Y (Eo (Er Y Y Y Y Y Y Y) (Em [1,2,4] Y (Ey (Et (En Y Y Y (Ev Y Y (c_88 _ hs) (Fk Y (Ea Y (s_gNF Y ?_ ?_)))))))))
 intro h1
 have h1':=right_bd h1
 refine Ee Y (Ec Y (Ej Y Y Y (Ec Y (Ee Y (Ec Y (Ej Y Y Y (Ec Y (Fm Y Y (Ed Y Y (Em [2,4,16] Y (Ew Y ?_ ?_)))))))))))
 intro h2
 refine Et (En Y Y Y (Eo (Er Y Y Y Y Y Y Y) (Ea Y (Em [2,3] Y (Eh (Ep ?_))))))
 rotate_left
 intro h2
 have h2':=right_q (by assumption) h2
 refine z_s [2,4] Y (Et (Ee Y (Ej Y Y Y (Fa (Fn Y Y (by omega)) (Ee Y (Eo (o_stC Y Y Y Y Y Y) (Em [2,4] Y (Ey (Et (Ee Y (Ej Y Y Y (s_callL Y Y (by simp) (c_18b m (m.done+1)) Y (Fm Y Y (Em [2,4,25] Y (Ew Y ?_ ?_)))))))))))))))
 intro h3
 refine Et (Ee Y (Ej Y Y Y (s_cut Y Y (by simp) Y Y (by simp;omega) Y Y (u_bd Y Y (Eo (Er Y Y Y Y Y Y Y) (Ea Y (Em [2,3] Y (Eh ?_))))))))
 refine Ep ?_
 rotate_left
 intro h3
 refine z_s [2,4] Y (Et (Ee Y (Eo (o_stC Y Y Y Y Y Y) (z_q [2,4] Y (Ee Y (Eo (o_stC Y Y Y Y Y Y) (z_q [2,4] Y (En Y Y Y (Eo (Er Y Y Y Y Y Y Y) (Ea Y (Em [2,3] Y (Eh ?_))))))))))))
 rotate_left
 intro h1
 refine Eb Y (Eb Y (Eb Y (Eb Y (Eb Y (Eg Y Y (Em [2,4,16] Y (Fd Y (Et (En Y Y Y (Eo (Er Y Y Y Y Y Y Y) (Ea Y (Em [2,3] Y (Eh (Ep ?_))))))))))))))
 rotate_left
 all_goals
  refine ret_leafA (.inr Y) Y Y (by simp) ?_
  first|(refine(Eq.trans (congrArg (fun p:Mst×Bool=>V.tup [.agg p.1.r,.w (.bool p.2)]) (m_fin_no (m:=m) ?_)) Y).symm;clear hs;unfold Mst.finC;clear hq;generalize m.right=r at *;generalize m.beats=n at *;generalize m.beat=b at *;generalize m.done=d at *;simp_all;done)|(refine(Eq.trans (congrArg (fun p:Mst×Bool=>V.tup [.agg p.1.r,.w (.bool p.2)]) (m_fin_yes (m:=m) ?_)) Y).symm;clear hs;unfold Mst.finC;clear hq;generalize m.right=r at *;generalize m.beats=n at *;generalize m.beat=b at *;generalize m.done=d at *;simp_all;done)|(refine(Eq.trans (congrArg (fun p:Mst×Bool=>V.tup [.agg p.1.r,.w (.bool p.2)]) (m_fin_last (m:=m) ?_)) (by simp [Mst.r,List.map_drop,take_map_len])).symm;clear hs;unfold Mst.finC;clear hq;generalize m.right=r at *;generalize m.beats=n at *;generalize m.beat=b at *;generalize m.done=d at *;simp_all;done)
theorem c_58 (m:Mst) (x:Req) (hs:m.small) (hx:x.small):CV prg 58 [.agg m.r,.agg x.r] (fun res=>res=.tup [.agg (m.post x).1.r,.w (.bool (m.post x).2)]):=by
 have hq:=hs.1
 refine cv_in g58 (Ei [0,1] Y (Et (u_box Y Y Y (u_box Y Y Y (Fu Y Y (Ea Y (z_q [2,3,4] Y (En Y Y Y (Fg [] Y Y Y Y (by simp) (.inl Y) (cg_99 _ hs) ?_)))))))))
 rintro u L1 ⟨rfl,rfl⟩
 refine⟨_,_,Y,Y,?_⟩
 refine Fu Y Y (Eo (Er Y Y Y Y Y Y Y) (Em [2,3,4,6] Y (Ey (Et (En Y Y Y (Ev Y Y (c_88 _ (by assumption)) (Fk Y (Ea Y (s_gNF Y ?_ ?_)))))))))
 intro h1
 refine En Y Y Y (Ec Y (Ev Y Y (c_66 _ (by assumption)) (Ec Y (Fk Y (Ed Y Y (Ea Y (s_gNF Y ?_ ?_)))))))
 intro h2
 refine Ee Y (Ec Y (Ej Y Y Y (Ec Y (Fw Y (Ec Y (Fm Y Y (Ed Y Y (Em [3,4,6,22] Y (Ew Y ?_ ?_)))))))))
 intro h3
 refine Et (En Y Y Y (Eo (Er Y Y Y Y Y Y Y) (Ea Y (Em [4,5] Y (Eh (Ep ?_))))))
 rotate_left
 intro h3
 refine z_s [3,4,6] Y (Et (Ee Y (Ej Y Y Y (En Y Y Y (Ev Y Y (c_100 x hx) (Fa (o_bs Y Y Y Y) ?_))))))
 refine Fa (o_appL Y Y (by simp) Y Y Y Y (by simp [roomy];omega)) ?_
 refine Ee Y (Eo (o_stC Y Y Y Y Y Y) (z_q [4,6] Y (En Y Y Y (Eo (Er Y Y Y Y Y Y Y) (Ea Y (Em [4,5] Y (Eh ?_)))))))
 rotate_left
 intro h2
 refine Eb Y (Eb Y (Eb Y (Eb Y (Eg Y Y (Em [3,4,6,22] Y (Fd Y (Et (En Y Y Y (Eo (Er Y Y Y Y Y Y Y) (Ea Y (Em [4,5] Y (Eh (Ep ?_)))))))))))))
 rotate_left
 intro h1
 refine Eb Y (Eb Y (Eb Y (Eg Y Y (Ea Y (Eb Y (Eb Y (Eb Y (Eb Y (Eg Y Y (Em [3,4,6,22] Y (Fd Y (Et (En Y Y Y (Eo (Er Y Y Y Y Y Y Y) (Ea Y (Em [4,5] Y (Eh (Ep ?_))))))))))))))))))
 rotate_left
 all_goals
  refine ret_leafA (.inr Y) Y Y (by simp) ?_
  first|(refine(Eq.trans (congrArg (fun p:Mst×Bool=>V.tup [.agg p.1.r,.w (.bool p.2)]) (m_post_no (m:=m) (x:=x) ?_)) Y).symm;clear hs hx;simp_all [Mst.postC];done)|(refine(Eq.trans (congrArg (fun p:Mst×Bool=>V.tup [.agg p.1.r,.w (.bool p.2)]) (m_post_yes (m:=m) (x:=x) ?_)) (by simp [Mst.r])).symm;clear hs hx;simp_all [Mst.postC];done)
def Mst.fit (m:Mst):Prop:=m.queue.length≤4∧∀ x,x∈m.queue→x.data.length≤16
def Mst.fit5 (m:Mst):Prop:=m.queue.length≤5∧∀ x,x∈m.queue→x.data.length≤16
theorem Mst.fit.to5 {m:Mst} (h:m.fit):m.fit5:=⟨Nat.le_trans h.1 (by decide),h.2⟩
theorem Mst.fit5.small {m:Mst} (h:m.fit5):m.small:=⟨Nat.le_trans h.1 (by decide),fun x hx=>Nat.le_trans (h.2 x hx) (by decide)⟩
theorem Mst.fit.small {m:Mst} (h:m.fit):m.small:=h.to5.small
theorem Mst.fit.issue {m:Mst} (h:m.fit):m.issue.1.fit:=by
 unfold Mst.issue
 split
 ·exact h
 ·exact h
theorem Mst.fit.back {m:Mst} (h:m.fit):m.back.1.fit:=by
 unfold Mst.back
 split
 ·exact h
 ·exact h
theorem Mst.fit.fin {m:Mst} (h:m.fit):m.fin.1.fit:=by
 unfold Mst.fin
 split
 ·split
  ·exact⟨by simp only[List.length_drop];have:=h.1;omega,fun x hx=>h.2 x (List.mem_of_mem_drop hx)⟩
  ·exact h
 ·exact h
theorem Mst.fit.post {m:Mst} (h:m.fit) {x:Req} (hx:x.data.length≤16):(m.post x).1.fit:=by
 unfold Mst.post
 split
 ·rename_i hc
  unfold Mst.postC at hc
  simp only[Bool.and_eq_true,decide_eq_true_eq] at hc
  refine⟨by simp only[List.length_append,List.length_cons,List.length_nil];have:=h.1;omega,fun y hy=>?_⟩
  rcases List.mem_append.1 hy with hy|hy
  ·exact h.2 y hy
  ·rw[List.mem_singleton.1 hy];exact hx
 ·exact h
def mst0:Mst:=⟨[],0,0,0,false,false⟩
def Mst.n (x:Mst):List V:=[.w (.slice none 0 0),.w (.int .i64 x.beat),.w (.int .i64 x.done),.w (.int .i64 x.tries),.w (.bool x.parted),.w (.bool x.broken)]
def bus0:Bus:=⟨⟨[],0,0,0,0,0⟩,0,[],⟨0,0⟩,[],[],0,0,0,⟨false,0,0,false,0,0,0,false⟩,⟨false,0,0,false,0,0,0,false⟩,⟨[],⟨[],0,[]⟩⟩,0,[]⟩
def model0:Model:=⟨List.replicate 192 0,⟨List.replicate 4 0,0,[]⟩⟩
def bus1 (c:Conf):Bus:=⟨c,0,List.replicate c.masters.length mst0,⟨0,0⟩,c.masters.map MConf.newB,List.replicate c.masters.length 0,-1,0,-1,⟨false,0,0,false,0,0,0,false⟩,⟨false,0,0,false,0,0,0,false⟩,model0,0,[]⟩
def newBus (c:Conf):Bus:=if c.ok then bus1 c else bus0
def Bus.mid (b:Bus):List V:=[.w (.int .i64 b.holder),.w (.int .i64 b.kept),.w (.int .i64 b.last),.w (.bool b.addr.live),.w (.int .i64 b.addr.who),.w (.int .i64 b.addr.num),.w (.bool b.addr.first),.w (.int .i64 b.addr.via),.w (.int .i64 b.addr.left),.w (.int .i64 b.addr.resp),.w (.bool b.addr.second),.w (.bool b.data.live),.w (.int .i64 b.data.who),.w (.int .i64 b.data.num),.w (.bool b.data.first),.w (.int .i64 b.data.via),.w (.int .i64 b.data.left),.w (.int .i64 b.data.resp),.w (.bool b.data.second)]
def Bus.o (b:Bus):List V:=[.ls 0 b.conf.masters.length,.w (.int .i64 b.conf.quantum),.w (.int .i64 b.conf.maxWait),.w (.int .i64 b.conf.maxRetry),.w (.int .i64 b.conf.maxSplit),.w (.int .i64 b.conf.lockMost),.w (.int .i64 b.now),.ls 1 b.ms.length,.w (.int .i64 b.arb.pos),.w (.int .i64 b.arb.credit),.ls 2 b.buckets.length,.ls 3 b.splits.length]++b.mid++[.ls 4 b.model.ram.length,.ls 5 b.model.dev.regs.length,.w (.int .i64 b.model.dev.timer),.ls 6 b.model.dev.fifo.length,.w (.int .i64 b.picks),.ls 7 b.log.length]
def Bus.n (b:Bus):List V:=[.sl 4 (b.conf.masters.map MConf.r),.w (.int .i64 b.conf.quantum),.w (.int .i64 b.conf.maxWait),.w (.int .i64 b.conf.maxRetry),.w (.int .i64 b.conf.maxSplit),.w (.int .i64 b.conf.lockMost),.w (.int .i64 b.now),.sl 6 (b.ms.map Mst.n),.w (.int .i64 b.arb.pos),.w (.int .i64 b.arb.credit),.sl 2 (b.buckets.map Bucket.r),.sl 1 (b.splits.map iR)]++b.mid++[.sl 1 (b.model.ram.map iR),.sl 1 (b.model.dev.regs.map iR),.w (.int .i64 b.model.dev.timer),.sl 1 (b.model.dev.fifo.map iR),.w (.int .i64 b.picks),.sl 7 (b.log.map Done.r)]
theorem rep_snoc {α:Type} (r:α→List V) (x:α) (i:Nat):(List.replicate (i+1) x).map r=(List.replicate i x).map r++[r x]:=by rw[List.replicate_succ',List.map_append];rfl
theorem take_snoc2 {α β:Type} (f:α→β) (r:β→List V) {xs:List α} {i:Nat} {y:α} (h:xs[i]?=some y):((xs.take (i+1)).map f).map r=((xs.take i).map f).map r++[r (f y)]:=by
 rw[take_get h,List.map_append,List.map_append];rfl
theorem rep192:List.replicate (192:Int).toNat [V.w (.int .i64 0)]=(List.replicate 192 (0:Int)).map iR:=by rw[List.map_replicate];rfl
theorem cg_188  : GV prg 188 [] [] (fun u L1=>u=.agg [.ls 0 4,.w (.int .i64 0),.w (.slice none 0 0)]∧L1=[.arr 1 ((List.replicate 4 (0:Int)).map iR)]):=by
 refine gv_in g188 (Ei [] Y (Et (Fu Y Y (z_q [0] Y (Fa (o_mk Y Y Y Y (by decide) Y) (u_bd Y Y (Eo (Er Y Y Y Y Y Y Y) (Em [0] Y (Eh ?_)))))))))
 ·refine Fv [1] (.inr Y) Y Y Y Y (show(List.range 0++[1]).Nodup by decide) ?_
  exact⟨Y,Y⟩
theorem cg_202  : GV prg 202 [] [] (fun u L1=>u=.agg [.ls 0 192,.ls 1 4,.w (.int .i64 0),.w (.slice none 0 0)]∧L1=[.arr 1 ((List.replicate 192 (0:Int)).map iR),.arr 1 ((List.replicate 4 (0:Int)).map iR)]):=by
 refine gv_in g202 (Ei [] Y (Et (Fu Y Y (z_q [0] Y (Fa (o_mk Y Y Y Y (by decide) Y) (Fg [] Y Y Y Y (by simp) (.inr Y) (cg_188) ?_))))))
 rintro u L1 ⟨rfl,rfl⟩
 refine⟨_,_,Y,Y,?_⟩
 refine u_bd Y Y (Eo (Er Y Y Y Y Y Y Y) (Em [0] Y (Eh ?_)))
 ·refine Fv [1,2] (.inr Y) Y Y Y Y (show(List.range 0++[1,2]).Nodup by decide) ?_
  exact⟨Y,by rw[rep192]⟩
theorem cg_256 (xs:List MConf) (hl:xs.length≤1048576):GV prg 256 [] [.sl 4 (xs.map MConf.r)] (fun u L1=>u=.ls 0 xs.length∧L1=[.arr 4 (xs.map MConf.r)]):=by
 refine gv_in g256 (Ei [0] Y (Et (Ea Y (Em [0] Y (Ey (Et (Ea Y (s_eqnilS Y ?_ ?_))))))))
 refine Em [0,4] Y (Fi Y (z_s [0] Y (Et (Fa (o_bs Y Y Y Y) (Ea Y ?_)))))
 refine Fa (o_app Y Y Y Y Y (by simp [roomy];omega)) ?_
 refine Ea Y (Em [2] Y (Eh ?_))
 rotate_left
 intro hnil
 refine Em [0,4] Y (Fd Y (Et (Ea Y (Em [2] Y (s_nil 2 4 Y ⟨Y,Y⟩ Y (Eh (Ep ?_)))))))
 rotate_left
 all_goals
  refine Fv [0] (.inr Y) Y Y Y Y (show(List.range 0++[0]).Nodup by decide) ?_
  first|(have:xs=[]:=List.map_eq_nil_iff.1 hnil
         subst this;exact⟨Y,Y⟩)|exact⟨by simp,rfl⟩
theorem cg_96 (c:Conf) (hl:c.masters.length≤1048576):GV prg 96 [] [.agg c.r] (fun u L1=>u=.agg [.ls 0 c.masters.length,.w (.int .i64 c.quantum),.w (.int .i64 c.maxWait),.w (.int .i64 c.maxRetry),.w (.int .i64 c.maxSplit),.w (.int .i64 c.lockMost)]∧L1=[.arr 4 (c.masters.map MConf.r)]):=by
 refine gv_in g96 (Ei [0] Y (Et (u_box Y Y Y (Fu Y Y (z_q [1,2] Y (Ee Y (Ej Y Y Y (Fg [] Y Y Y Y (by simp) (.inl Y) (cg_256 _ hl) ?_))))))))
 rintro u L1 ⟨rfl,rfl⟩
 refine⟨_,_,Y,Y,?_⟩
 refine Ee Y (Eo (o_stC Y Y Y Y Y Y) (z_q [1,2] Y (En Y Y Y (Eo (Er Y Y Y Y Y Y Y) (Em [2] Y (Eh ?_))))))
 ·refine Fv [2] (.inr Y) Y Y Y Y (show(List.range 0++[2]).Nodup by decide) ?_
  exact⟨Y,Y⟩
theorem cg_244 (c:Conf) (hl:c.masters.length≤1048576):GV prg 244 [] [.agg c.r] (fun u L1=>u=.agg [.ls 0 c.masters.length,.w (.int .i64 c.quantum),.w (.int .i64 c.maxWait),.w (.int .i64 c.maxRetry),.w (.int .i64 c.maxSplit),.w (.int .i64 c.lockMost)]∧L1=[.arr 4 (c.masters.map MConf.r)]):=by
 refine gv_in g244 (Ei [0] Y (Et (u_box Y Y Y (Fu Y Y (z_q [1,2] Y (Fa (o_bs Y Y Y Y) (Ee Y (Ej Y Y Y ?_))))))))
 refine Fa (o_app Y Y Y Y Y (by simp [roomy];omega)) ?_
 refine Ee Y (Eo (o_stC Y Y Y Y Y Y) (z_q [1,2] Y (En Y Y Y (Eo (Er Y Y Y Y Y Y Y) (Em [2] Y (Eh ?_))))))
 ·refine Fv [2] (.inr Y) Y Y Y Y (show(List.range 0++[2]).Nodup by decide) ?_
  exact⟨by simp,by simp⟩
def Bus.rows (b:Bus):List LB:=[.arr 4 (b.conf.masters.map MConf.r),.arr 6 (b.ms.map Mst.n),.arr 2 (b.buckets.map Bucket.r),.arr 1 (b.splits.map iR),.arr 1 (b.model.ram.map iR),.arr 1 (b.model.dev.regs.map iR),.arr 1 (b.model.dev.fifo.map iR),.arr 7 (b.log.map Done.r)]
theorem c_181 (c:Conf) (hl:c.masters.length≤1048576):CV prg 181 [.agg c.r] (fun res=>res=.tup [.agg (newBus c).n,.w (.bool c.ok)]):=by
 have hml:=hl
 refine cv_in g181 (Ei [0] Y (Et (u_box Y Y Y (Fu Y Y (Ea Y (Em [1,2] Y (Ey (Et (En Y Y Y (Ev Y Y (c_184 c hl) (Fk Y (Em [1,2,8] Y (s_condNB Y ?_ ?_)))))))))))))
 intro h1
 refine Et (u_bd Y Y (Eo (Er Y Y Y Y Y Y Y) (Ea Y (Em [2,3] Y ?_))))
 refine s_nilC 1 0 4 Y Y Y Y Y ?_;refine s_nilC 1 7 6 Y Y Y Y Y ?_;refine s_nilC 1 10 2 Y Y Y Y Y ?_;refine s_nilC 1 11 1 Y Y Y Y Y ?_;refine s_nilC 1 31 1 Y Y Y Y Y ?_;refine s_nilC 1 32 1 Y Y Y Y Y ?_;refine s_nilC 1 34 1 Y Y Y Y Y ?_;refine s_nilC 1 36 7 Y Y Y Y Y ?_
 refine Eh (Ep ?_)
 rotate_left
 intro h1
 refine z_s [1,2] Y (Et (En Y Y Y (Fg [] Y Y Y Y (by simp) (.inl Y) (cg_244 _ hl) ?_)))
 rintro u L1 ⟨rfl,rfl⟩
 refine⟨_,_,Y,Y,?_⟩
 refine Fg [] Y Y Y Y (by simp) (.inl Y) (cg_202) ?_
 rintro u L1 ⟨rfl,rfl⟩
 refine⟨_,_,Y,Y,?_⟩
 refine u_bd Y Y (Fu Y Y (Eo (Er Y Y Y Y Y Y Y) (Em [1,2,4] Y (Ey (Et (Ea Y (Ez (Eu ?_))))))))
 refine Ei [1,2,4,5] Y (Fh (s_nilC 5 7 6 Y Y Y Y Y (s_nilC 5 10 2 Y Y Y Y Y (s_nilC 5 11 1 Y Y Y Y Y (s_nilC 5 34 1 Y Y Y Y Y (s_nilC 5 36 7 Y Y Y Y Y (S_loop (ι:=Nat) (fun i=>i≤c.masters.length) (fun i=>[(5,.w (.int .i64 (i:Int)))]) (fun i=>[.cell c.r,.cell [.w (.slice none 0 0),.w (.int .i64 0),.w (.int .i64 0),.w (.int .i64 0),.w (.int .i64 0),.w (.int .i64 0),.w (.int .i64 0),.w (.slice none 0 0),.w (.int .i64 0),.w (.int .i64 0),.w (.slice none 0 0),.w (.slice none 0 0),.w (.int .i64 0),.w (.int .i64 0),.w (.int .i64 0),.w (.bool false),.w (.int .i64 0),.w (.int .i64 0),.w (.bool false),.w (.int .i64 0),.w (.int .i64 0),.w (.int .i64 0),.w (.bool false),.w (.bool false),.w (.int .i64 0),.w (.int .i64 0),.w (.bool false),.w (.int .i64 0),.w (.int .i64 0),.w (.int .i64 0),.w (.bool false),.w (.slice none 0 0),.w (.slice none 0 0),.w (.int .i64 0),.w (.slice none 0 0),.w (.int .i64 0),.w (.slice none 0 0)],.arr 4 (c.masters.map MConf.r),.arr 1 ((List.replicate 192 (0:Int)).map iR),.arr 1 ((List.replicate 4 (0:Int)).map iR),.cell [.ls 2 c.masters.length,.w (.int .i64 c.quantum),.w (.int .i64 c.maxWait),.w (.int .i64 c.maxRetry),.w (.int .i64 c.maxSplit),.w (.int .i64 c.lockMost),.w (.int .i64 0),.ls 6 ((List.replicate i mst0).map Mst.n).length,.w (.int .i64 0),.w (.int .i64 0),.ls 7 (((c.masters.take i).map MConf.newB).map Bucket.r).length,.ls 8 ((List.replicate i (0:Int)).map iR).length,.w (.int .i64 (-1)),.w (.int .i64 0),.w (.int .i64 (-1)),.w (.bool false),.w (.int .i64 0),.w (.int .i64 0),.w (.bool false),.w (.int .i64 0),.w (.int .i64 0),.w (.int .i64 0),.w (.bool false),.w (.bool false),.w (.int .i64 0),.w (.int .i64 0),.w (.bool false),.w (.int .i64 0),.w (.int .i64 0),.w (.int .i64 0),.w (.bool false),.ls 3 192,.ls 4 4,.w (.int .i64 0),.ls 9 0,.w (.int .i64 0),.ls 10 0],.arr 6 ((List.replicate i mst0).map Mst.n),.arr 2 (((c.masters.take i).map MConf.newB).map Bucket.r),.arr 1 ((List.replicate i (0:Int)).map iR),.arr 1 [],.arr 7 []]) (fun i=>c.masters.length-i) 11 0 (by simp) Y (hasOf ⟨Y,trivial⟩ Y) Y (fun _ _=>Y) (fun _ _=>⟨Y,Y⟩) ?_)))))))
 intro i hi
 refine Ei [1,2,4,5] Y (Ey (Et (Ea Y (Ee Y (Ej Y Y Y (Fw Y (u_lss Y Y (Em [1,2,4,5,18] Y (Ew Y ?_ ?_)))))))))
 intro h2
 refine z_s [1,2,4,5] Y (Ey (Fh (Et (Ee Y (Ej Y Y Y (u_bd Y Y (Fa (o_bs Y Y Y Y) ?_)))))))
 refine Fa (o_appL Y Y (by simp) Y Y Y Y (by simp [roomy];omega)) ?_
 refine Ee Y (Eo (o_stC Y Y Y Y Y Y) (z_q [1,2,4,5] Y (Ee Y (Ej Y Y Y (Ee Y (Ej Y Y Y (Ea Y (s_iaM Y Y (by omega) ?_))))))))
 intro y3 e3
 simp only[Int.toNat_natCast,Int.toNat_zero] at e3
 refine u_ldn Y Y (Ev Y Y (c_175 _) (Fa (o_bs Y Y Y Y) ?_))
 refine Fa (o_appL Y Y (by simp) Y Y Y Y (by simp [roomy];omega)) ?_
 refine Ee Y (Eo (o_stC Y Y Y Y Y Y) (Em [1,2,4,5] Y (Fs (Ee Y (Ej Y Y Y (Fa (o_bs Y Y Y Y) ?_))))))
 refine Fa (o_appL Y Y (by simp) Y Y Y Y (by simp [roomy];omega)) ?_
 refine Ee Y (Eo (o_stC Y Y Y Y Y Y) (Ez (Fb (Eu (Ei [1,2,4,5] Y (Fs (Ea Y (Fa (Fn Y Y (by omega)) (Ea Y (Ez (Fp ?_)))))))))))
 ·refine⟨i+1,by omega,by omega,hasOf ⟨rfl,trivial⟩ ?_⟩
  simp only[rep_snoc,take_snoc2 _ _ (by assumption)];rfl
 intro h2
 refine s_exit (q_seqX (q_loopX (q_blkH (Eu (Ei [2,4] Y (Et (En Y Y Y (Eo (Er Y Y Y Y Y Y Y) (Ea Y (Em [2,3] Y (Eh ?_)))))))))))
 rotate_left
 all_goals
  refine ret_leafP (.inr Y) Y Y (by simp) ?_
  first|(rw[newBus,if_pos (by assumption),(by assumption:c.ok=true),List.take_of_length_le (show c.masters.length≤i by omega),show i=c.masters.length by omega];rfl)|(rw[newBus,if_neg (by simp_all),(by assumption:c.ok=false)];rfl)
structure Bus.lim (b:Bus):Prop where
 cs:b.conf.masters.length≤1048576
 ms:b.ms.length≤1048576
 bk:b.buckets.length≤1048576
 sp:b.splits.length≤1048576
 ram:b.model.ram.length≤1048576
 regs:b.model.dev.regs.length≤1048576
 fifo:b.model.dev.fifo.length≤1048576
 log:b.log.length≤1048576
theorem newBus_lim (c:Conf) (h:c.masters.length≤1048576):(newBus c).lim:=by
 unfold newBus
 split
 ·refine⟨h,?_,?_,?_,?_,?_,?_,?_⟩ <;> simp [bus1,model0] <;> exact h
 ·refine⟨?_,?_,?_,?_,?_,?_,?_,?_⟩ <;> simp [bus0]
theorem newBus_ms (c:Conf):(newBus c).ms=List.replicate (newBus c).ms.length mst0:=by
 unfold newBus
 split
 ·simp [bus1]
 ·rfl
theorem bus_nr {M:Mem} {b:Bus} (hq:∀ m,m∈b.ms→m.queue=[]) {x:Value} (h:RF M (.agg b.n) x):RF M (.agg b.r) x:=by
 cases h with
 | agg hl hh =>
   refine .agg hl fun i u y hu hy=>?_
   by_cases hi:i=7
   ·subst hi
    cases hu
    refine RF.slW (l:=b.ms.map Mst.n) (by simp) (fun j p q hp hq'=>?_) (hh 7 _ y Y hy)
    rw[List.getElem?_map] at hp hq'
    cases e:b.ms[j]? with
    | none=>rw[e] at hp;cases hp
    | some m =>
      rw[e] at hp hq'
      cases hp;cases hq'
      unfold Mst.n Mst.r
      rw[hq m (List.mem_of_getElem? e)]
      exact⟨.nil 6 0,.refl _,.refl _,.refl _,.refl _,.refl _,trivial⟩
   ·refine hh i u y ?_ hy
    have:(b.r)[i]?=(b.n)[i]?:=by
     unfold Bus.r Bus.n Bus.mid
     simp only[List.cons_append,List.nil_append]
     match i with
     | 0|1|2|3|4|5|6=>rfl
     | 7=>exact absurd rfl hi
     | _+8=>rfl
    rw[←this];exact hu
theorem newBus_small (c:Conf) (h:c.masters.length≤1048576):(newBus c).small:=by
 have hl:=newBus_lim c h
 refine⟨hl.cs,hl.ms,?_,hl.bk,hl.sp,⟨hl.ram,hl.regs,hl.fifo⟩,hl.log⟩
 intro y hy
 rw[newBus_ms c] at hy
 rw[List.eq_of_mem_replicate hy]
 exact⟨by simp [mst0],fun x hx=>nomatch hx⟩
theorem newBus_q (c:Conf):∀ m,m∈(newBus c).ms→m.queue=[]:=by
 intro m hm
 rw[newBus_ms c] at hm
 rw[List.eq_of_mem_replicate hm];rfl
def bor (a b:Int):Int:=IntKind.wrap .i64 ((BitVec.ofInt 64 a ||| BitVec.ofInt 64 b).toNat:Nat)
theorem o_bor {G:Prg} {q:Bool} {tl:Tl} {L:List LB} {x y a b} (hx:evE tl x=some (.w (.int .i64 a))) (hy:evE tl y=some (.w (.int .i64 b))):OpV G q (.bin .or x y) tl L (some (.w (.int .i64 (bor a b)))) L:=
 o_bin hx hy rfl rfl
theorem bor_nat {a b:Nat} (ha:a<4611686018427387904) (hb:b<4611686018427387904):bor a b=((a ||| b:Nat):Int):=by
 have h:a ||| b<4611686018427387904:=Nat.or_lt_two_pow (n:=62) ha hb
 unfold bor
 rw[BitVec.ofInt_natCast,BitVec.ofInt_natCast,BitVec.toNat_or,BitVec.toNat_ofNat,BitVec.toNat_ofNat,Nat.mod_eq_of_lt (by omega),Nat.mod_eq_of_lt (by omega),wrap_in _ (by omega)]
theorem band_nat {a:Nat} (ha:a<4611686018427387904):band a 255=((a % 256:Nat):Int):=by
 unfold band
 rw[show(255:Int)=((255:Nat):Int) from rfl,BitVec.ofInt_natCast,BitVec.ofInt_natCast,BitVec.toNat_and,BitVec.toNat_ofNat,BitVec.toNat_ofNat,Nat.mod_eq_of_lt (by omega),Nat.mod_eq_of_lt (by omega)]
 have h:=Nat.and_two_pow_sub_one_eq_mod a 8
 rw[show(2:Nat) ^ 8-1=255 from rfl,show(2:Nat) ^ 8=256 from rfl] at h
 rw[h,wrap_in _ (by omega)]
theorem or_add {n y k:Nat} (h:n<2 ^ k):n ||| y * 2 ^ k=n+y * 2 ^ k:=by
 rw[Nat.or_comm,←Nat.shiftLeft_eq,←Nat.shiftLeft_add_eq_or_of_lt h,Nat.add_comm]
def byteAt (xs:List Int) (k:Int):Int:=(xs[k.toNat]?).getD 0
theorem byteAt_of {xs:List Int} {k y:Int} (h:xs[k.toNat]?=some y):byteAt xs k=y:=by unfold byteAt;rw[h];rfl
def top (xs:List Int):Nat→Int→Int
 | 0,_=>0
 | c+1,k=>byteAt xs k+256 * top xs c (k+1)
def psum (xs:List Int) (a:Int):Nat→Int
 | 0=>0
 | i+1=>psum xs a i+byteAt xs (a+i) * 256 ^ i
theorem top_psum (xs:List Int) (a:Int) (n:Nat):∀ i,i≤n→top xs n a=psum xs a i+256 ^ i * top xs (n-i) (a+i)
 | 0,_=>by simp [psum]
 | i+1,h=>by
   rw[top_psum xs a n i (by omega),show n-i=(n-(i+1))+1 by omega,top,psum,Int.pow_succ,Int.mul_add,show a+(i:Int)+1=a+((i+1:Nat):Int) by omega,Int.mul_comm (byteAt xs (a+i)) (256 ^ i),←Int.mul_assoc,←Int.add_assoc]
theorem psum_end (xs:List Int) (a:Int) (n:Nat):psum xs a n=top xs n a:=by
 rw[top_psum xs a n n (Nat.le_refl _),Nat.sub_self];simp [top]
def bytesOk (xs:List Int):Prop:=∀ k,0≤byteAt xs k∧byteAt xs k≤255
theorem bytesOk_of {xs:List Int} (h:xs.all byteB=true):bytesOk xs:=by
 intro k
 unfold byteAt
 cases e:xs[k.toNat]? with
 | none=>simp
 | some y =>
   have:=inB_t (List.all_eq_true.1 h y (List.mem_of_getElem? e))
   simp;omega
theorem fits_bd {xs:List Int} {a z:Int} (h:fitsB xs a z=true):0≤a∧(bytes z=1∨bytes z=2∨bytes z=4)∧a+bytes z≤xs.length∧(xs.length:Int)≤512∧bytesOk xs:=by
 simp only[fitsB,Bool.and_eq_true,decide_eq_true_eq] at h
 obtain⟨⟨⟨h1,h2⟩,h3⟩,h4⟩:=h
 obtain⟨h5,h6,h7⟩:=aligned_t h3
 exact⟨h6,h7,by omega,h1,bytesOk_of h2⟩
theorem top_bd {xs:List Int} (h:bytesOk xs):∀ (c:Nat) (k:Int),0≤top xs c k∧top xs c k<256 ^ c
 | 0,k=>by simp [top]
 | c+1,k=>by
   have h1:=top_bd h c (k+1)
   have h2:=h k
   rw[top,Int.pow_succ]
   omega
theorem psum_bd {xs:List Int} (h:bytesOk xs) (a:Int) (i:Nat):0≤psum xs a i∧psum xs a i<256 ^ i:=by rw[psum_end];exact top_bd h i a
theorem or_step {xs:List Int} (h:bytesOk xs) {a y:Int} {i:Nat} (hi:i≤3) (hy:xs[(a+(i:Int)).toNat]?=some y):bor (psum xs a i) (IntKind.wrap .i64 (y * 2 ^ (min (8 * (i:Int)).toNat 64)))=psum xs a (i+1):=by
 have h1:=psum_bd h a i
 have h2:=h (a+i)
 rw[byteAt_of hy] at h2
 rw[psum,byteAt_of hy]
 obtain⟨n,hn⟩:∃ n:Nat,psum xs a i=n:=⟨(psum xs a i).toNat,by omega⟩
 obtain⟨m,rfl⟩:∃ m:Nat,y=m:=⟨y.toNat,by omega⟩
 rw[hn] at h1 ⊢
 have e:(8 * (i:Int)).toNat=8 * i:=by omega
 rw[e,Nat.min_eq_left (by omega)]
 have hk:∀ k:Nat,8 * i=k→n<2 ^ k→m * 2 ^ k<4611686018427387904→n<4611686018427387904→(256:Int) ^ i=((2 ^ k:Nat):Int)→bor (n:Int) (IntKind.wrap .i64 ((m:Int) * 2 ^ (8 * i)))=(n:Int)+(m:Int) * 256 ^ i:=by
  intro k hk1 hk2 hk3 hk4 hk5
  rw[hk1,hk5,show(m:Int) * 2 ^ k=((m * 2 ^ k:Nat):Int) by simp,wrap_in _ (by omega),bor_nat hk4 hk3,or_add hk2]
  simp
 clear hn hy e
 rcases(show i=0∨i=1∨i=2∨i=3 by omega) with rfl|rfl|rfl|rfl
 ·exact hk 0 Y (by simp at h1;omega) (by simp;omega) (by simp at h1;omega) (by simp)
 ·exact hk 8 Y (by simp at h1;omega) (by simp;omega) (by simp at h1;omega) (by simp)
 ·exact hk 16 Y (by simp at h1;omega) (by simp;omega) (by simp at h1;omega) (by simp)
 ·exact hk 24 Y (by simp at h1;omega) (by simp;omega) (by simp at h1;omega) (by simp)
def pset (xs:List Int) (a v:Int):Nat→List Int
 | 0=>xs
 | i+1=>(pset xs a v i).set (a+i).toNat (v / 256 ^ i % 256)
theorem pset_len (xs:List Int) (a v:Int):∀ i,(pset xs a v i).length=xs.length
 | 0=>rfl
 | i+1=>by rw[pset,List.length_set,pset_len xs a v i]
theorem and_step {v:Int} {i:Nat} (h:0≤v∧v≤4294967295) (hi:i≤3):band (v.fdiv (2 ^ (min (8 * (i:Int)).toNat 64))) 255=v / 256 ^ i % 256:=by
 obtain⟨n,rfl⟩:∃ n:Nat,v=n:=⟨v.toNat,by omega⟩
 rw[Int.fdiv_eq_ediv_of_nonneg _ (Int.pow_nonneg (by decide))]
 have e:(8 * (i:Int)).toNat=8 * i:=by omega
 rw[e,Nat.min_eq_left (by omega),show(2:Int) ^ (8 * i)=256 ^ i by rw[Int.pow_mul];rfl]
 have e2:(n:Int) / 256 ^ i=((n / 256 ^ i:Nat):Int):=by simp
 have hle:n / 256 ^ i≤n:=Nat.div_le_self ..
 rw[e2,band_nat (by omega)]
 simp
def getN (xs:List Int) (a z:Int):Int×Bool:=if fitsB xs a z then(top xs (bytes z).toNat a,true) else(0,false)
theorem get_yes {xs:List Int} {a z:Int} (h:fitsB xs a z=true):getN xs a z=(top xs (bytes z).toNat a,true):=by unfold getN;rw[if_pos h]
theorem get_no {xs:List Int} {a z:Int} (h:fitsB xs a z=false):getN xs a z=(0,false):=by unfold getN;rw[h];rfl
def putC (xs:List Int) (a z v:Int):Bool:=fitsB xs a z && inB v 0 (limit z-1)
def putN (xs:List Int) (a z v:Int):List Int×Bool:=if putC xs a z v then(pset xs a v (bytes z).toNat,true) else(xs,false)
theorem put_yes {xs:List Int} {a z v:Int} (h:fitsB xs a z=true) (h2:inB v 0 (limit z-1)=true):putN xs a z v=(pset xs a v (bytes z).toNat,true):=by unfold putN putC;rw[h,h2];rfl
theorem put_no {xs:List Int} {a z v:Int} (h:putC xs a z v=false):putN xs a z v=(xs,false):=by unfold putN;rw[h];rfl
def slaveOf (a:Int):Int:=if a<0∨224≤a then 0 else if a<128 then 1 else if a<192 then 2 else 3
def tupN (p:Int×Bool):V:=.tup [.w (.int .i64 p.1),.w (.bool p.2)]
theorem c_47 (xs:List Int) (a z:Int) (hl:xs.length≤1048576):CV prg 47 [.sl 1 (xs.map iR),.w (.int .i64 a),.w (.int .i64 z)] (fun res=>res=tupN (getN xs a z)):=by
 have hz:=bytes_z (x:=z)
 refine cv_in g47 (Ei [0,1,2] Y (Et (Ea Y (Ea Y (Em [0,1,2] Y (Ey (Et (Ea Y (Ea Y (Ea Y (Ev Y Y (c_86 _ _ _ (by assumption)) (Fk Y (Em [0,1,2,14] Y (s_condNB Y ?_ ?_))))))))))))))
 intro h1
 refine Et (Ea Y (Ea Y (Em [6,7] Y (Eh (Ep ?_)))))
 rotate_left
 intro h1
 have h1':=fits_bd h1
 refine z_s [0,1,2] Y (Et (Ea Y (Em [0,1,2,8] Y (Ey (Et (Ea Y (Ev Y Y (c_33 ..) (Ea Y (Em [0,1,8,16,17] Y (Fh (S_loop0 (ι:=Nat) (fun i=>i≤(bytes z).toNat) (fun i=>[(17,.w (.int .i64 (i:Int))),(8,.w (.int .i64 (psum xs a i)))]) (fun i=>(bytes z).toNat-i) 0 (by simp) Y ⟨Y,Y,trivial⟩ (fun _ _=>Y) Y ?_)))))))))))
 intro i hi
 refine Ei [0,1,8,16,17] Y (Et (u_lss Y Y (Em [0,1,8,16,17,18] Y (Ey (Ew Y ?_ ?_)))))
 intro h2
 refine z_s [0,1,8,16,17] Y (Ey (Fh (Et (Ea Y (Ea Y (Em [0,1,8,9,16,17] Y (Fs (Ea Y (Ea Y (Ea Y (Ea Y (Fa (Fn Y Y (by omega)) (s_iaM Y Y (by omega) ?_)))))))))))))
 intro y3 e3
 skip
 refine u_ld Y Y (Ea Y (Fa (o_muln Y Y (by omega)) (Fa (o_shl Y Y (by omega)) (Fa (o_bor Y Y) (Ea Y (Ez (Fb (Eu (Ei [0,1,8,16,17] Y (Fs (Fa (Fn Y Y (by omega)) (Ea Y (Ez (Fp ?_))))))))))))))
 ·refine⟨i+1,by omega,by omega,hasOf ⟨rfl,congrArg (fun b=>some (V.w (.int .i64 b))) ?_,trivial⟩ rfl⟩
  exact or_step (by assumption:_∧_∧_∧_∧bytesOk xs).2.2.2.2 (by omega) (by assumption)
 intro h2
 refine s_exit (q_seqX (q_loopX (q_blkH (Eu (Ei [8] Y (Et (Ea Y (Ea Y (Ea Y (Em [6,7] Y (Eh ?_)))))))))))
 rotate_left
 all_goals
  refine ret_leaf (.inr Y) Y Y ?_
  first|(rw[get_no (by assumption)];rfl)|(rw[get_yes (by assumption),←psum_end,show(bytes z).toNat=i by omega];rfl)
theorem lim_bd {v z:Int} (h:inB v 0 (limit z-1)=true):0≤v∧v≤4294967295:=by
 have h1:=inB_t h
 have h2:=limit_bd z
 omega
theorem pset_set {xs:List Int} {a v x:Int} {i:Nat} (h:x=v / 256 ^ i % 256):((pset xs a v i).map iR).set (a+(i:Int)).toNat (iR x)=(pset xs a v (i+1)).map iR:=by
 rw[pset,List.map_set,h]
theorem pset_at (xs:List Int) (a v:Int) (i:Nat) {k:Nat} (h:k<xs.length):∃ r,((pset xs a v i).map iR)[k]?=some (iR r):=by
 rw[List.getElem?_map,List.getElem?_eq_getElem (by rw[pset_len];exact h)]
 exact⟨_,Y⟩
theorem cg_62 (xs:List Int) (a z v:Int) (hl:xs.length≤1048576):GV prg 62 [] [.sl 1 (xs.map iR),.w (.int .i64 a),.w (.int .i64 z),.w (.int .i64 v)] (fun u L1=>u=.tup [.ls 0 (putN xs a z v).1.length,.w (.bool (putN xs a z v).2)]∧L1=[.arr 1 ((putN xs a z v).1.map iR)]):=by
 have hz:=bytes_z (x:=z)
 have hlz:=limit_bd z
 refine gv_in g62 (Ei [0,1,2,3] Y (Et (Ea Y (Ea Y (z_q [0,1,2,3] Y (Ea Y (Fg [] Y Y Y Y (by simp) (.inl Y) (cg_253 _ hl) ?_)))))))
 rintro u L1 ⟨rfl,rfl⟩
 refine⟨_,_,Y,Y,?_⟩
 refine Ea Y (Em [0,1,2,3,10] Y (Ey (Et (Ea Y (Ea Y (Ea Y (Ev Y Y (c_86 _ _ _ (by assumption)) (Fk Y (Ea Y (s_gNF Y ?_ ?_))))))))))
 intro h1
 have h1':=fits_bd h1
 refine Ea Y (Ec Y (Ea Y (Ec Y (Ev Y Y (c_92 ..) (Ec Y (Fk Y (Ed Y Y (Em [1,2,3,10,24] Y (s_condNB Y ?_ ?_)))))))))
 intro h2
 refine Et (Ea Y (Ea Y (Ea Y (Em [8,9] Y (Eh (Ep ?_))))))
 rotate_left
 intro h2
 have h2':=inB_t h2
 have hv:=lim_bd (by assumption:inB v 0 (limit z-1)=true)
 refine z_s [1,2,3,10] Y (Ey (Et (Ea Y (Ev Y Y (c_33 ..) (Ea Y (Em [1,3,10,27,28] Y (Fh (S_loop (ι:=Nat) (fun i=>i≤(bytes z).toNat) (fun i=>[(28,.w (.int .i64 (i:Int)))]) (fun i=>[.arr 1 ((pset xs a v i).map iR)]) (fun i=>(bytes z).toNat-i) 1 0 (by simp) Y (hasOf ⟨Y,trivial⟩ Y) Y (fun _ _=>Y) (fun _ _=>⟨Y,Y⟩) ?_))))))))
 intro i hi
 obtain⟨r0,hr0⟩:∃ r,i<(bytes z).toNat→((pset xs a v i).map iR)[(a+(i:Int)).toNat]?=some (iR r):=by
  by_cases h:i<(bytes z).toNat
  ·obtain⟨r,hr⟩:=pset_at xs a v i (k:=(a+(i:Int)).toNat) (by omega)
   exact⟨r,fun _=>hr⟩
  ·exact⟨0,fun h2=>absurd h2 h⟩
 refine Ei [1,3,10,27,28] Y (Et (u_lss Y Y (Em [1,3,10,27,28,29] Y (Ey (Ew Y ?_ ?_)))))
 intro h3
 have hv:=lim_bd (by assumption:inB v 0 (limit z-1)=true)
 refine z_s [1,3,10,27,28] Y (Ey (Fh (Et (Ea Y (Ea Y (Em [1,3,10,11,27,28] Y (Fs (Ea Y (Ea Y (Ea Y (Fa (Fn Y Y (by omega)) (Ea Y (Ea Y (Fa (o_muln Y Y (by omega)) (Fa (o_shr Y Y (by omega)) (Fa (o_band Y Y) (Fa (o_iaL Y Y (by simp only[List.length_map,pset_len]) Y (by omega)) (Eo (o_stA Y Y Y Y (by simp only[List.length_map,pset_len]) (hr0 (by omega)) Y Y) (Ez (Fb (Eu (Ei [1,3,10,27,28] Y (Fs (Fa (Fn Y Y (by omega)) (Ea Y (Ez (Fp ?_)))))))))))))))))))))))))))
 ·refine⟨i+1,by omega,by omega,hasOf ⟨rfl,trivial⟩ ?_⟩
  rw[←pset_set (and_step hv (by omega))];rfl
 intro h3
 have hv:=lim_bd (by assumption:inB v 0 (limit z-1)=true)
 refine s_exit (q_seqX (q_loopX (q_blkH (Eu (Ei [10] Y (Et (Ea Y (Ea Y (Ea Y (Em [8,9] Y (Eh ?_)))))))))))
 rotate_left
 intro h1
 refine Eb Y (Eb Y (Eb Y (Eb Y (Eg Y Y (Em [1,2,3,10,24] Y (Fd Y (Et (Ea Y (Ea Y (Ea Y (Em [8,9] Y (Eh (Ep ?_)))))))))))))
 rotate_left
 all_goals
  refine Fv [0] (.inr Y) Y Y Y Y (show(List.range 0++[0]).Nodup by decide) ?_
  first|(rw[put_no (by simp_all [putC])];exact⟨Y,Y⟩)|(rw[put_yes (by assumption) (by assumption),show(bytes z).toNat=i by omega];exact⟨by simp [pset_len],rfl⟩)
theorem c_73 (a:Int):CV prg 73 [.w (.int .i64 a)] (fun res=>res=.w (.int .i64 (slaveOf a))):=by
 refine cv_in g73 (Ei [0] Y (Et (Ea Y (Em [0] Y (Ey (Fh (Et (Ea Y (u_lss Y Y (Ea Y (s_gDF Y ?_ ?_)))))))))))
 intro h1
 refine Ea Y (Ec Y (u_geq Y Y (Ed Y Y (Ea Y (Em [0,3] Y (Ew Y ?_ ?_))))))
 intro h2
 refine Et (Ea Y (Em [2] Y (Eh (Fc (Ep (Fe Y Y ?_))))))
 rotate_left
 intro h2
 refine Et (Ea Y (u_lss Y Y (Ea Y (Em [0,10] Y (Ew Y ?_ ?_)))))
 intro h3
 refine Et (Ea Y (Em [2] Y (Eh (Fc (Ep (Fe Y Y ?_))))))
 rotate_left
 intro h3
 refine Et (Ea Y (u_lss Y Y (Ea Y (Em [13] Y (Ew Y ?_ ?_)))))
 intro h4
 refine Et (Ea Y (Em [2] Y (Eh (Fc (Ep (Fe Y Y ?_))))))
 rotate_left
 intro h4
 refine Fr (Fb (Eu (Ei [] Y (Et (Ea Y (Em [2] Y (Eh (Fe Y Y ?_))))))))
 rotate_left
 intro h1
 refine Eb Y (Eb Y (Eg Y Y (Ea Y (Em [0,3] Y (Fd Y (Et (Ea Y (Em [2] Y (Eh (Fc (Ep (Fe Y Y ?_))))))))))))
 rotate_left
 all_goals
  first|(simp_all [slaveOf];done)|(unfold slaveOf;simp_all;omega)
end Go.Proofs.YtoppcdecolponaaGreat.AL
namespace Go.Proofs.YtoppcdecolponaaGreat.AL
open Go
set_option linter.unusedVariables false
set_option linter.unusedSimpArgs false
set_option maxRecDepth 4096
def Req.w (r:Req) (x:Value):List V:=[.w (.bool r.write),.w (.int .i64 r.addr),.w (.int .i64 r.size),.w (.int .i64 r.burst),.w (.bool r.lock),.raw x]
def one (a:Option Nat) (xs:List Int):Mem:=match a with
 | some ad=>upd M0 ad (some ⟨xs.map (Value.int .i64),true,1⟩)
 | none=>M0
def sumQ:List Req→Int
 | []=>0
 | r::q=>r.data.length+sumQ q
theorem sumQ_le (q:List Req):sumQ q=(sumL Req.sz q:Nat):=by
 induction q with
 | nil=>rfl
 | cons r q ih=>rw[sumQ,sumL,ih];simp [Req.sz]
def MB (k:Int) (m:Mst):Prop:=m.small∧m.queue.length≤1048576∧sumQ m.queue≤k
theorem MB.of {m:Mst} (h:m.sz≤1048576):MB (m.sz:Nat) m:=⟨Mst.small_of h,by unfold Mst.sz at h;omega,by rw[sumQ_le];unfold Mst.sz;omega⟩
theorem MB.le {m:Mst} {k l:Int} (h:MB k m) (hk:k≤l):MB l m:=⟨h.1,h.2.1,Int.le_trans h.2.2 hk⟩
theorem MB.q {m y:Mst} {k} (h:MB k m) (e:y.queue=m.queue):MB k y:=⟨⟨by rw[e];exact h.1.1,by rw[e];exact h.1.2⟩,by rw[e];exact h.2⟩
theorem sumQ_drop (q:List Req):sumQ (q.drop 1)≤sumQ q:=by
 cases q with
 | nil=>exact Int.le_refl _
 | cons r q=>simp only[List.drop_succ_cons,List.drop_zero,sumQ];omega
theorem MB.drop {m y:Mst} {k} (h:MB k m) (e:y.queue=m.queue.drop 1):MB k y:=
 ⟨⟨by rw[e,List.length_drop];exact Nat.le_trans (Nat.sub_le _ _) h.1.1,by rw[e];exact fun x hx=>h.1.2 x (List.mem_of_mem_drop hx)⟩,by rw[e,List.length_drop];exact Nat.le_trans (Nat.sub_le _ _) h.2.1,by rw[e];exact Int.le_trans (sumQ_drop _) h.2.2⟩
theorem Vew.two {OL:Ob} {u u' w:V} (h:∀ M',(∀ (i:Nat) D,OL[i]?=some D→sub D M')→∀ x,RF M' u x→RF M' u' x):Vew OL [u,w] [u',w]:=fun M' hM' args hp=>by
 obtain⟨x,r,rfl,g1,g2⟩:=hp.uncons
 exact Pt.cons (h M' hM' x g1) g2
theorem cg_97 (d:Dev) (hs:d.small):GV prg 97 [] [.agg d.r] (fun u L1=>u=.agg [.ls 0 d.regs.length,.w (.int .i64 d.timer),.ls 1 d.fifo.length]∧L1=[.arr 1 (d.regs.map iR),.arr 1 (d.fifo.map iR)]):=by
 have hs1:=hs.1
 have hs2:=hs.2
 refine gv_in g97 (Ei [0] Y (Et (u_box Y Y Y (Fu Y Y (z_q [1,2] Y (Ee Y (Ej Y Y Y (Fg [] Y Y Y Y (by simp) (.inr Y) (cg_253 _ (by assumption)) ?_))))))))
 rintro u L1 ⟨rfl,rfl⟩
 refine⟨_,_,Y,Y,?_⟩
 refine Ee Y (Ej Y Y Y (Ee Y (Ej Y Y Y (Fg [] Y Y Y Y (by simp) (.inr Y) (cg_253 _ (by assumption)) ?_))))
 rintro u L1 ⟨rfl,rfl⟩
 refine⟨_,_,Y,Y,?_⟩
 refine u_bd Y Y (Eo (Er Y Y Y Y Y Y Y) (Em [2] Y (Eh ?_)))
 ·refine Fv [2,3] (.inr Y) Y Y Y Y (show(List.range 0++[2,3]).Nodup by decide) ?_
  exact⟨by simp,rfl⟩
theorem cg_98 (m:Model) (hs:m.small):GV prg 98 [] [.agg m.r] (fun u L1=>u=.agg [.ls 0 m.ram.length,.ls 1 m.dev.regs.length,.w (.int .i64 m.dev.timer),.ls 2 m.dev.fifo.length]∧L1=[.arr 1 (m.ram.map iR),.arr 1 (m.dev.regs.map iR),.arr 1 (m.dev.fifo.map iR)]):=by
 have hs1:=hs.1
 have hs2:=hs.2.1
 have hs3:=hs.2.2
 refine gv_in g98 (Ei [0] Y (Et (u_box Y Y Y (Fu Y Y (z_q [1,2] Y (Ee Y (Ej Y Y Y (Fg [] Y Y Y Y (by simp) (.inr Y) (cg_253 _ (by assumption)) ?_))))))))
 rintro u L1 ⟨rfl,rfl⟩
 refine⟨_,_,Y,Y,?_⟩
 refine Ee Y (En Y Y Y (Fg [] Y Y Y Y (by simp) (.inl Y) (cg_97 m.dev hs.2) ?_))
 rintro u L1 ⟨rfl,rfl⟩
 refine⟨_,_,Y,Y,?_⟩
 refine u_bd Y Y (Eo (Er Y Y Y Y Y Y Y) (Em [2] Y (Eh ?_)))
 ·refine Fv [2,3,4] (.inr Y) Y Y Y Y (show(List.range 0++[2,3,4]).Nodup by decide) ?_
  exact⟨by simp,rfl⟩
def devDo (d:Dev) (w:Bool) (a v:Int):Dev×Int×Bool:=
 if(d.ok && (!w || wordB v) && decide (a.tmod 4=0))=true then
  if 0≤a∧a≤12 then(if w=true then(⟨d.regs.set (a.tdiv 4).toNat v,d.timer,d.fifo⟩,v,true) else(d,(d.regs[(a.tdiv 4).toNat]?).getD 0,true))
  else if a=16 then(if w=true then(⟨d.regs,v,d.fifo⟩,v,true) else(⟨d.regs,(d.timer+1).tmod 4294967296,d.fifo⟩,d.timer,true))
  else if a=20 then(if w=true then(if(d.fifo.length:Int)<4 then(⟨d.regs,d.timer,d.fifo++[v]⟩,v,true) else(d,0,false)) else(if 0<(d.fifo.length:Int) then(⟨d.regs,d.timer,d.fifo.drop 1⟩,(d.fifo[0]?).getD 0,true) else(d,0,false)))
  else(d,0,false)
 else(d,0,false)
theorem dev_bd {d:Dev} (h:d.ok=true):(d.regs.length:Int)=4∧(d.fifo.length:Int)≤4∧0≤d.timer∧d.timer≤4294967295:=by
 simp only[Dev.ok,Bool.and_eq_true,decide_eq_true_eq] at h
 have:=inB_t h.2
 have e:limit 2=4294967296:=by decide
 omega
theorem tdiv4 {a:Int} (h:0≤a∧a≤15):IntKind.wrap .i64 (a.tdiv 4)=a.tdiv 4∧0≤a.tdiv 4∧a.tdiv 4≤3:=by
 have:0≤a.tdiv 4∧a.tdiv 4≤3:=by rw[Int.tdiv_eq_ediv_of_nonneg h.1];omega
 exact⟨wrap_in _ (by omega),this⟩
theorem inB12 {a:Int} (h:inB a 0 12=true):0≤a∧a≤12:=inB_t h
theorem inB12n {a:Int} (h:inB a 0 12=false):¬ (0≤a∧a≤12):=by have:=inB_f h;omega
theorem mod4 {a:Int} (h:a.tmod 4=0) (h2:0≤a) (h3:a<16):a≤12:=by rw[Int.tmod_eq_emod_of_nonneg h2] at h;omega
theorem c_51w:CV prg 51 [.w (.int .i64 2)] (fun v=>v=.w (.int .i64 4294967296)):=c_51 2
theorem c_92w (v:Int):CV prg 92 [.w (.int .i64 v),.w (.int .i64 2)] (fun u=>u=.w (.bool (wordB v))):=c_92 v 2
theorem sl1_eq (xs:List Int):List.drop (Int.toNat 1) (List.take (((xs.map iR).length:Nat):Int).toNat (xs.map iR))=(xs.drop 1).map iR:=by
 rw[Int.toNat_natCast,List.take_of_length_le (Nat.le_refl _),List.map_drop];rfl
theorem cg_39t (d:Dev) (a v:Int) (hs:d.small):GV prg 39 [] [.agg d.r,.w (.bool true),.w (.int .i64 a),.w (.int .i64 v)] (fun u L1=>u=.tup [.agg [.ls 0 (devDo d true a v).1.regs.length,.w (.int .i64 (devDo d true a v).1.timer),.ls 1 (devDo d true a v).1.fifo.length],.w (.int .i64 (devDo d true a v).2.1),.w (.bool (devDo d true a v).2.2)]∧L1=[.arr 1 ((devDo d true a v).1.regs.map iR),.arr 1 ((devDo d true a v).1.fifo.map iR)]):=by
 have hs1:=hs.1
 have hs2:=hs.2
 refine gv_in g39 (Ei [0,1,2,3] Y (Et (u_box Y Y Y (Fu Y Y (Ea Y (Ea Y (z_q [1,2,3,4,8] Y (En Y Y Y (Fg [] Y Y Y Y (by simp) (.inl Y) (cg_97 d hs) ?_)))))))))
 rintro u L1 ⟨rfl,rfl⟩
 refine⟨_,_,Y,Y,?_⟩
 refine Fu Y Y (Eo (Er Y Y Y Y Y Y Y) (Em [1,2,3,4,8,11] Y (Ey (Et (En Y Y Y (Ev Y Y (c_40 d hs) (Fk Y (Ea Y (s_gNF Y ?_ ?_)))))))))
 intro h1
 have h1':=dev_bd h1
 refine Ea Y (Ec Y (Ea Y (Ec Y (Ea Y (Ec Y (Ev Y Y (c_92w _) (Ec Y (Fk Y (Ec Y (Eg Y Y (Ed Y Y (Em [1,2,3,4,8,11,24] Y (s_condNB Y ?_ ?_)))))))))))))
 intro h2
 refine Et (En Y Y Y (Eo (Er Y Y Y Y Y Y Y) (Ea Y (Ea Y (Em [8,9,10] Y (Eh (Ep ?_)))))))
 rotate_left
 intro h2
 refine z_s [1,2,3,4,8,11] Y (Ey (Fh (Et (Ea Y (Fm Y Y (Ea Y (Ft Y ?_ ?_)))))))
 intro h3
 refine Ea Y (Eg Y Y (Ea Y (Em [1,2,3,4,8,11,32] Y (Fd Y (Fs (Ea Y (Ee Y (Eo (o_stC Y Y Y Y Y Y) (Ez (Fb (Eu (Ei [3,8,11] Y (Et (En Y Y Y (Ea Y (Eo (Er Y Y Y Y Y Y Y) (Ea Y (Ea Y (Em [8,9,10] Y (Eh ?_))))))))))))))))))))
 rotate_left
 intro h3
 refine Eb Y (Ed Y Y (Ea Y (Em [1,2,3,4,8,11,32] Y (Fi Y (Et (Ea Y (Fm Y Y (Ea Y (Em [1,2,3,4,8,11,40] Y (Ew Y ?_ ?_))))))))))
 intro h4
 refine Et (Ee Y (Ej Y Y Y (Ea Y (Em [3,4,8,11] Y (Fs (Ee Y (Ej Y Y Y (Fa (Fn Y Y (by omega)) (Ev Y Y c_51w (u_rem Y Y (by decide) (Ee Y (Eo (o_stC Y Y Y Y Y Y) (Ez (Fb (Eu (Ei [3,8,11] Y (Et (En Y Y Y (Ea Y (Eo (Er Y Y Y Y Y Y Y) (Ea Y (Ea Y (Em [8,9,10] Y (Eh ?_))))))))))))))))))))))))
 rotate_left
 intro h4
 refine Et (Ea Y (Fm Y Y (Ea Y (Ft Y ?_ ?_))))
 intro h5
 refine Ea Y (Eg Y Y (Ea Y (Ec Y (Ee Y (Ec Y (Ej Y Y Y (Ec Y (Fw Y (Ec Y (u_lss Y Y (Eg Y Y (Ea Y (Em [1,2,3,4,8,11,51] Y (Ew Y ?_ ?_))))))))))))))
 intro h6
 refine Fs (Ee Y (Ej Y Y Y (Ea Y (Fa (o_bs Y Y Y Y) ?_))))
 refine Fa (o_appL Y Y (by simp) Y Y Y Y (by simp [roomy];omega)) ?_
 refine Ee Y (Eo (o_stC Y Y Y Y Y Y) (Ez (Fb (Eu (Ei [3,8,11] Y (Et (En Y Y Y (Ea Y (Eo (Er Y Y Y Y Y Y Y) (Ea Y (Ea Y (Em [8,9,10] Y (Eh ?_)))))))))))))
 rotate_left
 intro h6
 refine Et (Ea Y (Fm Y Y (Ea Y (Ft Y ?_ ?_))))
 intro h7
 refine Ea Y (Ec Y (Fk Y (Eg Y Y (Ea Y (Eb Y (Eb Y (Eb Y (Eb Y (Ed Y Y (Ea Y (Em [1,2,3,4,8,11,69] Y (Fi Y (Et (Ea Y (u_geq Y Y (Ea Y (s_gDF Y ?_ ?_)))))))))))))))))
 intro h8
 refine Ea Y (Ec Y (u_lss Y Y (Ed Y Y (Ea Y (s_gDF Y ?_ ?_)))))
 intro h9
 refine Ea Y (Ec Y (u_rem Y Y (by decide) (Ec Y (u_neq Y Y (Ed Y Y (Ea Y (Em [1,2,3,4,8,11,91] Y (Ew Y ?_ ?_))))))))
 intro h10
 refine Et (En Y Y Y (Eo (Er Y Y Y Y Y Y Y) (Ea Y (Ea Y (Em [8,9,10] Y (Eh (Fc (Ep ?_))))))))
 rotate_left
 intro h10
 rw[nnp] at h10
 refine Et (Ea Y (Ea Y (Em [2,3,4,8,11,104] Y (Fd Y (Fs (Ee Y (Ej Y Y Y (Ea Y (u_quo Y Y (by decide) ?_)))))))))
 rw[(tdiv4 (by omega)).1]
 have hq:=tdiv4 (a:=a) (by omega)
 have h12:=mod4 (a:=a) (by assumption) (by omega) (by omega)
 obtain⟨y,hy⟩:∃ y,d.regs[(a.tdiv 4).toNat]?=some y:=⟨_,List.getElem?_eq_getElem (by omega)⟩
 refine Ea Y (Fa (o_iaL Y Y (by simp) Y (by(skip);omega)) ?_)
 refine Eo (o_stA Y Y Y Y (by simp) (by rw[List.getElem?_map,hy];rfl) Y Y) ?_
 refine Ez (Fb (Eu (Ei [3,8,11] Y (Et (En Y Y Y (Ea Y (Eo (Er Y Y Y Y Y Y Y) (Ea Y (Ea Y (Em [8,9,10] Y (Eh ?_)))))))))))
 rotate_left
 intro h9
 refine Eb Y (Eb Y (Eb Y (Eg Y Y (Ea Y (Em [1,2,3,4,8,11,91] Y (Fd Y (Et (En Y Y Y (Eo (Er Y Y Y Y Y Y Y) (Ea Y (Ea Y (Em [8,9,10] Y (Eh (Fc (Ep ?_)))))))))))))))
 rotate_left
 intro h8
 refine Eb Y (Eb Y (Eg Y Y (Ea Y (Eb Y (Eb Y (Eb Y (Eg Y Y (Ea Y (Em [1,2,3,4,8,11,91] Y (Fd Y (Et (En Y Y Y (Eo (Er Y Y Y Y Y Y Y) (Ea Y (Ea Y (Em [8,9,10] Y (Eh (Fc (Ep ?_)))))))))))))))))))
 rotate_left
 intro h7
 refine Eb Y (Eb Y (Ed Y Y (Ea Y (Eb Y (Eb Y (Eb Y (Eb Y (Ed Y Y (Ea Y (Em [1,2,3,4,8,11,69] Y (Fi Y (Et (Ea Y (u_geq Y Y (Ea Y (s_gDF Y ?_ ?_))))))))))))))))
 intro h12
 refine Ea Y (Ec Y (u_lss Y Y (Ed Y Y (Ea Y (s_gDF Y ?_ ?_)))))
 intro h13
 refine Ea Y (Ec Y (u_rem Y Y (by decide) (Ec Y (u_neq Y Y (Ed Y Y (Ea Y (Em [1,2,3,4,8,11,91] Y (Ew Y ?_ ?_))))))))
 intro h14
 refine Et (En Y Y Y (Eo (Er Y Y Y Y Y Y Y) (Ea Y (Ea Y (Em [8,9,10] Y (Eh (Fc (Ep ?_))))))))
 rotate_left
 intro h14
 rw[nnp] at h14
 refine Et (Ea Y (Ea Y (Em [2,3,4,8,11,104] Y (Fd Y (Fs (Ee Y (Ej Y Y Y (Ea Y (u_quo Y Y (by decide) ?_)))))))))
 rw[(tdiv4 (by omega)).1]
 have hq:=tdiv4 (a:=a) (by omega)
 have h12:=mod4 (a:=a) (by assumption) (by omega) (by omega)
 obtain⟨y,hy⟩:∃ y,d.regs[(a.tdiv 4).toNat]?=some y:=⟨_,List.getElem?_eq_getElem (by omega)⟩
 refine Ea Y (Fa (o_iaL Y Y (by simp) Y (by(skip);omega)) ?_)
 refine Eo (o_stA Y Y Y Y (by simp) (by rw[List.getElem?_map,hy];rfl) Y Y) ?_
 refine Ez (Fb (Eu (Ei [3,8,11] Y (Et (En Y Y Y (Ea Y (Eo (Er Y Y Y Y Y Y Y) (Ea Y (Ea Y (Em [8,9,10] Y (Eh ?_)))))))))))
 rotate_left
 intro h13
 refine Eb Y (Eb Y (Eb Y (Eg Y Y (Ea Y (Em [1,2,3,4,8,11,91] Y (Fd Y (Et (En Y Y Y (Eo (Er Y Y Y Y Y Y Y) (Ea Y (Ea Y (Em [8,9,10] Y (Eh (Fc (Ep ?_)))))))))))))))
 rotate_left
 intro h12
 refine Eb Y (Eb Y (Eg Y Y (Ea Y (Eb Y (Eb Y (Eb Y (Eg Y Y (Ea Y (Em [1,2,3,4,8,11,91] Y (Fd Y (Et (En Y Y Y (Eo (Er Y Y Y Y Y Y Y) (Ea Y (Ea Y (Em [8,9,10] Y (Eh (Fc (Ep ?_)))))))))))))))))))
 rotate_left
 intro h5
 refine Eb Y (Ed Y Y (Ea Y (Eb Y (Eb Y (Eb Y (Eb Y (Ed Y Y (Ea Y (Em [1,2,3,4,8,11,51] Y (Fi Y (Et (Ea Y (Fm Y Y (Ea Y (Ft Y ?_ ?_)))))))))))))))
 intro h16
 refine Ea Y (Ec Y (Fk Y (Eg Y Y (Ea Y (Eb Y (Eb Y (Eb Y (Eb Y (Ed Y Y (Ea Y (Em [1,2,3,4,8,11,69] Y (Fi Y (Et (Ea Y (u_geq Y Y (Ea Y (s_gDF Y ?_ ?_)))))))))))))))))
 intro h17
 refine Ea Y (Ec Y (u_lss Y Y (Ed Y Y (Ea Y (s_gDF Y ?_ ?_)))))
 intro h18
 refine Ea Y (Ec Y (u_rem Y Y (by decide) (Ec Y (u_neq Y Y (Ed Y Y (Ea Y (Em [1,2,3,4,8,11,91] Y (Ew Y ?_ ?_))))))))
 intro h19
 refine Et (En Y Y Y (Eo (Er Y Y Y Y Y Y Y) (Ea Y (Ea Y (Em [8,9,10] Y (Eh (Fc (Ep ?_))))))))
 rotate_left
 intro h19
 rw[nnp] at h19
 refine Et (Ea Y (Ea Y (Em [2,3,4,8,11,104] Y (Fd Y (Fs (Ee Y (Ej Y Y Y (Ea Y (u_quo Y Y (by decide) ?_)))))))))
 rw[(tdiv4 (by omega)).1]
 have hq:=tdiv4 (a:=a) (by omega)
 have h12:=mod4 (a:=a) (by assumption) (by omega) (by omega)
 obtain⟨y,hy⟩:∃ y,d.regs[(a.tdiv 4).toNat]?=some y:=⟨_,List.getElem?_eq_getElem (by omega)⟩
 refine Ea Y (Fa (o_iaL Y Y (by simp) Y (by(skip);omega)) ?_)
 refine Eo (o_stA Y Y Y Y (by simp) (by rw[List.getElem?_map,hy];rfl) Y Y) ?_
 refine Ez (Fb (Eu (Ei [3,8,11] Y (Et (En Y Y Y (Ea Y (Eo (Er Y Y Y Y Y Y Y) (Ea Y (Ea Y (Em [8,9,10] Y (Eh ?_)))))))))))
 rotate_left
 intro h18
 refine Eb Y (Eb Y (Eb Y (Eg Y Y (Ea Y (Em [1,2,3,4,8,11,91] Y (Fd Y (Et (En Y Y Y (Eo (Er Y Y Y Y Y Y Y) (Ea Y (Ea Y (Em [8,9,10] Y (Eh (Fc (Ep ?_)))))))))))))))
 rotate_left
 intro h17
 refine Eb Y (Eb Y (Eg Y Y (Ea Y (Eb Y (Eb Y (Eb Y (Eg Y Y (Ea Y (Em [1,2,3,4,8,11,91] Y (Fd Y (Et (En Y Y Y (Eo (Er Y Y Y Y Y Y Y) (Ea Y (Ea Y (Em [8,9,10] Y (Eh (Fc (Ep ?_)))))))))))))))))))
 rotate_left
 intro h16
 refine Eb Y (Eb Y (Ed Y Y (Ea Y (Eb Y (Eb Y (Eb Y (Eb Y (Ed Y Y (Ea Y (Em [1,2,3,4,8,11,69] Y (Fi Y (Et (Ea Y (u_geq Y Y (Ea Y (s_gDF Y ?_ ?_))))))))))))))))
 intro h21
 refine Ea Y (Ec Y (u_lss Y Y (Ed Y Y (Ea Y (s_gDF Y ?_ ?_)))))
 intro h22
 refine Ea Y (Ec Y (u_rem Y Y (by decide) (Ec Y (u_neq Y Y (Ed Y Y (Ea Y (Em [1,2,3,4,8,11,91] Y (Ew Y ?_ ?_))))))))
 intro h23
 refine Et (En Y Y Y (Eo (Er Y Y Y Y Y Y Y) (Ea Y (Ea Y (Em [8,9,10] Y (Eh (Fc (Ep ?_))))))))
 rotate_left
 intro h23
 rw[nnp] at h23
 refine Et (Ea Y (Ea Y (Em [2,3,4,8,11,104] Y (Fd Y (Fs (Ee Y (Ej Y Y Y (Ea Y (u_quo Y Y (by decide) ?_)))))))))
 rw[(tdiv4 (by omega)).1]
 have hq:=tdiv4 (a:=a) (by omega)
 have h12:=mod4 (a:=a) (by assumption) (by omega) (by omega)
 obtain⟨y,hy⟩:∃ y,d.regs[(a.tdiv 4).toNat]?=some y:=⟨_,List.getElem?_eq_getElem (by omega)⟩
 refine Ea Y (Fa (o_iaL Y Y (by simp) Y (by(skip);omega)) ?_)
 refine Eo (o_stA Y Y Y Y (by simp) (by rw[List.getElem?_map,hy];rfl) Y Y) ?_
 refine Ez (Fb (Eu (Ei [3,8,11] Y (Et (En Y Y Y (Ea Y (Eo (Er Y Y Y Y Y Y Y) (Ea Y (Ea Y (Em [8,9,10] Y (Eh ?_)))))))))))
 rotate_left
 intro h22
 refine Eb Y (Eb Y (Eb Y (Eg Y Y (Ea Y (Em [1,2,3,4,8,11,91] Y (Fd Y (Et (En Y Y Y (Eo (Er Y Y Y Y Y Y Y) (Ea Y (Ea Y (Em [8,9,10] Y (Eh (Fc (Ep ?_)))))))))))))))
 rotate_left
 intro h21
 refine Eb Y (Eb Y (Eg Y Y (Ea Y (Eb Y (Eb Y (Eb Y (Eg Y Y (Ea Y (Em [1,2,3,4,8,11,91] Y (Fd Y (Et (En Y Y Y (Eo (Er Y Y Y Y Y Y Y) (Ea Y (Ea Y (Em [8,9,10] Y (Eh (Fc (Ep ?_)))))))))))))))))))
 rotate_left
 intro h1
 refine Eb Y (Eb Y (Ff Y (Ff Y (Ff Y (Eb Y (Eg Y Y (Em [1,2,3,4,8,11,24] Y (Fd Y (Et (En Y Y Y (Eo (Er Y Y Y Y Y Y Y) (Ea Y (Ea Y (Em [8,9,10] Y (Eh (Ep ?_))))))))))))))))
 rotate_left
 all_goals
  first|(exfalso;simp_all;done)|(refine Fv [2,3] (.inr Y) Y Y Y Y (show(List.range 0++[2,3]).Nodup by decide) ?_;(have e:devDo d true a v=(d,0,false):=by unfold devDo;(repeat' split) <;> first|rfl|(simp_all;done)|(exfalso;simp_all;omega));rw[e];exact⟨(by rfl),(by rfl)⟩)|(refine Fv [2,3] (.inr Y) Y Y Y Y (show(List.range 0++[2,3]).Nodup by decide) ?_;(have e:devDo d true a v=(⟨d.regs.set (a.tdiv 4).toNat v,d.timer,d.fifo⟩,v,true):=by unfold devDo;(repeat' split) <;> first|rfl|(simp_all;done));rw[e];exact⟨(by simp [List.map_set,iR];done),(by simp [List.map_set,iR];done)⟩)|(refine Fv [2,3] (.inr Y) Y Y Y Y (show(List.range 0++[2,3]).Nodup by decide) ?_;(have e:devDo d true a v=(⟨d.regs,v,d.fifo⟩,v,true):=by unfold devDo;(repeat' split) <;> first|rfl|(simp_all;done));rw[e];exact⟨(by rfl),(by rfl)⟩)|(refine Fv [2,3] (.inr Y) Y Y Y Y (show(List.range 0++[2,3]).Nodup by decide) ?_;(have e:devDo d true a v=(⟨d.regs,d.timer,d.fifo++[v]⟩,v,true):=by unfold devDo;(repeat' split) <;> first|rfl|(simp_all;done));rw[e];exact⟨(by simp [List.map_set,iR];done),(by simp [List.map_set,iR];done)⟩)
end Go.Proofs.YtoppcdecolponaaGreat.AL
namespace Go.Proofs.YtoppcdecolponaaGreat.AL
open Go
set_option linter.unusedVariables false
set_option linter.unusedSimpArgs false
set_option maxRecDepth 4096
theorem cg_39f (d:Dev) (a v:Int) (hs:d.small):GV prg 39 [] [.agg d.r,.w (.bool false),.w (.int .i64 a),.w (.int .i64 v)] (fun u L1=>u=.tup [.agg [.ls 0 (devDo d false a v).1.regs.length,.w (.int .i64 (devDo d false a v).1.timer),.ls 1 (devDo d false a v).1.fifo.length],.w (.int .i64 (devDo d false a v).2.1),.w (.bool (devDo d false a v).2.2)]∧L1=[.arr 1 ((devDo d false a v).1.regs.map iR),.arr 1 ((devDo d false a v).1.fifo.map iR)]):=by
 have hs1:=hs.1
 have hs2:=hs.2
 refine gv_in g39 (Ei [0,1,2,3] Y (Et (u_box Y Y Y (Fu Y Y (Ea Y (Ea Y (z_q [1,2,3,4,8] Y (En Y Y Y (Fg [] Y Y Y Y (by simp) (.inl Y) (cg_97 d hs) ?_)))))))))
 rintro u L1 ⟨rfl,rfl⟩
 refine⟨_,_,Y,Y,?_⟩
 refine Fu Y Y (Eo (Er Y Y Y Y Y Y Y) (Em [1,2,3,4,8,11] Y (Ey (Et (En Y Y Y (Ev Y Y (c_40 d hs) (Fk Y (Ea Y (s_gNF Y ?_ ?_)))))))))
 intro h1
 have h1':=dev_bd h1
 refine Ea Y (Ec Y (Ea Y (Eb Y (Eb Y (Eb Y (Ec Y (Ed Y Y (Ed Y Y (Em [1,2,3,4,8,11,24] Y (Fi Y (z_s [1,2,3,4,8,11] Y (Ey (Fh (Et (Ea Y (Fm Y Y (Ea Y (Ft Y ?_ ?_))))))))))))))))))
 intro h2
 refine Ea Y (Eg Y Y (Ea Y (Em [1,2,3,4,8,11,32] Y (Fi Y (Et (Ea Y (Fm Y Y (Ea Y (Em [1,2,3,4,8,11,40] Y (Ew Y ?_ ?_))))))))))
 intro h3
 refine Et (Ee Y (Ej Y Y Y (Ea Y (Em [3,4,8,11] Y (Fs (Ee Y (Ej Y Y Y (Fa (Fn Y Y (by omega)) (Ev Y Y c_51w (u_rem Y Y (by decide) (Ee Y (Eo (o_stC Y Y Y Y Y Y) (Ez (Fb (Eu (Ei [3,8,11] Y (Et (En Y Y Y (Ea Y (Eo (Er Y Y Y Y Y Y Y) (Ea Y (Ea Y (Em [8,9,10] Y (Eh ?_))))))))))))))))))))))))
 rotate_left
 intro h3
 refine Et (Ea Y (Fm Y Y (Ea Y (Ft Y ?_ ?_))))
 intro h4
 refine Ea Y (Eg Y Y (Ea Y (Eb Y (Eb Y (Eb Y (Eb Y (Ed Y Y (Ea Y (Em [1,2,3,4,8,11,51] Y (Fi Y (Et (Ea Y (Fm Y Y (Ea Y (Ft Y ?_ ?_)))))))))))))))
 intro h5
 refine Ea Y (Ec Y (Fk Y (Eg Y Y (Ea Y (Ec Y (Ee Y (Ec Y (Ej Y Y Y (Ec Y (Fw Y (Ec Y (u_gtr Y Y (Eg Y Y (Ea Y (Em [1,2,3,4,8,11,69] Y (Ew Y ?_ ?_))))))))))))))))
 intro h6
 refine Et (Ee Y (Ej Y Y Y (s_iaM Y Y (by(skip);omega) ?_)))
 intro y7 e7
 revert y7 e7;intro y hy
 refine u_ld Y Y (Ea Y (Em [3,4,8,11] Y (Fs (Ee Y (Ej Y Y Y (Fa (o_sl Y Y Y (by simp;omega) (by simp;omega)) ?_))))))
 rw[sl1_eq d.fifo]
 refine Fg [] Y Y Y Y (by simp) (.inl Y) (cg_253 (d.fifo.drop 1) (by simp;omega)) ?_
 rintro u L1 ⟨rfl,rfl⟩
 refine⟨_,_,Y,Y,?_⟩
 refine Ee Y (Eo (o_stC Y Y Y Y Y Y) (Ez (Fb (Eu (Ei [3,8,11] Y (Et (En Y Y Y (Ea Y (Eo (Er Y Y Y Y Y Y Y) (Ea Y (Ea Y (Em [8,9,10] Y (Eh ?_)))))))))))))
 rotate_left
 intro h6
 refine Et (Ea Y (u_geq Y Y (Ea Y (s_gDF Y ?_ ?_))))
 intro h8
 refine Ea Y (Ec Y (u_lss Y Y (Ed Y Y (Ea Y (s_gDF Y ?_ ?_)))))
 intro h9
 refine Ea Y (Ec Y (u_rem Y Y (by decide) (Ec Y (u_neq Y Y (Ed Y Y (Ea Y (Em [1,2,3,4,8,11,91] Y (Ew Y ?_ ?_))))))))
 intro h10
 refine Et (En Y Y Y (Eo (Er Y Y Y Y Y Y Y) (Ea Y (Ea Y (Em [8,9,10] Y (Eh (Fc (Ep ?_))))))))
 rotate_left
 intro h10
 rw[nnp] at h10
 refine Et (Ea Y (Ea Y (Em [2,3,4,8,11,104] Y (Fi Y (Fs (Ee Y (Ej Y Y Y (Ea Y (u_quo Y Y (by decide) ?_)))))))))
 rw[(tdiv4 (by omega)).1]
 have hq:=tdiv4 (a:=a) (by omega)
 have h12:=mod4 (a:=a) (by assumption) (by omega) (by omega)
 refine s_iaM Y Y (by(skip);omega) ?_
 intro y11 e11
 revert y11 e11;intro y hy
 refine u_ld Y Y (Ea Y (Ez (Fb (Eu (Ei [3,8,11] Y (Et (En Y Y Y (Ea Y (Eo (Er Y Y Y Y Y Y Y) (Ea Y (Ea Y (Em [8,9,10] Y (Eh ?_)))))))))))))
 rotate_left
 intro h9
 refine Eb Y (Eb Y (Eb Y (Eg Y Y (Ea Y (Em [1,2,3,4,8,11,91] Y (Fd Y (Et (En Y Y Y (Eo (Er Y Y Y Y Y Y Y) (Ea Y (Ea Y (Em [8,9,10] Y (Eh (Fc (Ep ?_)))))))))))))))
 rotate_left
 intro h8
 refine Eb Y (Eb Y (Eg Y Y (Ea Y (Eb Y (Eb Y (Eb Y (Eg Y Y (Ea Y (Em [1,2,3,4,8,11,91] Y (Fd Y (Et (En Y Y Y (Eo (Er Y Y Y Y Y Y Y) (Ea Y (Ea Y (Em [8,9,10] Y (Eh (Fc (Ep ?_)))))))))))))))))))
 rotate_left
 intro h5
 refine Eb Y (Eb Y (Ed Y Y (Ea Y (Eb Y (Eb Y (Eb Y (Eb Y (Ed Y Y (Ea Y (Em [1,2,3,4,8,11,69] Y (Fi Y (Et (Ea Y (u_geq Y Y (Ea Y (s_gDF Y ?_ ?_))))))))))))))))
 intro h12
 refine Ea Y (Ec Y (u_lss Y Y (Ed Y Y (Ea Y (s_gDF Y ?_ ?_)))))
 intro h13
 refine Ea Y (Ec Y (u_rem Y Y (by decide) (Ec Y (u_neq Y Y (Ed Y Y (Ea Y (Em [1,2,3,4,8,11,91] Y (Ew Y ?_ ?_))))))))
 intro h14
 refine Et (En Y Y Y (Eo (Er Y Y Y Y Y Y Y) (Ea Y (Ea Y (Em [8,9,10] Y (Eh (Fc (Ep ?_))))))))
 rotate_left
 intro h14
 rw[nnp] at h14
 refine Et (Ea Y (Ea Y (Em [2,3,4,8,11,104] Y (Fi Y (Fs (Ee Y (Ej Y Y Y (Ea Y (u_quo Y Y (by decide) ?_)))))))))
 rw[(tdiv4 (by omega)).1]
 have hq:=tdiv4 (a:=a) (by omega)
 have h12:=mod4 (a:=a) (by assumption) (by omega) (by omega)
 refine s_iaM Y Y (by(skip);omega) ?_
 intro y15 e15
 revert y15 e15;intro y hy
 refine u_ld Y Y (Ea Y (Ez (Fb (Eu (Ei [3,8,11] Y (Et (En Y Y Y (Ea Y (Eo (Er Y Y Y Y Y Y Y) (Ea Y (Ea Y (Em [8,9,10] Y (Eh ?_)))))))))))))
 rotate_left
 intro h13
 refine Eb Y (Eb Y (Eb Y (Eg Y Y (Ea Y (Em [1,2,3,4,8,11,91] Y (Fd Y (Et (En Y Y Y (Eo (Er Y Y Y Y Y Y Y) (Ea Y (Ea Y (Em [8,9,10] Y (Eh (Fc (Ep ?_)))))))))))))))
 rotate_left
 intro h12
 refine Eb Y (Eb Y (Eg Y Y (Ea Y (Eb Y (Eb Y (Eb Y (Eg Y Y (Ea Y (Em [1,2,3,4,8,11,91] Y (Fd Y (Et (En Y Y Y (Eo (Er Y Y Y Y Y Y Y) (Ea Y (Ea Y (Em [8,9,10] Y (Eh (Fc (Ep ?_)))))))))))))))))))
 rotate_left
 intro h4
 refine Eb Y (Ed Y Y (Ea Y (Eb Y (Eb Y (Eb Y (Eb Y (Ed Y Y (Ea Y (Em [1,2,3,4,8,11,51] Y (Fi Y (Et (Ea Y (Fm Y Y (Ea Y (Ft Y ?_ ?_)))))))))))))))
 intro h16
 refine Ea Y (Ec Y (Fk Y (Eg Y Y (Ea Y (Ec Y (Ee Y (Ec Y (Ej Y Y Y (Ec Y (Fw Y (Ec Y (u_gtr Y Y (Eg Y Y (Ea Y (Em [1,2,3,4,8,11,69] Y (Ew Y ?_ ?_))))))))))))))))
 intro h17
 refine Et (Ee Y (Ej Y Y Y (s_iaM Y Y (by(skip);omega) ?_)))
 intro y18 e18
 revert y18 e18;intro y hy
 refine u_ld Y Y (Ea Y (Em [3,4,8,11] Y (Fs (Ee Y (Ej Y Y Y (Fa (o_sl Y Y Y (by simp;omega) (by simp;omega)) ?_))))))
 rw[sl1_eq d.fifo]
 refine Fg [] Y Y Y Y (by simp) (.inl Y) (cg_253 (d.fifo.drop 1) (by simp;omega)) ?_
 rintro u L1 ⟨rfl,rfl⟩
 refine⟨_,_,Y,Y,?_⟩
 refine Ee Y (Eo (o_stC Y Y Y Y Y Y) (Ez (Fb (Eu (Ei [3,8,11] Y (Et (En Y Y Y (Ea Y (Eo (Er Y Y Y Y Y Y Y) (Ea Y (Ea Y (Em [8,9,10] Y (Eh ?_)))))))))))))
 rotate_left
 intro h17
 refine Et (Ea Y (u_geq Y Y (Ea Y (s_gDF Y ?_ ?_))))
 intro h19
 refine Ea Y (Ec Y (u_lss Y Y (Ed Y Y (Ea Y (s_gDF Y ?_ ?_)))))
 intro h20
 refine Ea Y (Ec Y (u_rem Y Y (by decide) (Ec Y (u_neq Y Y (Ed Y Y (Ea Y (Em [1,2,3,4,8,11,91] Y (Ew Y ?_ ?_))))))))
 intro h21
 refine Et (En Y Y Y (Eo (Er Y Y Y Y Y Y Y) (Ea Y (Ea Y (Em [8,9,10] Y (Eh (Fc (Ep ?_))))))))
 rotate_left
 intro h21
 rw[nnp] at h21
 refine Et (Ea Y (Ea Y (Em [2,3,4,8,11,104] Y (Fi Y (Fs (Ee Y (Ej Y Y Y (Ea Y (u_quo Y Y (by decide) ?_)))))))))
 rw[(tdiv4 (by omega)).1]
 have hq:=tdiv4 (a:=a) (by omega)
 have h12:=mod4 (a:=a) (by assumption) (by omega) (by omega)
 refine s_iaM Y Y (by(skip);omega) ?_
 intro y22 e22
 revert y22 e22;intro y hy
 refine u_ld Y Y (Ea Y (Ez (Fb (Eu (Ei [3,8,11] Y (Et (En Y Y Y (Ea Y (Eo (Er Y Y Y Y Y Y Y) (Ea Y (Ea Y (Em [8,9,10] Y (Eh ?_)))))))))))))
 rotate_left
 intro h20
 refine Eb Y (Eb Y (Eb Y (Eg Y Y (Ea Y (Em [1,2,3,4,8,11,91] Y (Fd Y (Et (En Y Y Y (Eo (Er Y Y Y Y Y Y Y) (Ea Y (Ea Y (Em [8,9,10] Y (Eh (Fc (Ep ?_)))))))))))))))
 rotate_left
 intro h19
 refine Eb Y (Eb Y (Eg Y Y (Ea Y (Eb Y (Eb Y (Eb Y (Eg Y Y (Ea Y (Em [1,2,3,4,8,11,91] Y (Fd Y (Et (En Y Y Y (Eo (Er Y Y Y Y Y Y Y) (Ea Y (Ea Y (Em [8,9,10] Y (Eh (Fc (Ep ?_)))))))))))))))))))
 rotate_left
 intro h16
 refine Eb Y (Eb Y (Ed Y Y (Ea Y (Eb Y (Eb Y (Eb Y (Eb Y (Ed Y Y (Ea Y (Em [1,2,3,4,8,11,69] Y (Fi Y (Et (Ea Y (u_geq Y Y (Ea Y (s_gDF Y ?_ ?_))))))))))))))))
 intro h23
 refine Ea Y (Ec Y (u_lss Y Y (Ed Y Y (Ea Y (s_gDF Y ?_ ?_)))))
 intro h24
 refine Ea Y (Ec Y (u_rem Y Y (by decide) (Ec Y (u_neq Y Y (Ed Y Y (Ea Y (Em [1,2,3,4,8,11,91] Y (Ew Y ?_ ?_))))))))
 intro h25
 refine Et (En Y Y Y (Eo (Er Y Y Y Y Y Y Y) (Ea Y (Ea Y (Em [8,9,10] Y (Eh (Fc (Ep ?_))))))))
 rotate_left
 intro h25
 rw[nnp] at h25
 refine Et (Ea Y (Ea Y (Em [2,3,4,8,11,104] Y (Fi Y (Fs (Ee Y (Ej Y Y Y (Ea Y (u_quo Y Y (by decide) ?_)))))))))
 rw[(tdiv4 (by omega)).1]
 have hq:=tdiv4 (a:=a) (by omega)
 have h12:=mod4 (a:=a) (by assumption) (by omega) (by omega)
 refine s_iaM Y Y (by(skip);omega) ?_
 intro y26 e26
 revert y26 e26;intro y hy
 refine u_ld Y Y (Ea Y (Ez (Fb (Eu (Ei [3,8,11] Y (Et (En Y Y Y (Ea Y (Eo (Er Y Y Y Y Y Y Y) (Ea Y (Ea Y (Em [8,9,10] Y (Eh ?_)))))))))))))
 rotate_left
 intro h24
 refine Eb Y (Eb Y (Eb Y (Eg Y Y (Ea Y (Em [1,2,3,4,8,11,91] Y (Fd Y (Et (En Y Y Y (Eo (Er Y Y Y Y Y Y Y) (Ea Y (Ea Y (Em [8,9,10] Y (Eh (Fc (Ep ?_)))))))))))))))
 rotate_left
 intro h23
 refine Eb Y (Eb Y (Eg Y Y (Ea Y (Eb Y (Eb Y (Eb Y (Eg Y Y (Ea Y (Em [1,2,3,4,8,11,91] Y (Fd Y (Et (En Y Y Y (Eo (Er Y Y Y Y Y Y Y) (Ea Y (Ea Y (Em [8,9,10] Y (Eh (Fc (Ep ?_)))))))))))))))))))
 rotate_left
 intro h2
 refine Eb Y (Ed Y Y (Ea Y (Em [1,2,3,4,8,11,32] Y (Fi Y (Et (Ea Y (Fm Y Y (Ea Y (Em [1,2,3,4,8,11,40] Y (Ew Y ?_ ?_))))))))))
 intro h27
 refine Et (Ee Y (Ej Y Y Y (Ea Y (Em [3,4,8,11] Y (Fs (Ee Y (Ej Y Y Y (Fa (Fn Y Y (by omega)) (Ev Y Y c_51w (u_rem Y Y (by decide) (Ee Y (Eo (o_stC Y Y Y Y Y Y) (Ez (Fb (Eu (Ei [3,8,11] Y (Et (En Y Y Y (Ea Y (Eo (Er Y Y Y Y Y Y Y) (Ea Y (Ea Y (Em [8,9,10] Y (Eh ?_))))))))))))))))))))))))
 rotate_left
 intro h27
 refine Et (Ea Y (Fm Y Y (Ea Y (Ft Y ?_ ?_))))
 intro h28
 refine Ea Y (Eg Y Y (Ea Y (Eb Y (Eb Y (Eb Y (Eb Y (Ed Y Y (Ea Y (Em [1,2,3,4,8,11,51] Y (Fi Y (Et (Ea Y (Fm Y Y (Ea Y (Ft Y ?_ ?_)))))))))))))))
 intro h29
 refine Ea Y (Ec Y (Fk Y (Eg Y Y (Ea Y (Ec Y (Ee Y (Ec Y (Ej Y Y Y (Ec Y (Fw Y (Ec Y (u_gtr Y Y (Eg Y Y (Ea Y (Em [1,2,3,4,8,11,69] Y (Ew Y ?_ ?_))))))))))))))))
 intro h30
 refine Et (Ee Y (Ej Y Y Y (s_iaM Y Y (by(skip);omega) ?_)))
 intro y31 e31
 revert y31 e31;intro y hy
 refine u_ld Y Y (Ea Y (Em [3,4,8,11] Y (Fs (Ee Y (Ej Y Y Y (Fa (o_sl Y Y Y (by simp;omega) (by simp;omega)) ?_))))))
 rw[sl1_eq d.fifo]
 refine Fg [] Y Y Y Y (by simp) (.inl Y) (cg_253 (d.fifo.drop 1) (by simp;omega)) ?_
 rintro u L1 ⟨rfl,rfl⟩
 refine⟨_,_,Y,Y,?_⟩
 refine Ee Y (Eo (o_stC Y Y Y Y Y Y) (Ez (Fb (Eu (Ei [3,8,11] Y (Et (En Y Y Y (Ea Y (Eo (Er Y Y Y Y Y Y Y) (Ea Y (Ea Y (Em [8,9,10] Y (Eh ?_)))))))))))))
 rotate_left
 intro h30
 refine Et (Ea Y (u_geq Y Y (Ea Y (s_gDF Y ?_ ?_))))
 intro h32
 refine Ea Y (Ec Y (u_lss Y Y (Ed Y Y (Ea Y (s_gDF Y ?_ ?_)))))
 intro h33
 refine Ea Y (Ec Y (u_rem Y Y (by decide) (Ec Y (u_neq Y Y (Ed Y Y (Ea Y (Em [1,2,3,4,8,11,91] Y (Ew Y ?_ ?_))))))))
 intro h34
 refine Et (En Y Y Y (Eo (Er Y Y Y Y Y Y Y) (Ea Y (Ea Y (Em [8,9,10] Y (Eh (Fc (Ep ?_))))))))
 rotate_left
 intro h34
 rw[nnp] at h34
 refine Et (Ea Y (Ea Y (Em [2,3,4,8,11,104] Y (Fi Y (Fs (Ee Y (Ej Y Y Y (Ea Y (u_quo Y Y (by decide) ?_)))))))))
 rw[(tdiv4 (by omega)).1]
 have hq:=tdiv4 (a:=a) (by omega)
 have h12:=mod4 (a:=a) (by assumption) (by omega) (by omega)
 refine s_iaM Y Y (by(skip);omega) ?_
 intro y35 e35
 revert y35 e35;intro y hy
 refine u_ld Y Y (Ea Y (Ez (Fb (Eu (Ei [3,8,11] Y (Et (En Y Y Y (Ea Y (Eo (Er Y Y Y Y Y Y Y) (Ea Y (Ea Y (Em [8,9,10] Y (Eh ?_)))))))))))))
 rotate_left
 intro h33
 refine Eb Y (Eb Y (Eb Y (Eg Y Y (Ea Y (Em [1,2,3,4,8,11,91] Y (Fd Y (Et (En Y Y Y (Eo (Er Y Y Y Y Y Y Y) (Ea Y (Ea Y (Em [8,9,10] Y (Eh (Fc (Ep ?_)))))))))))))))
 rotate_left
 intro h32
 refine Eb Y (Eb Y (Eg Y Y (Ea Y (Eb Y (Eb Y (Eb Y (Eg Y Y (Ea Y (Em [1,2,3,4,8,11,91] Y (Fd Y (Et (En Y Y Y (Eo (Er Y Y Y Y Y Y Y) (Ea Y (Ea Y (Em [8,9,10] Y (Eh (Fc (Ep ?_)))))))))))))))))))
 rotate_left
 intro h29
 refine Eb Y (Eb Y (Ed Y Y (Ea Y (Eb Y (Eb Y (Eb Y (Eb Y (Ed Y Y (Ea Y (Em [1,2,3,4,8,11,69] Y (Fi Y (Et (Ea Y (u_geq Y Y (Ea Y (s_gDF Y ?_ ?_))))))))))))))))
 intro h36
 refine Ea Y (Ec Y (u_lss Y Y (Ed Y Y (Ea Y (s_gDF Y ?_ ?_)))))
 intro h37
 refine Ea Y (Ec Y (u_rem Y Y (by decide) (Ec Y (u_neq Y Y (Ed Y Y (Ea Y (Em [1,2,3,4,8,11,91] Y (Ew Y ?_ ?_))))))))
 intro h38
 refine Et (En Y Y Y (Eo (Er Y Y Y Y Y Y Y) (Ea Y (Ea Y (Em [8,9,10] Y (Eh (Fc (Ep ?_))))))))
 rotate_left
 intro h38
 rw[nnp] at h38
 refine Et (Ea Y (Ea Y (Em [2,3,4,8,11,104] Y (Fi Y (Fs (Ee Y (Ej Y Y Y (Ea Y (u_quo Y Y (by decide) ?_)))))))))
 rw[(tdiv4 (by omega)).1]
 have hq:=tdiv4 (a:=a) (by omega)
 have h12:=mod4 (a:=a) (by assumption) (by omega) (by omega)
 refine s_iaM Y Y (by(skip);omega) ?_
 intro y39 e39
 revert y39 e39;intro y hy
 refine u_ld Y Y (Ea Y (Ez (Fb (Eu (Ei [3,8,11] Y (Et (En Y Y Y (Ea Y (Eo (Er Y Y Y Y Y Y Y) (Ea Y (Ea Y (Em [8,9,10] Y (Eh ?_)))))))))))))
 rotate_left
 intro h37
 refine Eb Y (Eb Y (Eb Y (Eg Y Y (Ea Y (Em [1,2,3,4,8,11,91] Y (Fd Y (Et (En Y Y Y (Eo (Er Y Y Y Y Y Y Y) (Ea Y (Ea Y (Em [8,9,10] Y (Eh (Fc (Ep ?_)))))))))))))))
 rotate_left
 intro h36
 refine Eb Y (Eb Y (Eg Y Y (Ea Y (Eb Y (Eb Y (Eb Y (Eg Y Y (Ea Y (Em [1,2,3,4,8,11,91] Y (Fd Y (Et (En Y Y Y (Eo (Er Y Y Y Y Y Y Y) (Ea Y (Ea Y (Em [8,9,10] Y (Eh (Fc (Ep ?_)))))))))))))))))))
 rotate_left
 intro h28
 refine Eb Y (Ed Y Y (Ea Y (Eb Y (Eb Y (Eb Y (Eb Y (Ed Y Y (Ea Y (Em [1,2,3,4,8,11,51] Y (Fi Y (Et (Ea Y (Fm Y Y (Ea Y (Ft Y ?_ ?_)))))))))))))))
 intro h40
 refine Ea Y (Ec Y (Fk Y (Eg Y Y (Ea Y (Ec Y (Ee Y (Ec Y (Ej Y Y Y (Ec Y (Fw Y (Ec Y (u_gtr Y Y (Eg Y Y (Ea Y (Em [1,2,3,4,8,11,69] Y (Ew Y ?_ ?_))))))))))))))))
 intro h41
 refine Et (Ee Y (Ej Y Y Y (s_iaM Y Y (by(skip);omega) ?_)))
 intro y42 e42
 revert y42 e42;intro y hy
 refine u_ld Y Y (Ea Y (Em [3,4,8,11] Y (Fs (Ee Y (Ej Y Y Y (Fa (o_sl Y Y Y (by simp;omega) (by simp;omega)) ?_))))))
 rw[sl1_eq d.fifo]
 refine Fg [] Y Y Y Y (by simp) (.inl Y) (cg_253 (d.fifo.drop 1) (by simp;omega)) ?_
 rintro u L1 ⟨rfl,rfl⟩
 refine⟨_,_,Y,Y,?_⟩
 refine Ee Y (Eo (o_stC Y Y Y Y Y Y) (Ez (Fb (Eu (Ei [3,8,11] Y (Et (En Y Y Y (Ea Y (Eo (Er Y Y Y Y Y Y Y) (Ea Y (Ea Y (Em [8,9,10] Y (Eh ?_)))))))))))))
 rotate_left
 intro h41
 refine Et (Ea Y (u_geq Y Y (Ea Y (s_gDF Y ?_ ?_))))
 intro h43
 refine Ea Y (Ec Y (u_lss Y Y (Ed Y Y (Ea Y (s_gDF Y ?_ ?_)))))
 intro h44
 refine Ea Y (Ec Y (u_rem Y Y (by decide) (Ec Y (u_neq Y Y (Ed Y Y (Ea Y (Em [1,2,3,4,8,11,91] Y (Ew Y ?_ ?_))))))))
 intro h45
 refine Et (En Y Y Y (Eo (Er Y Y Y Y Y Y Y) (Ea Y (Ea Y (Em [8,9,10] Y (Eh (Fc (Ep ?_))))))))
 rotate_left
 intro h45
 rw[nnp] at h45
 refine Et (Ea Y (Ea Y (Em [2,3,4,8,11,104] Y (Fi Y (Fs (Ee Y (Ej Y Y Y (Ea Y (u_quo Y Y (by decide) ?_)))))))))
 rw[(tdiv4 (by omega)).1]
 have hq:=tdiv4 (a:=a) (by omega)
 have h12:=mod4 (a:=a) (by assumption) (by omega) (by omega)
 refine s_iaM Y Y (by(skip);omega) ?_
 intro y46 e46
 revert y46 e46;intro y hy
 refine u_ld Y Y (Ea Y (Ez (Fb (Eu (Ei [3,8,11] Y (Et (En Y Y Y (Ea Y (Eo (Er Y Y Y Y Y Y Y) (Ea Y (Ea Y (Em [8,9,10] Y (Eh ?_)))))))))))))
 rotate_left
 intro h44
 refine Eb Y (Eb Y (Eb Y (Eg Y Y (Ea Y (Em [1,2,3,4,8,11,91] Y (Fd Y (Et (En Y Y Y (Eo (Er Y Y Y Y Y Y Y) (Ea Y (Ea Y (Em [8,9,10] Y (Eh (Fc (Ep ?_)))))))))))))))
 rotate_left
 intro h43
 refine Eb Y (Eb Y (Eg Y Y (Ea Y (Eb Y (Eb Y (Eb Y (Eg Y Y (Ea Y (Em [1,2,3,4,8,11,91] Y (Fd Y (Et (En Y Y Y (Eo (Er Y Y Y Y Y Y Y) (Ea Y (Ea Y (Em [8,9,10] Y (Eh (Fc (Ep ?_)))))))))))))))))))
 rotate_left
 intro h40
 refine Eb Y (Eb Y (Ed Y Y (Ea Y (Eb Y (Eb Y (Eb Y (Eb Y (Ed Y Y (Ea Y (Em [1,2,3,4,8,11,69] Y (Fi Y (Et (Ea Y (u_geq Y Y (Ea Y (s_gDF Y ?_ ?_))))))))))))))))
 intro h47
 refine Ea Y (Ec Y (u_lss Y Y (Ed Y Y (Ea Y (s_gDF Y ?_ ?_)))))
 intro h48
 refine Ea Y (Ec Y (u_rem Y Y (by decide) (Ec Y (u_neq Y Y (Ed Y Y (Ea Y (Em [1,2,3,4,8,11,91] Y (Ew Y ?_ ?_))))))))
 intro h49
 refine Et (En Y Y Y (Eo (Er Y Y Y Y Y Y Y) (Ea Y (Ea Y (Em [8,9,10] Y (Eh (Fc (Ep ?_))))))))
 rotate_left
 intro h49
 rw[nnp] at h49
 refine Et (Ea Y (Ea Y (Em [2,3,4,8,11,104] Y (Fi Y (Fs (Ee Y (Ej Y Y Y (Ea Y (u_quo Y Y (by decide) ?_)))))))))
 rw[(tdiv4 (by omega)).1]
 have hq:=tdiv4 (a:=a) (by omega)
 have h12:=mod4 (a:=a) (by assumption) (by omega) (by omega)
 refine s_iaM Y Y (by(skip);omega) ?_
 intro y50 e50
 revert y50 e50;intro y hy
 refine u_ld Y Y (Ea Y (Ez (Fb (Eu (Ei [3,8,11] Y (Et (En Y Y Y (Ea Y (Eo (Er Y Y Y Y Y Y Y) (Ea Y (Ea Y (Em [8,9,10] Y (Eh ?_)))))))))))))
 rotate_left
 intro h48
 refine Eb Y (Eb Y (Eb Y (Eg Y Y (Ea Y (Em [1,2,3,4,8,11,91] Y (Fd Y (Et (En Y Y Y (Eo (Er Y Y Y Y Y Y Y) (Ea Y (Ea Y (Em [8,9,10] Y (Eh (Fc (Ep ?_)))))))))))))))
 rotate_left
 intro h47
 refine Eb Y (Eb Y (Eg Y Y (Ea Y (Eb Y (Eb Y (Eb Y (Eg Y Y (Ea Y (Em [1,2,3,4,8,11,91] Y (Fd Y (Et (En Y Y Y (Eo (Er Y Y Y Y Y Y Y) (Ea Y (Ea Y (Em [8,9,10] Y (Eh (Fc (Ep ?_)))))))))))))))))))
 rotate_left
 intro h1
 refine Eb Y (Eb Y (Ff Y (Ff Y (Ff Y (Eb Y (Eg Y Y (Em [1,2,3,4,8,11,24] Y (Fd Y (Et (En Y Y Y (Eo (Er Y Y Y Y Y Y Y) (Ea Y (Ea Y (Em [8,9,10] Y (Eh (Ep ?_))))))))))))))))
 rotate_left
 all_goals
  first|(exfalso;simp_all;done)|(refine Fv [2,3] (.inr Y) Y Y Y Y (show(List.range 0++[2,3]).Nodup by decide) ?_;(have e:devDo d false a v=(d,0,false):=by unfold devDo;(repeat' split) <;> first|rfl|(simp_all;done)|(exfalso;simp_all;omega));rw[e];exact⟨(by rfl),(by rfl)⟩)|(refine Fv [2,3] (.inr Y) Y Y Y Y (show(List.range 0++[2,3]).Nodup by decide) ?_;(have e:devDo d false a v=(d,y,true):=by unfold devDo;(repeat' split) <;> (simp_all;done));rw[e];exact⟨(by rfl),(by rfl)⟩)|(refine Fv [2,3] (.inr Y) Y Y Y Y (show(List.range 0++[2,3]).Nodup by decide) ?_;(have e:devDo d false a v=(⟨d.regs,(d.timer+1).tmod 4294967296,d.fifo⟩,d.timer,true):=by unfold devDo;(repeat' split) <;> first|rfl|(simp_all;done));rw[e];exact⟨(by rfl),(by rfl)⟩)|(refine Fv [2,5] (.inr Y) Y Y Y Y (show(List.range 0++[2,5]).Nodup by decide) ?_;(have e:devDo d false a v=(⟨d.regs,d.timer,d.fifo.drop 1⟩,y,true):=by unfold devDo;(repeat' split) <;> (simp_all;done));rw[e];exact⟨(by rfl),(by rfl)⟩)
theorem cg_39 (d:Dev) (w:Bool) (a v:Int) (hs:d.small):GV prg 39 [] [.agg d.r,.w (.bool w),.w (.int .i64 a),.w (.int .i64 v)] (fun u L1=>u=.tup [.agg [.ls 0 (devDo d w a v).1.regs.length,.w (.int .i64 (devDo d w a v).1.timer),.ls 1 (devDo d w a v).1.fifo.length],.w (.int .i64 (devDo d w a v).2.1),.w (.bool (devDo d w a v).2.2)]∧L1=[.arr 1 ((devDo d w a v).1.regs.map iR),.arr 1 ((devDo d w a v).1.fifo.map iR)]):=by
 cases w
 ·exact cg_39f d a v hs
 ·exact cg_39t d a v hs
def modelDo (m:Model) (w:Bool) (a z v:Int):Model×Int×Int:=
 if(m.ok && aligned a z && (!w || inB v 0 (limit z-1)))=true then
  if slaveOf a=1∨slaveOf a=2 then(if w=true then(⟨(putN m.ram a z v).1,m.dev⟩,v,0) else(m,(getN m.ram a z).1,0))
  else if slaveOf a=3∧z=2∧(devDo m.dev w (a-192) v).2.2=true then(⟨m.ram,(devDo m.dev w (a-192) v).1⟩,(devDo m.dev w (a-192) v).2.1,0)
  else(m,0,1)
 else(m,0,1)
theorem slave3 {a:Int} (h:slaveOf a=3):192≤a∧a<224:=by
 unfold slaveOf at h
 split at h
 ·omega
 ·split at h
  ·omega
  ·split at h
   ·omega
   ·omega
theorem slave12 {a:Int} (h:slaveOf a=1∨slaveOf a=2):0≤a∧a<192:=by
 unfold slaveOf at h
 split at h
 ·omega
 ·split at h
  ·omega
  ·split at h <;> omega
theorem mod_fits {m:Model} {a z:Int} (h:m.ok=true) (ha:aligned a z=true) (hs:slaveOf a=1∨slaveOf a=2):fitsB m.ram a z=true:=by
 obtain⟨h1,h2⟩:=slave12 hs
 simp only[Model.ok,Bool.and_eq_true,decide_eq_true_eq] at h
 unfold fitsB
 rw[ha,h.1.2]
 have hl:=h.1.1
 simp only[aligned,Bool.and_eq_true,decide_eq_true_eq] at ha
 have hm:=ha.2
 have hz:=in3 ha.1.1
 have:a≤192-bytes z:=by
  rw[Int.tmod_eq_emod_of_nonneg h1] at hm
  rcases hz with rfl|rfl|rfl
  ·have e:bytes 0=1:=by decide
   rw[e];omega
  ·have e:bytes 1=2:=by decide
   rw[e] at hm ⊢;omega
  ·have e:bytes 2=4:=by decide
   rw[e] at hm ⊢;omega
 simp only[Bool.and_true,Bool.and_eq_true,decide_eq_true_eq]
 omega
theorem put_ok {m:Model} {a z v:Int} (h:m.ok=true) (ha:aligned a z=true) (hv:inB v 0 (limit z-1)=true) (hs:slaveOf a=1∨slaveOf a=2):(putN m.ram a z v).2=true:=by rw[put_yes (mod_fits h ha hs) hv]
theorem get_ok {m:Model} {a z:Int} (h:m.ok=true) (ha:aligned a z=true) (hs:slaveOf a=1∨slaveOf a=2):(getN m.ram a z).2=true:=by rw[get_yes (mod_fits h ha hs)]
theorem cg_52t (m:Model) (a z v:Int) (hs:m.small):GV prg 52 [] [.agg m.r,.w (.bool true),.w (.int .i64 a),.w (.int .i64 z),.w (.int .i64 v)] (fun u L1=>u=.tup [.agg [.ls 0 (modelDo m true a z v).1.ram.length,.ls 1 (modelDo m true a z v).1.dev.regs.length,.w (.int .i64 (modelDo m true a z v).1.dev.timer),.ls 2 (modelDo m true a z v).1.dev.fifo.length],.w (.int .i64 (modelDo m true a z v).2.1),.w (.int .i64 (modelDo m true a z v).2.2)]∧L1=[.arr 1 ((modelDo m true a z v).1.ram.map iR),.arr 1 ((modelDo m true a z v).1.dev.regs.map iR),.arr 1 ((modelDo m true a z v).1.dev.fifo.map iR)]):=by
 have hs1:=hs.1
 have hs2:=hs.2.1
 have hs3:=hs.2.2
 refine gv_in g52 (Ei [0,1,2,3,4] Y (Et (u_box Y Y Y (Fu Y Y (Ea Y (Ea Y (z_q [1,2,3,4,5,10] Y (En Y Y Y (Fg [] Y Y Y Y (by simp) (.inl Y) (cg_98 m hs) ?_)))))))))
 rintro u L1 ⟨rfl,rfl⟩
 refine⟨_,_,Y,Y,?_⟩
 refine Fu Y Y (Eo (Er Y Y Y Y Y Y Y) (Em [1,2,3,4,5,10,13] Y (Ey (Et (En Y Y Y (Ev Y Y (c_53 m hs) (Fk Y (Ea Y (s_gNF Y ?_ ?_)))))))))
 intro h1
 refine Ea Y (Ec Y (Ea Y (Ec Y (Ev Y Y (c_21 _ _) (Ec Y (Fk Y (Ed Y Y (Ea Y (s_gNF Y ?_ ?_)))))))))
 intro h2
 refine Ea Y (Ec Y (Ea Y (Ec Y (Ea Y (Ec Y (Ea Y (Ek (is:=[1,2,3,4,5,10,13,27,29,30,31]) Y (Ec Y (Ev Y Y (c_92 _ _) (Ec Y (Fk Y (Ec Y (Eg Y Y (Ed Y Y (Em [1,2,3,4,5,10,13,35] Y (s_condNB Y ?_ ?_))))))))))))))))
 intro h3
 refine Et (En Y Y Y (Eo (Er Y Y Y Y Y Y Y) (Ea Y (Ea Y (Em [10,11,12] Y (Eh (Ep ?_)))))))
 rotate_left
 intro h3
 refine z_s [1,2,3,4,5,10,13] Y (Et (Ea Y (Em [1,2,3,4,5,10,13,14] Y (Ey (Et (Ea Y (Ev Y Y (c_73 _) (Ea Y (Em [1,2,3,4,5,10,13,14,15] Y (Fh (Et (Ea Y (Fm Y Y (Ea Y (Ft Y ?_ ?_)))))))))))))))
 intro h4
 have h4':=slave3 h4
 refine Ea Y (Ec Y (Fm Y Y (Eg Y Y (Ea Y (Em [1,2,3,4,5,10,13,14,15,39] Y (Ew Y ?_ ?_))))))
 intro h5
 refine Fs (Ee Y (En Y Y Y (Ea Y (Ea Y (Fa (o_subn Y Y (by omega)) (Ea Y (Fg [] Y Y Y Y (by simp) (.inl Y) (cg_39 m.dev true (a-192) v hs.2) ?_)))))))
 rintro u L1 ⟨rfl,rfl⟩
 refine⟨_,_,Y,Y,?_⟩
 refine Ea Y (u_ext Y Y (u_ext Y Y (u_ext Y Y (Ee Y (Eo (Er Y Y Y Y Y Y Y) (Ea Y (Ea Y (Ez (Fb (Eu (Ei [4,5,10,13,14] Y (Ey (Et (Ea Y (Fk Y (Em [4,5,10,13,85] Y (s_condNB Y ?_ ?_)))))))))))))))))
 intro h6
 refine Et (En Y Y Y (Fg [] Y Y Y Y (by simp) (.inl Y) (cg_98 m hs) ?_))
 rintro u L1 ⟨rfl,rfl⟩
 refine⟨_,_,Y,Y,?_⟩
 refine Eo (Er Y Y Y Y Y Y Y) (Ea Y (Ea Y (Em [10,11,12] Y (Eh (Ep ?_)))))
 rotate_left
 intro h6
 refine z_s [4,10,13] Y (Et (En Y Y Y (Ea Y (Eo (Er Y Y Y Y Y Y Y) (Ea Y (Ea Y (Em [10,11,12] Y (Eh ?_))))))))
 rotate_left
 intro h5
 refine Et (Ea Y (Fm Y Y (Ea Y (s_gDF Y ?_ ?_))))
 intro h7
 refine Ea Y (Ec Y (Fm Y Y (Ed Y Y (Ea Y (Em [1,2,3,4,5,10,13,14,58] Y (Ew Y ?_ ?_))))))
 intro h8
 refine Et (Ea Y (Em [2,3,4,5,10,13,65] Y (Fd Y (Fs (Ee Y (Ej Y Y Y (Ea Y (Ea Y (Ea Y (Fg [] Y Y Y Y (by simp) (.inl Y) (cg_62 m.ram a z v hs.1) ?_))))))))))
 rintro u L1 ⟨rfl,rfl⟩
 refine⟨_,_,Y,Y,?_⟩
 refine Ea Y (u_ext Y Y (u_ext Y Y ?_))
 rw[put_ok (m:=m) (a:=a) (z:=z) (v:=v) (by assumption) (by assumption) (by assumption) (by omega)]
 refine Ee Y (Eo (o_stC Y Y Y Y Y Y) (Ea Y (Ez (Fb (Eu (Ei [4,5,10,13,14] Y (Ey (Et (Ea Y (Fk Y (Em [4,5,10,13,85] Y (Fi Y (z_s [4,10,13] Y (Et (En Y Y Y (Ea Y (Eo (Er Y Y Y Y Y Y Y) (Ea Y (Ea Y (Em [10,11,12] Y (Eh ?_)))))))))))))))))))))
 rotate_left
 intro h8
 refine Fr (Fb (Eu (Ei [4,5,10,13,14] Y (Ey (Et (Ea Y (Fk Y (Em [4,5,10,13,85] Y (Fd Y (Et (En Y Y Y (Fg [] Y Y Y Y (by simp) (.inl Y) (cg_98 m hs) ?_))))))))))))
 rintro u L1 ⟨rfl,rfl⟩
 refine⟨_,_,Y,Y,?_⟩
 refine Eo (Er Y Y Y Y Y Y Y) (Ea Y (Ea Y (Em [10,11,12] Y (Eh (Ep ?_)))))
 rotate_left
 intro h7
 refine Eb Y (Eb Y (Eg Y Y (Ea Y (Em [1,2,3,4,5,10,13,14,58] Y (Fd Y (Et (Ea Y (Em [2,3,4,5,10,13,65] Y (Fd Y (Fs (Ee Y (Ej Y Y Y (Ea Y (Ea Y (Ea Y (Fg [] Y Y Y Y (by simp) (.inl Y) (cg_62 m.ram a z v hs.1) ?_))))))))))))))))
 rintro u L1 ⟨rfl,rfl⟩
 refine⟨_,_,Y,Y,?_⟩
 refine Ea Y (u_ext Y Y (u_ext Y Y ?_))
 rw[put_ok (m:=m) (a:=a) (z:=z) (v:=v) (by assumption) (by assumption) (by assumption) (by omega)]
 refine Ee Y (Eo (o_stC Y Y Y Y Y Y) (Ea Y (Ez (Fb (Eu (Ei [4,5,10,13,14] Y (Ey (Et (Ea Y (Fk Y (Em [4,5,10,13,85] Y (Fi Y (z_s [4,10,13] Y (Et (En Y Y Y (Ea Y (Eo (Er Y Y Y Y Y Y Y) (Ea Y (Ea Y (Em [10,11,12] Y (Eh ?_)))))))))))))))))))))
 rotate_left
 intro h4
 refine Eb Y (Eb Y (Ed Y Y (Ea Y (Em [1,2,3,4,5,10,13,14,15,39] Y (Fi Y (Et (Ea Y (Fm Y Y (Ea Y (s_gDF Y ?_ ?_))))))))))
 intro h9
 refine Ea Y (Ec Y (Fm Y Y (Ed Y Y (Ea Y (Em [1,2,3,4,5,10,13,14,58] Y (Ew Y ?_ ?_))))))
 intro h10
 refine Et (Ea Y (Em [2,3,4,5,10,13,65] Y (Fd Y (Fs (Ee Y (Ej Y Y Y (Ea Y (Ea Y (Ea Y (Fg [] Y Y Y Y (by simp) (.inl Y) (cg_62 m.ram a z v hs.1) ?_))))))))))
 rintro u L1 ⟨rfl,rfl⟩
 refine⟨_,_,Y,Y,?_⟩
 refine Ea Y (u_ext Y Y (u_ext Y Y ?_))
 rw[put_ok (m:=m) (a:=a) (z:=z) (v:=v) (by assumption) (by assumption) (by assumption) (by omega)]
 refine Ee Y (Eo (o_stC Y Y Y Y Y Y) (Ea Y (Ez (Fb (Eu (Ei [4,5,10,13,14] Y (Ey (Et (Ea Y (Fk Y (Em [4,5,10,13,85] Y (Fi Y (z_s [4,10,13] Y (Et (En Y Y Y (Ea Y (Eo (Er Y Y Y Y Y Y Y) (Ea Y (Ea Y (Em [10,11,12] Y (Eh ?_)))))))))))))))))))))
 rotate_left
 intro h10
 refine Fr (Fb (Eu (Ei [4,5,10,13,14] Y (Ey (Et (Ea Y (Fk Y (Em [4,5,10,13,85] Y (Fd Y (Et (En Y Y Y (Fg [] Y Y Y Y (by simp) (.inl Y) (cg_98 m hs) ?_))))))))))))
 rintro u L1 ⟨rfl,rfl⟩
 refine⟨_,_,Y,Y,?_⟩
 refine Eo (Er Y Y Y Y Y Y Y) (Ea Y (Ea Y (Em [10,11,12] Y (Eh (Ep ?_)))))
 rotate_left
 intro h9
 refine Eb Y (Eb Y (Eg Y Y (Ea Y (Em [1,2,3,4,5,10,13,14,58] Y (Fd Y (Et (Ea Y (Em [2,3,4,5,10,13,65] Y (Fd Y (Fs (Ee Y (Ej Y Y Y (Ea Y (Ea Y (Ea Y (Fg [] Y Y Y Y (by simp) (.inl Y) (cg_62 m.ram a z v hs.1) ?_))))))))))))))))
 rintro u L1 ⟨rfl,rfl⟩
 refine⟨_,_,Y,Y,?_⟩
 refine Ea Y (u_ext Y Y (u_ext Y Y ?_))
 rw[put_ok (m:=m) (a:=a) (z:=z) (v:=v) (by assumption) (by assumption) (by assumption) (by omega)]
 refine Ee Y (Eo (o_stC Y Y Y Y Y Y) (Ea Y (Ez (Fb (Eu (Ei [4,5,10,13,14] Y (Ey (Et (Ea Y (Fk Y (Em [4,5,10,13,85] Y (Fi Y (z_s [4,10,13] Y (Et (En Y Y Y (Ea Y (Eo (Er Y Y Y Y Y Y Y) (Ea Y (Ea Y (Em [10,11,12] Y (Eh ?_)))))))))))))))))))))
 rotate_left
 intro h2
 refine Eb Y (Eb Y (Ff Y (Ff Y (Ek (is:=[1,2,3,4,5,10,13,27,29,30,31]) Y (Ff Y (Ff Y (Eb Y (Eg Y Y (Em [1,2,3,4,5,10,13,35] Y (Fd Y (Et (En Y Y Y (Eo (Er Y Y Y Y Y Y Y) (Ea Y (Ea Y (Em [10,11,12] Y (Eh (Ep ?_))))))))))))))))))
 rotate_left
 intro h1
 refine Eb Y (Eb Y (Eb Y (Eb Y (Eg Y Y (Ea Y (Eb Y (Eb Y (Ff Y (Ff Y (Ek (is:=[1,2,3,4,5,10,13,27,29,30,31]) Y (Ff Y (Ff Y (Eb Y (Eg Y Y (Em [1,2,3,4,5,10,13,35] Y (Fd Y (Et (En Y Y Y (Eo (Er Y Y Y Y Y Y Y) (Ea Y (Ea Y (Em [10,11,12] Y (Eh (Ep ?_))))))))))))))))))))))))
 rotate_left
 all_goals
  first|(exfalso;simp_all;done)|(refine Fv [2,3,4] (.inr Y) Y Y Y Y (show(List.range 0++[2,3,4]).Nodup by decide) ?_;(have e:modelDo m true a z v=(m,0,1):=by unfold modelDo;(repeat' split) <;> first|rfl|(simp_all;done));rw[e];exact⟨by rfl,rfl⟩)|(refine Fv [8,9,10] (.inr Y) Y Y Y Y (show(List.range 0++[8,9,10]).Nodup by decide) ?_;(have e:modelDo m true a z v=(m,0,1):=by unfold modelDo;(repeat' split) <;> first|rfl|(simp_all;done));rw[e];exact⟨by rfl,rfl⟩)|(refine Fv [6,7,8] (.inr Y) Y Y Y Y (show(List.range 0++[6,7,8]).Nodup by decide) ?_;(have e:modelDo m true a z v=(m,0,1):=by unfold modelDo;(repeat' split) <;> first|rfl|(simp_all;done));rw[e];exact⟨by rfl,rfl⟩)|(refine Fv [6,3,4] (.inr Y) Y Y Y Y (show(List.range 0++[6,3,4]).Nodup by decide) ?_;(have e:modelDo m true a z v=(⟨(putN m.ram a z v).1,m.dev⟩,v,0):=by unfold modelDo;(repeat' split) <;> first|rfl|(simp_all;done));rw[e];exact⟨by rfl,rfl⟩)|(refine Fv [2,6,7] (.inr Y) Y Y Y Y (show(List.range 0++[2,6,7]).Nodup by decide) ?_;(have e:modelDo m true a z v=(⟨m.ram,(devDo m.dev true (a-192) v).1⟩,(devDo m.dev true (a-192) v).2.1,0):=by unfold modelDo;(repeat' split) <;> first|rfl|(simp_all;done));rw[e];exact⟨by rfl,rfl⟩)
theorem cg_52f (m:Model) (a z v:Int) (hs:m.small):GV prg 52 [] [.agg m.r,.w (.bool false),.w (.int .i64 a),.w (.int .i64 z),.w (.int .i64 v)] (fun u L1=>u=.tup [.agg [.ls 0 (modelDo m false a z v).1.ram.length,.ls 1 (modelDo m false a z v).1.dev.regs.length,.w (.int .i64 (modelDo m false a z v).1.dev.timer),.ls 2 (modelDo m false a z v).1.dev.fifo.length],.w (.int .i64 (modelDo m false a z v).2.1),.w (.int .i64 (modelDo m false a z v).2.2)]∧L1=[.arr 1 ((modelDo m false a z v).1.ram.map iR),.arr 1 ((modelDo m false a z v).1.dev.regs.map iR),.arr 1 ((modelDo m false a z v).1.dev.fifo.map iR)]):=by
 have hs1:=hs.1
 have hs2:=hs.2.1
 have hs3:=hs.2.2
 refine gv_in g52 (Ei [0,1,2,3,4] Y (Et (u_box Y Y Y (Fu Y Y (Ea Y (Ea Y (z_q [1,2,3,4,5,10] Y (En Y Y Y (Fg [] Y Y Y Y (by simp) (.inl Y) (cg_98 m hs) ?_)))))))))
 rintro u L1 ⟨rfl,rfl⟩
 refine⟨_,_,Y,Y,?_⟩
 refine Fu Y Y (Eo (Er Y Y Y Y Y Y Y) (Em [1,2,3,4,5,10,13] Y (Ey (Et (En Y Y Y (Ev Y Y (c_53 m hs) (Fk Y (Ea Y (s_gNF Y ?_ ?_)))))))))
 intro h1
 refine Ea Y (Ec Y (Ea Y (Ec Y (Ev Y Y (c_21 _ _) (Ec Y (Fk Y (Ed Y Y (Ea Y (s_gNF Y ?_ ?_)))))))))
 intro h2
 refine Ea Y (Ec Y (Ea Y (Eb Y (Eb Y (Ek (is:=[1,2,3,4,5,10,13,27,29,30,31]) Y (Eb Y (Eb Y (Ec Y (Ed Y Y (Ed Y Y (Em [1,2,3,4,5,10,13,35] Y (Fi Y (z_s [1,2,3,4,5,10,13] Y (Et (Ea Y (Em [1,2,3,4,5,10,13,14] Y (Ey (Et (Ea Y (Ev Y Y (c_73 _) (Ea Y (Em [1,2,3,4,5,10,13,14,15] Y (Fh (Et (Ea Y (Fm Y Y (Ea Y (Ft Y ?_ ?_))))))))))))))))))))))))))))
 intro h3
 have h3':=slave3 h3
 refine Ea Y (Ec Y (Fm Y Y (Eg Y Y (Ea Y (Em [1,2,3,4,5,10,13,14,15,39] Y (Ew Y ?_ ?_))))))
 intro h4
 refine Fs (Ee Y (En Y Y Y (Ea Y (Ea Y (Fa (o_subn Y Y (by omega)) (Ea Y (Fg [] Y Y Y Y (by simp) (.inl Y) (cg_39 m.dev false (a-192) v hs.2) ?_)))))))
 rintro u L1 ⟨rfl,rfl⟩
 refine⟨_,_,Y,Y,?_⟩
 refine Ea Y (u_ext Y Y (u_ext Y Y (u_ext Y Y (Ee Y (Eo (Er Y Y Y Y Y Y Y) (Ea Y (Ea Y (Ez (Fb (Eu (Ei [4,5,10,13,14] Y (Ey (Et (Ea Y (Fk Y (Em [4,5,10,13,85] Y (s_condNB Y ?_ ?_)))))))))))))))))
 intro h5
 refine Et (En Y Y Y (Fg [] Y Y Y Y (by simp) (.inl Y) (cg_98 m hs) ?_))
 rintro u L1 ⟨rfl,rfl⟩
 refine⟨_,_,Y,Y,?_⟩
 refine Eo (Er Y Y Y Y Y Y Y) (Ea Y (Ea Y (Em [10,11,12] Y (Eh (Ep ?_)))))
 rotate_left
 intro h5
 refine z_s [4,10,13] Y (Et (En Y Y Y (Ea Y (Eo (Er Y Y Y Y Y Y Y) (Ea Y (Ea Y (Em [10,11,12] Y (Eh ?_))))))))
 rotate_left
 intro h4
 refine Et (Ea Y (Fm Y Y (Ea Y (s_gDF Y ?_ ?_))))
 intro h6
 refine Ea Y (Ec Y (Fm Y Y (Ed Y Y (Ea Y (Em [1,2,3,4,5,10,13,14,58] Y (Ew Y ?_ ?_))))))
 intro h7
 refine Et (Ea Y (Em [2,3,4,5,10,13,65] Y (Fi Y (Fs (Ee Y (Ej Y Y Y (Ea Y (Ea Y (Ev Y Y (c_47 m.ram a z hs.1) (Ea Y (u_ext Y Y (u_ext Y Y ?_))))))))))))
 rw[show V.w (.bool (getN m.ram a z).2)=V.w (.bool true) from by rw[get_ok (m:=m) (by assumption) (by assumption) (by omega)]]
 refine Ea Y (Ea Y (Ez (Fb (Eu (Ei [4,5,10,13,14] Y (Ey (Et (Ea Y (Fk Y (Em [4,5,10,13,85] Y (Fi Y (z_s [4,10,13] Y (Et (En Y Y Y (Ea Y (Eo (Er Y Y Y Y Y Y Y) (Ea Y (Ea Y (Em [10,11,12] Y (Eh ?_))))))))))))))))))))
 rotate_left
 intro h7
 refine Fr (Fb (Eu (Ei [4,5,10,13,14] Y (Ey (Et (Ea Y (Fk Y (Em [4,5,10,13,85] Y (Fd Y (Et (En Y Y Y (Fg [] Y Y Y Y (by simp) (.inl Y) (cg_98 m hs) ?_))))))))))))
 rintro u L1 ⟨rfl,rfl⟩
 refine⟨_,_,Y,Y,?_⟩
 refine Eo (Er Y Y Y Y Y Y Y) (Ea Y (Ea Y (Em [10,11,12] Y (Eh (Ep ?_)))))
 rotate_left
 intro h6
 refine Eb Y (Eb Y (Eg Y Y (Ea Y (Em [1,2,3,4,5,10,13,14,58] Y (Fd Y (Et (Ea Y (Em [2,3,4,5,10,13,65] Y (Fi Y (Fs (Ee Y (Ej Y Y Y (Ea Y (Ea Y (Ev Y Y (c_47 m.ram a z hs.1) (Ea Y (u_ext Y Y (u_ext Y Y ?_))))))))))))))))))
 rw[show V.w (.bool (getN m.ram a z).2)=V.w (.bool true) from by rw[get_ok (m:=m) (by assumption) (by assumption) (by omega)]]
 refine Ea Y (Ea Y (Ez (Fb (Eu (Ei [4,5,10,13,14] Y (Ey (Et (Ea Y (Fk Y (Em [4,5,10,13,85] Y (Fi Y (z_s [4,10,13] Y (Et (En Y Y Y (Ea Y (Eo (Er Y Y Y Y Y Y Y) (Ea Y (Ea Y (Em [10,11,12] Y (Eh ?_))))))))))))))))))))
 rotate_left
 intro h3
 refine Eb Y (Eb Y (Ed Y Y (Ea Y (Em [1,2,3,4,5,10,13,14,15,39] Y (Fi Y (Et (Ea Y (Fm Y Y (Ea Y (s_gDF Y ?_ ?_))))))))))
 intro h8
 refine Ea Y (Ec Y (Fm Y Y (Ed Y Y (Ea Y (Em [1,2,3,4,5,10,13,14,58] Y (Ew Y ?_ ?_))))))
 intro h9
 refine Et (Ea Y (Em [2,3,4,5,10,13,65] Y (Fi Y (Fs (Ee Y (Ej Y Y Y (Ea Y (Ea Y (Ev Y Y (c_47 m.ram a z hs.1) (Ea Y (u_ext Y Y (u_ext Y Y ?_))))))))))))
 rw[show V.w (.bool (getN m.ram a z).2)=V.w (.bool true) from by rw[get_ok (m:=m) (by assumption) (by assumption) (by omega)]]
 refine Ea Y (Ea Y (Ez (Fb (Eu (Ei [4,5,10,13,14] Y (Ey (Et (Ea Y (Fk Y (Em [4,5,10,13,85] Y (Fi Y (z_s [4,10,13] Y (Et (En Y Y Y (Ea Y (Eo (Er Y Y Y Y Y Y Y) (Ea Y (Ea Y (Em [10,11,12] Y (Eh ?_))))))))))))))))))))
 rotate_left
 intro h9
 refine Fr (Fb (Eu (Ei [4,5,10,13,14] Y (Ey (Et (Ea Y (Fk Y (Em [4,5,10,13,85] Y (Fd Y (Et (En Y Y Y (Fg [] Y Y Y Y (by simp) (.inl Y) (cg_98 m hs) ?_))))))))))))
 rintro u L1 ⟨rfl,rfl⟩
 refine⟨_,_,Y,Y,?_⟩
 refine Eo (Er Y Y Y Y Y Y Y) (Ea Y (Ea Y (Em [10,11,12] Y (Eh (Ep ?_)))))
 rotate_left
 intro h8
 refine Eb Y (Eb Y (Eg Y Y (Ea Y (Em [1,2,3,4,5,10,13,14,58] Y (Fd Y (Et (Ea Y (Em [2,3,4,5,10,13,65] Y (Fi Y (Fs (Ee Y (Ej Y Y Y (Ea Y (Ea Y (Ev Y Y (c_47 m.ram a z hs.1) (Ea Y (u_ext Y Y (u_ext Y Y ?_))))))))))))))))))
 rw[show V.w (.bool (getN m.ram a z).2)=V.w (.bool true) from by rw[get_ok (m:=m) (by assumption) (by assumption) (by omega)]]
 refine Ea Y (Ea Y (Ez (Fb (Eu (Ei [4,5,10,13,14] Y (Ey (Et (Ea Y (Fk Y (Em [4,5,10,13,85] Y (Fi Y (z_s [4,10,13] Y (Et (En Y Y Y (Ea Y (Eo (Er Y Y Y Y Y Y Y) (Ea Y (Ea Y (Em [10,11,12] Y (Eh ?_))))))))))))))))))))
 rotate_left
 intro h2
 refine Eb Y (Eb Y (Ff Y (Ff Y (Ek (is:=[1,2,3,4,5,10,13,27,29,30,31]) Y (Ff Y (Ff Y (Eb Y (Eg Y Y (Em [1,2,3,4,5,10,13,35] Y (Fd Y (Et (En Y Y Y (Eo (Er Y Y Y Y Y Y Y) (Ea Y (Ea Y (Em [10,11,12] Y (Eh (Ep ?_))))))))))))))))))
 rotate_left
 intro h1
 refine Eb Y (Eb Y (Eb Y (Eb Y (Eg Y Y (Ea Y (Eb Y (Eb Y (Ff Y (Ff Y (Ek (is:=[1,2,3,4,5,10,13,27,29,30,31]) Y (Ff Y (Ff Y (Eb Y (Eg Y Y (Em [1,2,3,4,5,10,13,35] Y (Fd Y (Et (En Y Y Y (Eo (Er Y Y Y Y Y Y Y) (Ea Y (Ea Y (Em [10,11,12] Y (Eh (Ep ?_))))))))))))))))))))))))
 rotate_left
 all_goals
  first|(exfalso;simp_all;done)|(refine Fv [2,3,4] (.inr Y) Y Y Y Y (show(List.range 0++[2,3,4]).Nodup by decide) ?_;(have e:modelDo m false a z v=(m,0,1):=by unfold modelDo;(repeat' split) <;> first|rfl|(simp_all;done));rw[e];exact⟨by rfl,rfl⟩)|(refine Fv [8,9,10] (.inr Y) Y Y Y Y (show(List.range 0++[8,9,10]).Nodup by decide) ?_;(have e:modelDo m false a z v=(m,0,1):=by unfold modelDo;(repeat' split) <;> first|rfl|(simp_all;done));rw[e];exact⟨by rfl,rfl⟩)|(refine Fv [6,7,8] (.inr Y) Y Y Y Y (show(List.range 0++[6,7,8]).Nodup by decide) ?_;(have e:modelDo m false a z v=(m,0,1):=by unfold modelDo;(repeat' split) <;> first|rfl|(simp_all;done));rw[e];exact⟨by rfl,rfl⟩)|(refine Fv [2,3,4] (.inr Y) Y Y Y Y (show(List.range 0++[2,3,4]).Nodup by decide) ?_;(have e:modelDo m false a z v=(m,(getN m.ram a z).1,0):=by unfold modelDo;(repeat' split) <;> first|rfl|(simp_all;done));rw[e];exact⟨by rfl,rfl⟩)|(refine Fv [2,6,7] (.inr Y) Y Y Y Y (show(List.range 0++[2,6,7]).Nodup by decide) ?_;(have e:modelDo m false a z v=(⟨m.ram,(devDo m.dev false (a-192) v).1⟩,(devDo m.dev false (a-192) v).2.1,0):=by unfold modelDo;(repeat' split) <;> first|rfl|(simp_all;done));rw[e];exact⟨by rfl,rfl⟩)
theorem cg_52 (m:Model) (w:Bool) (a z v:Int) (hs:m.small):GV prg 52 [] [.agg m.r,.w (.bool w),.w (.int .i64 a),.w (.int .i64 z),.w (.int .i64 v)] (fun u L1=>u=.tup [.agg [.ls 0 (modelDo m w a z v).1.ram.length,.ls 1 (modelDo m w a z v).1.dev.regs.length,.w (.int .i64 (modelDo m w a z v).1.dev.timer),.ls 2 (modelDo m w a z v).1.dev.fifo.length],.w (.int .i64 (modelDo m w a z v).2.1),.w (.int .i64 (modelDo m w a z v).2.2)]∧L1=[.arr 1 ((modelDo m w a z v).1.ram.map iR),.arr 1 ((modelDo m w a z v).1.dev.regs.map iR),.arr 1 ((modelDo m w a z v).1.dev.fifo.map iR)]):=by
 cases w
 ·exact cg_52f m a z v hs
 ·exact cg_52t m a z v hs
def tbV (st b:Int):Int:=if st=1 then b.tmod 2 else if st=2 then IntKind.wrap .i64 (97+b.tmod 4) else b
def tb (st b:Int):UInt8:=UInt8.ofNat (IntKind.wrap .u8 (tbV st b)).toNat
end Go.Proofs.YtoppcdecolponaaGreat.AL
