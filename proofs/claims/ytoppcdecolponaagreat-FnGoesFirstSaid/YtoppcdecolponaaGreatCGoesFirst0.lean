/- What functions do with plain data,each by the form of its code. Printed by program. -/
import Derived.Test.YtoppcdecolponaaGreatWa3
import Derived.Test.YtoppcdecolponaaGreatVZ
namespace Go.Proofs.YtoppcdecolponaaGreat.AL
open Go
set_option linter.unusedVariables false
set_option linter.unusedSimpArgs false
set_option maxRecDepth 4096
theorem c_230 (a b c:Int):CV prg 230 [.w (.int .i64 a),.w (.int .i64 b),.w (.int .i64 c)] (fun res=>res=.w (.bool (inB a b c))):=by
 refine cv_in g230 (Ei [0,1,2] Y (Et (Ea Y (z_q [0,1,2] Y (Ea Y (Ea Y (u_geq Y Y (Ea Y (Ft Y ?_ ?_)))))))))
 intro h1
 refine Ea Y (Ec Y (Ea Y (Ec Y (u_leq Y Y (Eg Y Y (Ea Y (Em [6] Y (Eh (Ef Y Y ?_)))))))))
 rotate_left
 intro h1
 refine Eb Y (Eb Y (Eb Y (Ed Y Y (Ea Y (Em [6] Y (Eh (Ef Y Y ?_)))))))
 rotate_left
 all_goals
  simp_all [inB] <;> omega
theorem c_103 (a b c:Int):CV prg 103 [.w (.int .i64 a),.w (.int .i64 b),.w (.int .i64 c)] (fun res=>res=.w (.bool (inB a b c))):=by
 refine cv_in g103 (Ei [0,1,2] Y (Et (Ea Y (z_q [0,1,2] Y (Ea Y (Ea Y (u_leq Y Y (Ea Y (Ft Y ?_ ?_)))))))))
 intro h1
 refine Ea Y (Ec Y (Ea Y (Ec Y (u_leq Y Y (Eg Y Y (Ea Y (Em [6] Y (Eh (Ef Y Y ?_)))))))))
 rotate_left
 intro h1
 refine Eb Y (Eb Y (Eb Y (Ed Y Y (Ea Y (Em [6] Y (Eh (Ef Y Y ?_)))))))
 rotate_left
 all_goals
  simp_all [inB] <;> omega
theorem cost_leaf {x:Conf} (h1:inB x.maxRetry 0 3=true) (h2:inB x.maxWait 0 3=true):IntKind.wrap .i64 (IntKind.wrap .i64 (x.maxRetry+2) * IntKind.wrap .i64 (x.maxWait+6))=x.cost:=by
 unfold Conf.cost
 rw[h1,h2]
 simp only[inB,Bool.and_eq_true,decide_eq_true_eq] at h1 h2
 have hr:x.maxRetry=0∨x.maxRetry=1∨x.maxRetry=2∨x.maxRetry=3:=by omega
 rw[wrap_in (x.maxRetry+2) (by omega),wrap_in (x.maxWait+6) (by omega),wrap_in]
 ·rfl
 ·rcases hr with h|h|h|h <;> rw[h] <;> omega
theorem c_186 (x:Conf):CV prg 186 [.agg x.r] (fun res=>res=.w (.int .i64 x.cost)):=by
 refine cv_in g186 (Ei [0] Y (Et (u_box Y Y Y (Ea Y (Em [1] Y (Ey (Et (Ee Y (Ej Y Y Y (Ev Y Y (c_230 ..) (Fk Y (Ea Y (s_gNF Y ?_ ?_)))))))))))))
 intro h1
 refine Ee Y (Ec Y (Ej Y Y Y (Ec Y (Ev Y Y (c_230 ..) (Ec Y (Fk Y (Ed Y Y (Em [1,12] Y (s_condNB Y ?_ ?_)))))))))
 intro h2
 refine Et (Ea Y (Em [2] Y (Eh (Ep (Fe Y Y ?_)))))
 rotate_left
 intro h2
 refine z_s [1] Y (Et (Ee Y (Ej Y Y Y (u_add Y Y (Ee Y (Ej Y Y Y (u_add Y Y (u_mul Y Y (Ea Y (Em [2] Y (Eh (Fe Y Y ?_))))))))))))
 rotate_left
 intro h1
 refine Eb Y (Eb Y (Eb Y (Eb Y (Eg Y Y (Em [1,12] Y (Fd Y (Et (Ea Y (Em [2] Y (Eh (Ep (Fe Y Y ?_))))))))))))
 rotate_left
 all_goals
  first|exact cost_leaf (by assumption) (by assumption)|simp_all [Conf.cost]
theorem c_37 (x:Conf):CV prg 37 [.agg x.r] (fun res=>res=.w (.int .i64 x.cost)):=by
 refine cv_in g37 (Ei [0] Y (Et (u_box Y Y Y (Ea Y (Em [1] Y (Ey (Et (Ee Y (Ej Y Y Y (Ev Y Y (c_103 ..) (Fk Y (Ea Y (s_gNF Y ?_ ?_)))))))))))))
 intro h1
 refine Ee Y (Ec Y (Ej Y Y Y (Ec Y (Ev Y Y (c_103 ..) (Ec Y (Fk Y (Ed Y Y (Em [1,12] Y (s_condNB Y ?_ ?_)))))))))
 intro h2
 refine Et (Ea Y (Em [2] Y (Eh (Ep (Fe Y Y ?_)))))
 rotate_left
 intro h2
 refine z_s [1] Y (Et (Ee Y (Ej Y Y Y (u_add Y Y (Ee Y (Ej Y Y Y (u_add Y Y (u_mul Y Y (Ea Y (Em [2] Y (Eh (Fe Y Y ?_))))))))))))
 rotate_left
 intro h1
 refine Eb Y (Eb Y (Eb Y (Eb Y (Eg Y Y (Em [1,12] Y (Fd Y (Et (Ea Y (Em [2] Y (Eh (Ep (Fe Y Y ?_))))))))))))
 rotate_left
 all_goals
  first|exact cost_leaf (by assumption) (by assumption)|simp_all [Conf.cost]
theorem c_214 (x:Conf):CV prg 214 [.agg x.r] (fun res=>res=.w (.int .i64 x.slot)):=by
 have hc:=x.cost_bd
 refine cv_in g214 (Ei [0] Y (Et (u_box Y Y Y (Ea Y (Em [1] Y (Ey (Et (En Y Y Y (Ev Y Y (c_186 ..) (Fm Y Y (Ea Y (s_gDF Y ?_ ?_))))))))))))
 intro h1
 refine Ee Y (Ec Y (Ej Y Y Y (Ec Y (Ev Y Y (c_230 ..) (Ec Y (Fk Y (Ed Y Y (Em [1,11] Y (s_condNB Y ?_ ?_)))))))))
 intro h2
 refine Et (Ea Y (Em [2] Y (Eh (Ep (Fe Y Y ?_)))))
 rotate_left
 intro h2
 have h2':=inB_t h2
 refine z_s [1] Y (Et (En Y Y Y (Ev Y Y (c_186 ..) (Fa (o_muln Y Y (by omega)) (Ee Y (Ej Y Y Y (Fa (Fn Y Y (by omega)) (Ea Y (Em [2] Y (Eh (Fe Y Y ?_)))))))))))
 rotate_left
 intro h1
 refine Eb Y (Eb Y (Eb Y (Eb Y (Eg Y Y (Em [1,11] Y (Fd Y (Et (Ea Y (Em [2] Y (Eh (Ep (Fe Y Y ?_))))))))))))
 rotate_left
 all_goals
  simp_all [Conf.slot];done
theorem c_74 (x:Conf):CV prg 74 [.agg x.r] (fun res=>res=.w (.int .i64 x.slot)):=by
 have hc:=x.cost_bd
 refine cv_in g74 (Ei [0] Y (Et (u_box Y Y Y (Ea Y (Em [1] Y (Ey (Et (En Y Y Y (Ev Y Y (c_37 ..) (Fm Y Y (Ea Y (s_gDF Y ?_ ?_))))))))))))
 intro h1
 refine Ee Y (Ec Y (Ej Y Y Y (Ec Y (Ev Y Y (c_103 ..) (Ec Y (Fk Y (Ed Y Y (Em [1,11] Y (s_condNB Y ?_ ?_)))))))))
 intro h2
 refine Et (Ea Y (Em [2] Y (Eh (Ep (Fe Y Y ?_)))))
 rotate_left
 intro h2
 have h2':=inB_t h2
 refine z_s [1] Y (Et (En Y Y Y (Ev Y Y (c_37 ..) (Fa (o_muln Y Y (by omega)) (Ee Y (Ej Y Y Y (Fa (Fn Y Y (by omega)) (Ea Y (Em [2] Y (Eh (Fe Y Y ?_)))))))))))
 rotate_left
 intro h1
 refine Eb Y (Eb Y (Eb Y (Eb Y (Eg Y Y (Em [1,11] Y (Fd Y (Et (Ea Y (Em [2] Y (Eh (Ep (Fe Y Y ?_))))))))))))
 rotate_left
 all_goals
  simp_all [Conf.slot];done
theorem c_245 (x:Conf):CV prg 245 [.agg x.r] (fun res=>res=.w (.bool (inB x.quantum 1 4 && decide (0<x.cost) && inB x.maxSplit 1 12 && inB x.lockMost 1 40))):=by
 refine cv_in g245 (Ei [0] Y (Et (u_box Y Y Y (Ea Y (z_q [1] Y (Ee Y (Ej Y Y Y (Ev Y Y (c_230 ..) (Ea Y (s_gB Y ?_ ?_))))))))))
 intro h1
 refine En Y Y Y (Ec Y (Ev Y Y (c_186 ..) (Ec Y (u_gtr Y Y (Eg Y Y (Ea Y (Ft Y ?_ ?_)))))))
 intro h2
 refine Ee Y (Ec Y (Ej Y Y Y (Ec Y (Ev Y Y (c_230 ..) (Eg Y Y (Ea Y (Ek (is:=[1,16]) Y (s_gB Y ?_ ?_))))))))
 intro h3
 refine Ee Y (Ec Y (Ej Y Y Y (Ec Y (Ev Y Y (c_230 ..) (Eg Y Y (Ea Y (Em [2] Y (Eh (Ef Y Y ?_)))))))))
 rotate_left
 intro h3
 refine Eb Y (Eb Y (Eb Y (Ed Y Y (Ea Y (Em [2] Y (Eh (Ef Y Y ?_)))))))
 rotate_left
 intro h2
 refine Eb Y (Eb Y (Eb Y (Ed Y Y (Ea Y (Ek (is:=[1,16]) Y (Eb Y (Eb Y (Eb Y (Ed Y Y (Ea Y (Em [2] Y (Eh (Ef Y Y ?_)))))))))))))
 rotate_left
 intro h1
 refine Eb Y (Eb Y (Eb Y (Ed Y Y (Ea Y (Eb Y (Eb Y (Eb Y (Ed Y Y (Ea Y (Ek (is:=[1,16]) Y (Eb Y (Eb Y (Eb Y (Ed Y Y (Ea Y (Em [2] Y (Eh (Ef Y Y ?_))))))))))))))))))
 rotate_left
 all_goals
  simp_all <;> omega
theorem prios_step {xs:List MConf} {i:Nat} {y:MConf} (h:xs[i]?=some y):priosOf (xs.take (i+1))=priosOf (xs.take i)+if y.prio then 1 else 0:=by
 rw[take_get h,priosOf,List.countP_append];simp [priosOf,List.countP_cons]
theorem prios_i (xs:List MConf) (i:Nat):priosOf (xs.take i)≤i:=by
 have:=priosOf_le (xs.take i);rw[List.length_take] at this;omega
theorem prios_end {xs:List MConf} {i:Nat} (h:¬ (i:Int)<xs.length):priosOf (xs.take i)=priosOf xs:=by rw[take_end (by omega)]
theorem c_101 (x:Conf) (hl:x.masters.length≤1048576):CV prg 101 [.agg x.r] (fun res=>res=.w (.int .i64 (priosOf x.masters:Int))):=by
 refine cv_in g101 (Ei [0] Y (Et (u_box Y Y Y (Ea Y (z_q [1] Y (Ea Y (Em [1,3] Y (Ey (Et (Ee Y (Ej Y Y Y (Fw Y (Ea Y (Em [3,7,8,9] Y (Fh (S_loop0 (ι:=Nat) (fun i=>i≤x.masters.length) (fun i=>[(9,.w (.int .i64 (i:Int))),(3,.w (.int .i64 (priosOf (x.masters.take i):Int)))]) (fun i=>x.masters.length-i) 0 (by simp) Y ⟨Y,Y,trivial⟩ (fun _ _=>Y) Y ?_))))))))))))))))
 intro i hi
 have hp:=prios_i x.masters i
 refine Ei [3,7,8,9] Y (Et (u_lss Y Y (Em [3,7,8,9,10] Y (Ey (Ew Y ?_ ?_)))))
 intro h1
 refine z_s [3,7,8,9] Y (Ey (Fh (Et (s_iaM Y Y (by simp at *;omega) ?_))))
 intro y2 e2
 simp only[Int.toNat_natCast,Int.toNat_zero] at e2
 refine u_ldn Y Y (Fu Y Y (Eo (Er Y Y Y Y Y Y Y) (z_q [3,5,7,8,9] Y (Ee Y (Ej Y Y Y (Em [3,7,8,9,14] Y (s_condB Y ?_ ?_)))))))
 intro h3
 refine Fs (Ea Y (Fa (Fn Y Y (by omega)) (Ea Y (Ez (Fb (Eu (Ei [3,7,8,9] Y (Fs (Fa (Fn Y Y (by omega)) (Ea Y (Ez (Fp ?_))))))))))))
 ·refine⟨i+1,by omega,by omega,hasOf ⟨rfl,?_,trivial⟩ rfl⟩
  rw[prios_step (by assumption)];simp_all;rfl
 intro h3
 refine Fr (Fb (Eu (Ei [3,7,8,9] Y (Fs (Fa (Fn Y Y (by omega)) (Ea Y (Ez (Fp ?_))))))))
 ·refine⟨i+1,by omega,by omega,hasOf ⟨rfl,?_,trivial⟩ rfl⟩
  rw[prios_step (by assumption)];simp_all;rfl
 intro h1
 refine s_exit (q_seqX (q_loopX (q_blkH (Eu (Ei [3] Y (Et (Ea Y (Ea Y (Em [2] Y (Eh (Fe Y Y ?_)))))))))))
 rotate_left
 all_goals
  rw[prios_end (by assumption)]
theorem least_a {x:Conf} (hl:x.masters.length≤1048576):IntKind.wrap .i64 (IntKind.wrap .i64 (2 * x.slot) * (priosOf x.masters:Int))=x.least:=by
 have h1:=x.slot_bd
 have h2:=priosOf_le x.masters
 rw[wrap_in (2 * x.slot) (by omega)]
 have h3:0≤2 * x.slot * (priosOf x.masters:Int):=Int.mul_nonneg (by omega) (by omega)
 have h4:2 * x.slot * (priosOf x.masters:Int)≤260 * 1048576:=Int.mul_le_mul (by omega) (by omega) (by omega) (by omega)
 rw[wrap_in _ (by omega)];rfl
theorem least_b {x:Conf} (hl:x.masters.length≤1048576):IntKind.wrap .i64 (IntKind.wrap .i64 (2 * (priosOf x.masters:Int)) * x.slot)=x.least:=by
 rw[←least_a hl]
 have h1:=x.slot_bd
 have h2:=priosOf_le x.masters
 rw[wrap_in (2 * x.slot) (by omega),wrap_in (2 * (priosOf x.masters:Int)) (by omega),Int.mul_right_comm]
theorem c_50 (x:Conf) (hl:x.masters.length≤1048576):CV prg 50 [.agg x.r] (fun res=>res=.w (.int .i64 x.least)):=by
 refine cv_in g50 (Ei [0] Y (Et (u_box Y Y Y (Ea Y (z_q [1] Y (En Y Y Y (Ev Y Y (c_74 ..) (u_mul Y Y (En Y Y Y (Ev Y Y (c_101 _ (by assumption)) (u_mul Y Y (Ea Y (Em [2] Y (Eh (Fe Y Y ?_)))))))))))))))
 rotate_left
 all_goals
  exact least_a hl
theorem c_35 (m:MConf) (x:Conf) (hl:x.masters.length≤1048576):CV prg 35 [.agg m.r,.rp x.r 0] (fun res=>res=.w (.bool (!MConf.ok x.least m))):=by
 refine cv_in g35 (Ei [0,1] Y (Et (u_box Y Y Y (Ea Y (Em [1,2] Y (Ey (Fh (Et (Ee Y (Ej Y Y Y (Ev Y Y (c_103 ..) (Fk Y (Ea Y (Em [1,2,4] Y (s_condNB Y ?_ ?_)))))))))))))))
 intro h1
 refine Et (Ea Y (Em [3] Y (Eh (Fc (Ep (Ef Y Y ?_))))))
 rotate_left
 intro h1
 refine Et (Ee Y (Ej Y Y Y (Ea Y (Em [1,2,9] Y (s_condB Y ?_ ?_)))))
 intro h2
 refine Et (Ee Y (Ej Y Y Y (u_ldn Y Y (Ev Y Y (c_50 _ (by assumption)) (Ev Y Y (c_103 ..) (Fk Y (Ea Y (s_gNF Y ?_ ?_))))))))
 intro h3
 refine Ee Y (Ec Y (Ej Y Y Y (Ec Y (Ev Y Y (c_103 ..) (Ec Y (Fk Y (Ed Y Y (Ea Y (Em [3] Y (Eh (Fc (Ep (Ef Y Y ?_)))))))))))))
 rotate_left
 intro h3
 refine Eb Y (Eb Y (Eb Y (Eb Y (Eg Y Y (Ea Y (Em [3] Y (Eh (Fc (Ep (Ef Y Y ?_))))))))))
 rotate_left
 intro h2
 refine Fr (Fb (Eu (Ei [2] Y (Et (Ee Y (Ej Y Y Y (u_neq Y Y (Ea Y (s_gDF Y ?_ ?_)))))))))
 intro h4
 rw[nnp] at h4
 refine Ee Y (Ec Y (Ej Y Y Y (Ec Y (u_neq Y Y (Ed Y Y (Ea Y (Em [3] Y (Eh (Ef Y Y ?_)))))))))
 rotate_left
 intro h4
 refine Eb Y (Eb Y (Eb Y (Eg Y Y (Ea Y (Em [3] Y (Eh (Ef Y Y ?_)))))))
 rotate_left
 all_goals
  simp_all [MConf.ok]
theorem c_269 (xs:List MConf) (hl:xs.length≤140737488355328) (f:Nat) (caps:List V) (hc:caps.all (V.fzV 5)=true) (p:MConf→Bool) (h:∀ y,y∈xs→CV prg f (.agg (MConf.r y)::caps) (fun v=>v=.w (.bool (p y)))):CV prg 269 [.sl 4 (xs.map MConf.r),.fn f caps] (fun res=>res=.w (.int .i64 (idxOf p xs))):=by
 refine cv_in g269 (Ei [0,1] Y (Et (Ea Y (Em [0,1] Y (Ey (Et (Ea Y (Fw Y (Ea Y (Em [0,1,7,8] Y (Fh (S_loop0 (ι:=Nat) (fun i=>i≤xs.length∧(xs.take i).any p=false) (fun i=>[(8,.w (.int .i64 (i:Int)))]) (fun i=>xs.length-i) 0 (by simp) Y ⟨Y,trivial⟩ (fun _ _=>Y) Y ?_))))))))))))
 intro i hi
 refine Ei [0,1,7,8] Y (Et (u_lss Y Y (Em [0,1,7,8,9] Y (Ey (Ew Y ?_ ?_)))))
 intro h1
 refine z_s [0,1,7,8] Y (Ey (Fh (Et (Ea Y (Ea Y (Em [0,1,5,7,8] Y ?_))))))
 refine Et (Ea Y (Ea Y (Ea Y (s_iaM Y Y (by simp at *;omega) ?_))))
 intro y2 e2
 simp only[Int.toNat_natCast,Int.toNat_zero] at e2
 refine u_ldn Y Y (s_calli Y Y (fz1 Y hc) (h _ (List.mem_of_getElem? (by assumption))) (Em [0,1,5,7,8,16] Y (s_condB Y ?_ ?_)))
 intro h3
 refine Et (Ea Y (Ea Y (Em [4] Y (Eh (Fc (Ep (q_loopR (Fc (Ep (Fe Y Y ?_))))))))))
 rotate_left
 intro h3
 refine Fr (Fb (Eu (Ei [0,1,7,8] Y (Fs (Fa (Fn Y Y (by omega)) (Ea Y (Ez (Fp ?_))))))))
 ·exact⟨i+1,⟨by omega,any_take (by assumption) hi.2 (by assumption)⟩,by omega,hasOf ⟨rfl,trivial⟩ rfl⟩
 intro h1
 refine s_exit (q_seqX (q_loopX (q_blkH (Eu (Ei [] Y (Et (Ea Y (Em [4] Y (Eh (Fe Y Y ?_))))))))))
 rotate_left
 all_goals
  first|exact(idxOf_at (by assumption) hi.2 (by assumption)).symm|exact(idxOf_no (any_end hi.2 (by omega))).symm
theorem c_258 (xs:List MConf) (hl:xs.length≤140737488355328) (f:Nat) (caps:List V) (hc:caps.all (V.fzV 5)=true) (p:MConf→Bool) (h:∀ y,y∈xs→CV prg f (.agg (MConf.r y)::caps) (fun v=>v=.w (.bool (p y)))):CV prg 258 [.sl 4 (xs.map MConf.r),.fn f caps] (fun res=>res=.w (.bool (xs.any p))):=by
 refine cv_in g258 (Ei [0,1] Y (Et (Ea Y (z_q [0,1] Y (Ea Y (Ea Y (Ev Y (fz2 Y hc) (c_269 _ (by assumption) _ _ hc _ h) (u_geq Y Y (Ea Y (Em [4] Y (Eh (Ef Y Y ?_))))))))))))
 rotate_left
 all_goals
  exact idxOf_any p xs
theorem ok_not (l:Int) (xs:List MConf):(!xs.any (fun m=>!MConf.ok l m))=xs.all (MConf.ok l):=by
 induction xs with
 | nil=>rfl
 | cons m xs ih=>simp only[List.any_cons,List.all_cons,Bool.not_or,Bool.not_not,ih]
theorem c_34 (x:Conf) (hl:x.masters.length≤1048576):CV prg 34 [.agg x.r] (fun res=>res=.w (.bool x.ok)):=by
 refine cv_in g34 (Ei [0] Y (Et (u_box Y Y Y (Ea Y (Em [1] Y (Ey (Et (Ee Y (Ej Y Y Y (Fw Y (Ev Y Y (c_103 ..) (Fk Y (Ea Y (s_gNF Y ?_ ?_))))))))))))))
 intro h1
 refine Ee Y (Ec Y (Ej Y Y Y (Ec Y (Ev Y Y (c_103 ..) (Ec Y (Fk Y (Ed Y Y (Ea Y (s_gNF Y ?_ ?_)))))))))
 intro h2
 refine Ee Y (Ec Y (Ej Y Y Y (Ek (is:=[1,14,16]) Y (Ec Y (Ev Y Y (c_103 ..) (Ec Y (Fk Y (Ed Y Y (Ea Y (s_gNF Y ?_ ?_))))))))))
 intro h3
 refine En Y Y Y (Ec Y (Ev Y Y (c_74 ..) (Ec Y (Fm Y Y (Ed Y Y (Em [1,24] Y (Ew Y ?_ ?_)))))))
 intro h4
 refine Et (Ea Y (Em [2] Y (Eh (Ep (Ef Y Y ?_)))))
 rotate_left
 intro h4
 refine z_s [1] Y (Et (Ee Y (Ej Y Y Y (Fa (o_fn Y) (s_callL Y Y (by simp) (c_258 _ (by omega) _ _ Y (fun m=>!MConf.ok x.least m) (fun y _=>c_35 y x hl)) Y (Fk Y (Ea Y (Em [2] Y (Eh (Ef Y Y ?_))))))))))
 rotate_left
 intro h3
 refine Eb Y (Eb Y (Eb Y (Eg Y Y (Em [1,24] Y (Fd Y (Et (Ea Y (Em [2] Y (Eh (Ep (Ef Y Y ?_)))))))))))
 rotate_left
 intro h2
 refine Eb Y (Eb Y (Ek (is:=[1,14,16]) Y (Eb Y (Eb Y (Eg Y Y (Ea Y (Eb Y (Eb Y (Eb Y (Eg Y Y (Em [1,24] Y (Fd Y (Et (Ea Y (Em [2] Y (Eh (Ep (Ef Y Y ?_))))))))))))))))))
 rotate_left
 intro h1
 refine Eb Y (Eb Y (Eb Y (Eb Y (Eg Y Y (Ea Y (Eb Y (Eb Y (Ek (is:=[1,14,16]) Y (Eb Y (Eb Y (Eg Y Y (Ea Y (Eb Y (Eb Y (Eb Y (Eg Y Y (Em [1,24] Y (Fd Y (Et (Ea Y (Em [2] Y (Eh (Ep (Ef Y Y ?_))))))))))))))))))))))))
 rotate_left
 all_goals
  first|(rw[ok_not];simp_all [Conf.ok];done)|(simp_all [Conf.ok];done)
theorem c_184 (x:Conf) (hl:x.masters.length≤1048576):CV prg 184 [.agg x.r] (fun res=>res=.w (.bool x.ok)):=by
 have hL:=least_b hl
 refine cv_in g184 (Ei [0] Y (Et (u_box Y Y Y (Ea Y (z_q [1] Y (Ea Y (Em [1,3] Y (Ey (Et (Ea Y (Em [1,3,4] Y (Fh (S_loop0 (ι:=Nat) (fun i=>i≤x.masters.length) (fun i=>[(4,.w (.int .i64 (i:Int))),(3,.w (.int .i64 (priosOf (x.masters.take i):Int)))]) (fun i=>x.masters.length-i) 0 (by simp) Y ⟨Y,Y,trivial⟩ (fun _ _=>Y) Y ?_)))))))))))))
 intro i hi
 have hp:=prios_i x.masters i
 refine Ei [1,3,4] Y (Ey (Et (Ea Y (Ee Y (Ej Y Y Y (Fw Y (u_lss Y Y (Em [1,3,4,11] Y (Ew Y ?_ ?_)))))))))
 intro h1
 refine z_s [1,3,4] Y (Ey (Fh (Et (Ee Y (Ej Y Y Y (Ea Y (s_iaM Y Y (by simp at *;omega) ?_)))))))
 intro y2 e2
 simp only[Int.toNat_natCast,Int.toNat_zero] at e2
 refine u_fa Y (u_ld Y Y (Em [1,3,4,19] Y (s_condB Y ?_ ?_)))
 intro h3
 refine Fs (Ea Y (Fa (Fn Y Y (by omega)) (Ea Y (Ez (Fb (Eu (Ei [1,3,4] Y (Fs (Ea Y (Fa (Fn Y Y (by omega)) (Ea Y (Ez (Fp ?_)))))))))))))
 ·refine⟨i+1,by omega,by omega,hasOf ⟨rfl,?_,trivial⟩ rfl⟩
  rw[prios_step (by assumption)];simp_all;rfl
 intro h3
 refine Fr (Fb (Eu (Ei [1,3,4] Y (Fs (Ea Y (Fa (Fn Y Y (by omega)) (Ea Y (Ez (Fp ?_)))))))))
 ·refine⟨i+1,by omega,by omega,hasOf ⟨rfl,?_,trivial⟩ rfl⟩
  rw[prios_step (by assumption)];simp_all;rfl
 intro h1
 refine s_exit (q_seqX (q_loopX (q_blkH (Eu (Ei [1,3] Y (Ey (Et (Ea Y (Em [1,3,5] Y (Fh (s_eqv 3 Y (congrArg (fun n:Nat=>V.w (.int .i64 (n:Int))) (by rw[take_end (by omega)])) (S_loop0 (ι:=Nat) (fun i=>i≤x.masters.length∧(x.masters.take i).all (MConf.ok x.least)=true) (fun i=>[(5,.w (.int .i64 (i:Int)))]) (fun i=>x.masters.length-i) 0 (by simp) Y ⟨Y,trivial⟩ (fun _ _=>Y) Y ?_))))))))))))
 intro i hi
 refine Ei [1,3,5] Y (Ey (Et (Ea Y (Ee Y (Ej Y Y Y (Fw Y (u_lss Y Y (Em [1,3,5,26] Y (Ew Y ?_ ?_)))))))))
 intro h4
 refine z_s [1,3,5] Y (Ey (Fh (Et (Ee Y (Ej Y Y Y (Ea Y (s_iaM Y Y (by simp at *;omega) ?_)))))))
 intro y5 e5
 simp only[Int.toNat_natCast,Int.toNat_zero] at e5
 refine u_ldn Y Y (Fu Y Y (Eo (Er Y Y Y Y Y Y Y) (z_q [1,3,5,6] Y (Ee Y (Ej Y Y Y (Ev Y Y (c_230 ..) (Fk Y (Ea Y (s_gNF Y ?_ ?_)))))))))
 intro h6
 refine Ee Y (Ec Y (Ej Y Y Y (Ec Y (Fk Y (Ec Y (Ea Y (s_gNT Y ?_ ?_)))))))
 intro h7
 refine Ee Y (Ec Y (Ej Y Y Y (Ec Y (u_neq Y Y (Ec Y (Ea Y (s_gDF Y ?_ ?_)))))))
 intro h8
 rw[nnp] at h8
 refine Ee Y (Ek (is:=[1,3,5,6,38,39,40,41,42,43,44,45,46,47]) Y (Ec Y (Ej Y Y Y (Ec Y (u_neq Y Y (Ec Y (Ed Y Y (Ec Y (Eg Y Y (Ed Y Y (Ea Y (s_gDF Y ?_ ?_))))))))))))
 intro h9
 rw[nnp] at h9
 refine Ee Y (Ec Y (Ej Y Y Y (Ec Y (Ea Y (s_gB Y ?_ ?_)))))
 intro h10
 refine Ee Y (Ec Y (Ej Y Y Y (Ec Y (Ea Y (Ec Y (u_mul Y Y (Ec Y (En Y Y Y (Ek (is:=[1,3,5,6,39,40,41,42,43,44,45,46,47,48,49,50,51,53,54,55,56,57,58,59,60,61]) Y (Ec Y (Ev Y Y (c_214 ..) (Ec Y (u_mul Y Y (Ec Y (Ev Y Y (c_230 ..) (Ec Y (Fk Y (Ec Y (Ea Y (s_gNF Y ?_ ?_))))))))))))))))))))
 intro h11
 rw[hL] at h11
 refine Ee Y (Ec Y (Ej Y Y Y (Ec Y (Ev Y Y (c_230 ..) (Ec Y (Fk Y (Ec Y (Ed Y Y (Ec Y (Eg Y Y (Ed Y Y (Em [1,3,5,39,40,41,42,43,44,45,46,47,48,49,50,51,54,55,56,57,58,59,60,61,62,63,64,65,66,67,68,69,70,71,72,73] Y (s_condNB Y ?_ ?_)))))))))))))
 intro h12
 refine Et (Ea Y (Em [2] Y (Eh (Fc (Ep (q_loopR (Fc (Ep (Ef Y Y ?_)))))))))
 rotate_left
 intro h12
 refine Fr (Fb (Eu (Ei [1,3,5,39,40,41,42,43,44,45,46,47,48,49,50,51,54,55,56,57,58,59,60,61,62,63,64,65,66,67,68,69,70,71,72] Y (Fs (Ea Y (Fa (Fn Y Y (by omega)) (Ea Y (Ez (Fp ?_)))))))))
 ·refine⟨i+1,⟨by omega,all_take (by assumption) hi.2 ?_⟩,by omega,hasOf ⟨rfl,trivial⟩ rfl⟩
  clear hi
  simp_all [MConf.ok]
 intro h11
 rw[hL] at h11
 refine Eb Y (Eb Y (Eb Y (Eb Y (Ec Y (Eg Y Y (Ec Y (Eg Y Y (Ed Y Y (Em [1,3,5,39,40,41,42,43,44,45,46,47,48,49,50,51,54,55,56,57,58,59,60,61,62,63,64,65,66,67,68,69,70,71,72,73] Y (Fd Y (Et (Ea Y (Em [2] Y (Eh (Fc (Ep (q_loopR (Fc (Ep (Ef Y Y ?_))))))))))))))))))))
 rotate_left
 intro h10
 refine Eb Y (Eb Y (Eb Y (Eb Y (Eb Y (Ek (is:=[1,3,5,6,39,40,41,42,43,44,45,46,47,48,49,50,51,53,54,55,56,57,58,59,60,61]) Y (Eb Y (Eb Y (Eb Y (Eb Y (Eb Y (Ff Y (Ff Y (Ff Y (Ff Y (Eb Y (Ec Y (Ed Y Y (Ed Y Y (Em [1,3,5,39,40,41,42,43,44,45,46,47,48,49,50,51,54,55,56,57,58,59,60,61,62,63,64,65,66,67,68,69,70,71,72,73] Y (Fi Y (Fr ?_)))))))))))))))))))))
 refine Fb (Eu (Ei [1,3,5,39,40,41,42,43,44,45,46,47,48,49,50,51,54,55,56,57,58,59,60,61,62,63,64,65,66,67,68,69,70,71,72] Y (Fs (Ea Y (Fa (Fn Y Y (by omega)) (Ea Y (Ez (Fp ?_))))))))
 ·refine⟨i+1,⟨by omega,all_take (by assumption) hi.2 ?_⟩,by omega,hasOf ⟨rfl,trivial⟩ rfl⟩
  clear hi
  simp_all [MConf.ok]
 intro h9
 refine Eb Y (Eb Y (Eb Y (Ff Y (Ff Y (Ff Y (Ff Y (Ff Y (Ek (is:=[1,3,5,6,39,40,41,42,43,44,45,46,47,48,49,50,51,53,54,55,56,57,58,59,60,61]) Y ?_))))))))
 iterate 10 refine Ff rfl ?_
 refine Eb Y (Eg Y Y (Em [1,3,5,39,40,41,42,43,44,45,46,47,48,49,50,51,54,55,56,57,58,59,60,61,62,63,64,65,66,67,68,69,70,71,72,73] Y (Fd Y (Et (Ea Y (Em [2] Y (Eh (Fc (Ep (q_loopR (Fc (Ep (Ef Y Y ?_)))))))))))))
 rotate_left
 intro h8
 refine Eb Y (Ek (is:=[1,3,5,6,38,39,40,41,42,43,44,45,46,47]) Y (Eb Y (Eb Y (Ec Y (Eg Y Y (Ec Y (Eg Y Y (Ed Y Y (Ea Y (Eb Y (Eb Y (Eb Y (Ff Y (Ff Y (Ff Y (Ff Y (Ff Y (Ek (is:=[1,3,5,6,39,40,41,42,43,44,45,46,47,48,49,50,51,53,54,55,56,57,58,59,60,61]) Y ?_))))))))))))))))))
 iterate 10 refine Ff rfl ?_
 refine Eb Y (Eg Y Y (Em [1,3,5,39,40,41,42,43,44,45,46,47,48,49,50,51,54,55,56,57,58,59,60,61,62,63,64,65,66,67,68,69,70,71,72,73] Y (Fd Y (Et (Ea Y (Em [2] Y (Eh (Fc (Ep (q_loopR (Fc (Ep (Ef Y Y ?_)))))))))))))
 rotate_left
 intro h7
 refine Eb Y (Eb Y (Eb Y (Eb Y (Ff Y (Ek (is:=[1,3,5,6,38,39,40,41,42,43,44,45,46,47]) Y (Ff Y (Ff Y (Eb Y (Ec Y (Ed Y Y (Ed Y Y (Ea Y (Ec Y (Ee Y (Ec Y (Ej Y Y Y (Ec Y (Ea Y (s_gB Y ?_ ?_)))))))))))))))))))
 intro h13
 refine Ee Y (Ec Y (Ej Y Y Y (Ec Y (Ea Y (Ec Y (u_mul Y Y (Ec Y (En Y Y Y (Ek (is:=[1,3,5,6,39,40,41,42,43,44,45,46,47,48,49,50,51,53,54,55,56,57,58,59,60,61]) Y (Ec Y (Ev Y Y (c_214 ..) (Ec Y (u_mul Y Y (Ec Y (Ev Y Y (c_230 ..) (Ec Y (Fk Y (Ec Y (Ea Y (s_gNF Y ?_ ?_))))))))))))))))))))
 intro h14
 rw[hL] at h14
 refine Ee Y (Ec Y (Ej Y Y Y (Ec Y (Ev Y Y (c_230 ..) (Ec Y (Fk Y (Ec Y (Ed Y Y (Ec Y (Eg Y Y (Ed Y Y (Em [1,3,5,39,40,41,42,43,44,45,46,47,48,49,50,51,54,55,56,57,58,59,60,61,62,63,64,65,66,67,68,69,70,71,72,73] Y (s_condNB Y ?_ ?_)))))))))))))
 intro h15
 refine Et (Ea Y (Em [2] Y (Eh (Fc (Ep (q_loopR (Fc (Ep (Ef Y Y ?_)))))))))
 rotate_left
 intro h15
 refine Fr (Fb (Eu (Ei [1,3,5,39,40,41,42,43,44,45,46,47,48,49,50,51,54,55,56,57,58,59,60,61,62,63,64,65,66,67,68,69,70,71,72] Y (Fs (Ea Y (Fa (Fn Y Y (by omega)) (Ea Y (Ez (Fp ?_)))))))))
 ·refine⟨i+1,⟨by omega,all_take (by assumption) hi.2 ?_⟩,by omega,hasOf ⟨rfl,trivial⟩ rfl⟩
  clear hi
  simp_all [MConf.ok]
 intro h14
 rw[hL] at h14
 refine Eb Y (Eb Y (Eb Y (Eb Y (Ec Y (Eg Y Y (Ec Y (Eg Y Y (Ed Y Y (Em [1,3,5,39,40,41,42,43,44,45,46,47,48,49,50,51,54,55,56,57,58,59,60,61,62,63,64,65,66,67,68,69,70,71,72,73] Y (Fd Y (Et (Ea Y (Em [2] Y (Eh (Fc (Ep (q_loopR (Fc (Ep (Ef Y Y ?_))))))))))))))))))))
 rotate_left
 intro h13
 refine Eb Y (Eb Y (Eb Y (Eb Y (Eb Y (Ek (is:=[1,3,5,6,39,40,41,42,43,44,45,46,47,48,49,50,51,53,54,55,56,57,58,59,60,61]) Y (Eb Y (Eb Y (Eb Y (Eb Y (Eb Y (Ff Y (Ff Y (Ff Y (Ff Y (Eb Y (Ec Y (Ed Y Y (Ed Y Y (Em [1,3,5,39,40,41,42,43,44,45,46,47,48,49,50,51,54,55,56,57,58,59,60,61,62,63,64,65,66,67,68,69,70,71,72,73] Y (Fi Y (Fr ?_)))))))))))))))))))))
 refine Fb (Eu (Ei [1,3,5,39,40,41,42,43,44,45,46,47,48,49,50,51,54,55,56,57,58,59,60,61,62,63,64,65,66,67,68,69,70,71,72] Y (Fs (Ea Y (Fa (Fn Y Y (by omega)) (Ea Y (Ez (Fp ?_))))))))
 ·refine⟨i+1,⟨by omega,all_take (by assumption) hi.2 ?_⟩,by omega,hasOf ⟨rfl,trivial⟩ rfl⟩
  clear hi
  simp_all [MConf.ok]
 intro h6
 refine Eb Y (Eb Y (Eb Y (Eb Y (Ff Y (Ff Y (Ff Y (Ff Y (Ff Y (Ek (is:=[1,3,5,6,38,39,40,41,42,43,44,45,46,47]) Y (Ff Y (Ff Y (Ff Y (Eb Y (Eg Y Y (Ea Y (Eb Y (Eb Y (Eb Y (Ff Y (Ff Y (Ff Y (Ff Y (Ff Y (Ek (is:=[1,3,5,6,39,40,41,42,43,44,45,46,47,48,49,50,51,53,54,55,56,57,58,59,60,61]) Y ?_))))))))))))))))))))))))
 iterate 10 refine Ff rfl ?_
 refine Eb Y (Eg Y Y (Em [1,3,5,39,40,41,42,43,44,45,46,47,48,49,50,51,54,55,56,57,58,59,60,61,62,63,64,65,66,67,68,69,70,71,72,73] Y (Fd Y (Et (Ea Y (Em [2] Y (Eh (Fc (Ep (q_loopR (Fc (Ep (Ef Y Y ?_)))))))))))))
 rotate_left
 intro h4
 refine s_exit (q_seqX (q_loopX (q_blkH (Eu (Ei [1] Y (Et (Ee Y (Ej Y Y Y (Fw Y (Ev Y Y (c_230 ..) (Ea Y (s_gB Y ?_ ?_))))))))))))
 intro h16
 refine En Y Y Y (Ec Y (Ev Y Y (c_245 ..) (Eg Y Y (Ea Y (Em [2] Y (Eh (Ef Y Y ?_)))))))
 rotate_left
 intro h16
 refine Eb Y (Eb Y (Ed Y Y (Ea Y (Em [2] Y (Eh (Ef Y Y ?_))))))
 rotate_left
 all_goals
  first|(refine ok_no (by assumption) ?_;clear hi;simp_all [MConf.ok];done)|(rw[ok_is (all_end hi.2 (by omega))];clear hi;simp_all;done)
def Conf.small (x:Conf):Prop:=x.masters.length≤1048576
def Conf.sz (x:Conf):Nat:=x.masters.length
theorem Conf.small_of {x:Conf} (h:x.sz≤1048576):x.small:=by unfold Conf.small;unfold Conf.sz at h;omega
theorem c_91 (x:Conf) (who:Int) (hl:x.masters.length≤1048576):CV prg 91 [.agg x.r,.w (.int .i64 who)] (fun res=>res=.w (.bool (inB who 0 (x.masters.length-1)))):=by
 refine cv_in g91 (Ei [0,1] Y (Et (u_box Y Y Y (Ea Y (z_q [1,2] Y (Ea Y (Ee Y (Ej Y Y Y (Fw Y (Fa (o_subn Y Y (by omega)) (Ev Y Y (c_103 ..) (Ea Y (Em [4] Y (Eh (Ef Y Y ?_)))))))))))))))
 rotate_left
 all_goals
  rfl
theorem c_77 (x:Conf) (who:Int) (hl:x.masters.length≤1048576):CV prg 77 [.agg x.r,.w (.int .i64 who)] (fun res=>res=.w (.int .i64 (x.turn who))):=by
 refine cv_in g77 (Ei [0,1] Y (Et (u_box Y Y Y (Ea Y (Em [1,2] Y (Ey (Et (En Y Y Y (Ev Y Y (c_34 _ (by assumption)) (Fk Y (Ea Y (s_gNF Y ?_ ?_))))))))))))
 intro h1
 refine En Y Y Y (Ec Y (Ea Y (Ec Y (Ev Y Y (c_91 _ _ (by assumption)) (Ec Y (Fk Y (Ed Y Y (Em [1,2,13] Y (s_condNB Y ?_ ?_)))))))))
 intro h2
 refine Et (Ea Y (Em [4] Y (Eh (Ep (Fe Y Y ?_)))))
 rotate_left
 intro h2
 have h2':=inB_t h2
 refine z_s [1,2] Y (Et (Ee Y (Ej Y Y Y (Ea Y (s_iaM Y Y (by omega) ?_)))))
 intro y3 e3
 refine u_fa Y (u_ld Y Y (Ee Y (Ej Y Y Y (u_mul Y Y (Ea Y (Em [4] Y (Eh (Fe Y Y ?_))))))))
 rotate_left
 intro h1
 refine Eb Y (Eb Y (Eb Y (Eb Y (Eg Y Y (Em [1,2,13] Y (Fd Y (Et (Ea Y (Em [4] Y (Eh (Ep (Fe Y Y ?_))))))))))))
 rotate_left
 all_goals
  simp_all [Conf.turn]
theorem c_82 (w:Wrr) (x:Conf) (hl:x.masters.length≤1048576):CV prg 82 [.agg w.r,.agg x.r] (fun res=>res=.w (.bool (w.ok x))):=by
 refine cv_in g82 (Ei [0,1] Y (Et (u_box Y Y Y (u_box Y Y Y (Ea Y (z_q [2,3] Y (En Y Y Y (Ev Y Y (c_34 _ (by assumption)) (Ea Y (s_gB Y ?_ ?_))))))))))
 intro h1
 refine En Y Y Y (Ec Y (Ee Y (Ec Y (Ej Y Y Y (Ec Y (Ev Y Y (c_91 _ _ (by assumption)) (Eg Y Y (Ea Y (s_gB Y ?_ ?_)))))))))
 intro h2
 refine Ee Y (Ec Y (Ej Y Y Y (Ec Y (En Y Y Y (Ec Y (Ee Y (Ec Y (Ej Y Y Y (Ek (is:=[13,15,16,18]) Y (Ec Y (Ev Y Y (c_77 _ _ (by assumption)) (Ec Y (Ev Y Y (c_103 ..) (Eg Y Y (Ea Y (Em [4] Y (Eh (Ef Y Y ?_))))))))))))))))))
 rotate_left
 intro h2
 refine Eb Y (Eb Y (Eb Y (Eb Y (Eb Y (Ek (is:=[13,15,16,18]) Y (Eb Y (Eb Y (Ed Y Y (Ea Y (Em [4] Y (Eh (Ef Y Y ?_))))))))))))
 rotate_left
 intro h1
 refine Eb Y (Eb Y (Eb Y (Eb Y (Ed Y Y (Ea Y (Eb Y (Eb Y (Eb Y (Eb Y (Eb Y (Ek (is:=[13,15,16,18]) Y (Eb Y (Eb Y (Ed Y Y (Ea Y (Em [4] Y (Eh (Ef Y Y ?_))))))))))))))))))
 rotate_left
 all_goals
  simp_all [Wrr.ok]
theorem c_102 (x:Conf) (hl:x.masters.length≤1048576):CV prg 102 [.agg x.r] (fun res=>res=.w (.int .i64 x.caps)):=by
 refine cv_in g102 (Ei [0] Y (Et (u_box Y Y Y (Ea Y (z_q [1] Y (Ea Y (Em [1,3] Y (Ey (Et (Ee Y (Ej Y Y Y (Fw Y (Ea Y (Em [1,3,7,8,9] Y (Fh (S_loop0 (ι:=Nat) (fun i=>i≤x.masters.length) (fun i=>[(9,.w (.int .i64 (i:Int))),(3,.w (.int .i64 ((x.masters.take i).foldl (caps1 x.slot) 0)))]) (fun i=>x.masters.length-i) 0 (by simp) Y ⟨Y,Y,trivial⟩ (fun _ _=>Y) Y ?_))))))))))))))))
 intro i hi
 refine Ei [1,3,7,8,9] Y (Et (u_lss Y Y (Em [1,3,7,8,9,10] Y (Ey (Ew Y ?_ ?_)))))
 intro h1
 refine z_s [1,3,7,8,9] Y (Ey (Fh (Et (s_iaM Y Y (by simp at *;omega) ?_))))
 intro y2 e2
 simp only[Int.toNat_natCast,Int.toNat_zero] at e2
 refine u_ldn Y Y (Fu Y Y (Eo (Er Y Y Y Y Y Y Y) (z_q [1,3,5,7,8,9] Y (Ee Y (Ej Y Y Y (Em [1,3,5,7,8,9,14] Y (s_condB Y ?_ ?_)))))))
 intro h3
 refine Fs (Ea Y (Ee Y (Ej Y Y Y (u_add Y Y (En Y Y Y (Ev Y Y (c_74 ..) (u_mul Y Y (u_add Y Y (Ea Y (Ez (Fb (Eu (Ei [1,3,7,8,9] Y (Fs (Fa (Fn Y Y (by omega)) (Ea Y (Ez (Fp ?_))))))))))))))))))
 ·refine⟨i+1,by omega,by omega,hasOf ⟨rfl,?_,trivial⟩ rfl⟩
  rw[foldl_take _ _ (by assumption)]
  unfold caps1
  simp_all;rfl
 intro h3
 refine Fr (Fb (Eu (Ei [1,3,7,8,9] Y (Fs (Fa (Fn Y Y (by omega)) (Ea Y (Ez (Fp ?_))))))))
 ·refine⟨i+1,by omega,by omega,hasOf ⟨rfl,?_,trivial⟩ rfl⟩
  rw[foldl_take _ _ (by assumption)]
  unfold caps1
  simp_all;rfl
 intro h1
 refine s_exit (q_seqX (q_loopX (q_blkH (Eu (Ei [3] Y (Et (Ea Y (Ea Y (Em [2] Y (Eh (Fe Y Y ?_)))))))))))
 rotate_left
 all_goals
  rw[take_end (by omega)];rfl
theorem c_227 (x:Conf) (hl:x.masters.length≤1048576):CV prg 227 [.agg x.r] (fun res=>res=.w (.int .i64 x.caps)):=by
 refine cv_in g227 (Ei [0] Y (Et (u_box Y Y Y (Ea Y (z_q [1] Y (Ea Y (Em [1,3] Y (Ey (Et (Ea Y (Em [1,3,4] Y (Fh (S_loop0 (ι:=Nat) (fun i=>i≤x.masters.length) (fun i=>[(4,.w (.int .i64 (i:Int))),(3,.w (.int .i64 ((x.masters.take i).foldl (caps1 x.slot) 0)))]) (fun i=>x.masters.length-i) 0 (by simp) Y ⟨Y,Y,trivial⟩ (fun _ _=>Y) Y ?_)))))))))))))
 intro i hi
 refine Ei [1,3,4] Y (Ey (Et (Ea Y (Ee Y (Ej Y Y Y (Fw Y (u_lss Y Y (Em [1,3,4,9] Y (Ew Y ?_ ?_)))))))))
 intro h1
 refine z_s [1,3,4] Y (Ey (Fh (Et (Ee Y (Ej Y Y Y (Ea Y (s_iaM Y Y (by simp at *;omega) ?_)))))))
 intro y2 e2
 simp only[Int.toNat_natCast,Int.toNat_zero] at e2
 refine u_fa Y (u_ld Y Y (Em [1,3,4,17] Y (s_condB Y ?_ ?_)))
 intro h3
 refine Fs (Ea Y (Ee Y (Ej Y Y Y (Ea Y (s_iaM Y Y (by simp at *;omega) ?_)))))
 intro y4 e4
 simp only[Int.toNat_natCast,Int.toNat_zero] at e4
 refine u_fa Y (u_ld Y Y (u_add Y Y (En Y Y Y (Ev Y Y (c_214 ..) (u_mul Y Y (u_add Y Y (Ea Y (Ez (Fb (Eu (Ei [1,3,4] Y (Fs (Ea Y (Fa (Fn Y Y (by omega)) (Ea Y (Ez (Fp ?_)))))))))))))))))
 ·refine⟨i+1,by omega,by omega,hasOf ⟨rfl,?_,trivial⟩ rfl⟩
  rw[foldl_take _ _ (by assumption)]
  unfold caps1
  simp_all;rfl
 intro h3
 refine Fr (Fb (Eu (Ei [1,3,4] Y (Fs (Ea Y (Fa (Fn Y Y (by omega)) (Ea Y (Ez (Fp ?_)))))))))
 ·refine⟨i+1,by omega,by omega,hasOf ⟨rfl,?_,trivial⟩ rfl⟩
  rw[foldl_take _ _ (by assumption)]
  unfold caps1
  simp_all;rfl
 intro h1
 refine s_exit (q_seqX (q_loopX (q_blkH (Eu (Ei [3] Y (Et (Ea Y (Ea Y (Em [2] Y (Eh (Fe Y Y ?_)))))))))))
 rotate_left
 all_goals
  rw[take_end (by omega)];rfl
theorem c_44 (x:Conf) (hl:x.masters.length≤1048576):CV prg 44 [.agg x.r] (fun res=>res=.w (.int .i64 x.first)):=by
 refine cv_in g44 (Ei [0] Y (Et (u_box Y Y Y (Ea Y (Em [1] Y (Ey (Et (En Y Y Y (Ev Y Y (c_34 _ (by assumption)) (Fk Y (Em [1,5] Y (s_condNB Y ?_ ?_))))))))))))
 intro h1
 refine Et (Ea Y (Em [2] Y (Eh (Ep (Fe Y Y ?_)))))
 rotate_left
 intro h1
 refine z_s [1] Y (Et (En Y Y Y (Ev Y Y (c_102 _ (by assumption)) (En Y Y Y (Ev Y Y (c_74 ..) (u_add Y Y (u_mul Y Y (u_add Y Y (Ea Y (Em [2] Y (Eh (Fe Y Y ?_))))))))))))
 rotate_left
 all_goals
  simp_all [Conf.first]
theorem c_197 (x:Conf) (hl:x.masters.length≤1048576):CV prg 197 [.agg x.r] (fun res=>res=.w (.int .i64 x.first)):=by
 refine cv_in g197 (Ei [0] Y (Et (u_box Y Y Y (Ea Y (Em [1] Y (Ey (Et (En Y Y Y (Ev Y Y (c_184 _ (by assumption)) (Fk Y (Em [1,5] Y (s_condNB Y ?_ ?_))))))))))))
 intro h1
 refine Et (Ea Y (Em [2] Y (Eh (Ep (Fe Y Y ?_)))))
 rotate_left
 intro h1
 refine z_s [1] Y (Et (En Y Y Y (Ev Y Y (c_227 _ (by assumption)) (En Y Y Y (Ev Y Y (c_214 ..) (u_add Y Y (u_mul Y Y (u_add Y Y (Ea Y (Em [2] Y (Eh (Fe Y Y ?_))))))))))))
 rotate_left
 all_goals
  simp_all [Conf.first]
def Done.beq (x y:Done):Bool:=((x.cycle == y.cycle) && ((x.who == y.who) && ((x.write == y.write) && ((x.addr == y.addr) && ((x.size == y.size) && ((x.value == y.value) && ((x.resp == y.resp) && true)))))))
theorem Done.of_beq {x y:Done} (h:Done.beq x y=true):x=y:=by
 cases x;cases y;simp_all [Done.beq]
theorem Done.no_beq {x y:Done} (h:Done.beq x y=false):x≠y:=by
 rintro rfl;simp [Done.beq] at h
theorem Done.beq_dec (x y:Done):Done.beq x y=decide (x=y):=by
 cases h:Done.beq x y
 ·exact(decide_eq_false (Done.no_beq h)).symm
 ·exact(decide_eq_true (Done.of_beq h)).symm
def folOk (p:Done×Done):Bool:=(p.1.write == p.2.write) && decide (p.1.addr=p.2.addr) && decide (p.1.size=p.2.size) && !(p.1.write && decide (p.1.resp=0) && decide (p.1.value≠p.2.value))
def follows (l w:List Done):Bool:=decide (l.length≤w.length) && (l.zip w).all folOk
def Req.small (x:Req):Prop:=x.data.length≤1048576
def Req.sz (x:Req):Nat:=x.data.length
theorem Req.small_of {x:Req} (h:x.sz≤1048576):x.small:=by unfold Req.small;unfold Req.sz at h;omega
def Mst.small (x:Mst):Prop:=x.queue.length≤1048576∧(∀ y,y∈x.queue→Req.small y)
def Mst.sz (x:Mst):Nat:=x.queue.length+sumL Req.sz x.queue
theorem Mst.small_of {x:Mst} (h:x.sz≤1048576):x.small:=⟨by unfold Mst.sz at h;omega,fun y hy=>Req.small_of (by have:=sumL_mem Req.sz hy;unfold Mst.sz at h;omega)⟩
def roundStep (c:Conf) (s:Int) (i:Nat):Int:=IntKind.wrap .i64 (s+IntKind.wrap .i64 (c.turn i * c.slot))
def Conf.round (c:Conf):Int:=if c.ok then(List.range c.masters.length).foldl (roundStep c) (IntKind.wrap .i64 (c.cost * c.masters.length)) else 0
def Conf.bound (c:Conf) (beats:Int):Int:=if c.ok && inB beats 1 8 then
 IntKind.wrap .i64 (IntKind.wrap .i64 (IntKind.wrap .i64 (2 * IntKind.wrap .i64 (IntKind.wrap .i64 (beats * IntKind.wrap .i64 (IntKind.wrap .i64 (IntKind.wrap .i64 (2 * c.round)+c.maxSplit)+c.cost))+c.caps))+IntKind.wrap .i64 (2 * c.slot))+10) else 0
theorem minL2 (a b:Int):minL a [b]=min a b:=by simp only[minL];omega
theorem maxL2 (a b:Int):maxL a [b]=max a b:=by simp only[maxL];omega
def Wrr.back (w:Wrr) (c:Conf) (who:Int):Wrr:=if w.ok c && decide (who=w.pos) then { w with credit:=min (IntKind.wrap .i64 (w.credit+1)) (c.turn who) } else w
theorem c_81 (w:Wrr) (x:Conf) (who:Int) (hl:x.masters.length≤1048576):CV prg 81 [.agg w.r,.agg x.r,.w (.int .i64 who)] (fun res=>res=.agg (w.back x who).r):=by
 refine cv_in g81 (Ei [0,1,2] Y (Et (u_box Y Y Y (u_box Y Y Y (Fu Y Y (Em [2,3,4,6] Y (Ey (Et (En Y Y Y (En Y Y Y (Ev Y Y (c_82 _ _ (by assumption)) (Ea Y (s_gB Y ?_ ?_)))))))))))))
 intro h1
 refine Ea Y (Ec Y (Ee Y (Ec Y (Ej Y Y Y (Ec Y (Fm Y Y (Eg Y Y (Em [2,3,4,6,15] Y (Ew Y ?_ ?_)))))))))
 intro h2
 refine Fs (Ee Y (Ej Y Y Y (u_add Y Y (En Y Y Y (Ea Y (Ev Y Y (c_77 _ _ (by assumption)) (u_mn Y (Ee Y (Eo (o_stC Y Y Y Y Y Y) (z_q [3,6] Y (En Y Y Y (Eo (Er Y Y Y Y Y Y Y) (Em [6] Y (Eh (Fq Y Y ?_)))))))))))))))
 rotate_left
 intro h2
 refine z_s [3,6] Y (Et (En Y Y Y (Eo (Er Y Y Y Y Y Y Y) (Em [6] Y (Eh (Fq Y Y ?_))))))
 rotate_left
 intro h1
 refine Eb Y (Eb Y (Eb Y (Eb Y (Ed Y Y (Em [2,3,4,6,15] Y (Fi Y (z_s [3,6] Y (Et (En Y Y Y (Eo (Er Y Y Y Y Y Y Y) (Em [6] Y (Eh (Fq Y Y ?_)))))))))))))
 rotate_left
 all_goals
  simp_all [Wrr.back,Wrr.r,minL2];done
def Post.small (x:Post):Prop:=x.req.small
def Post.sz (x:Post):Nat:=x.req.sz
theorem Post.small_of {x:Post} (h:x.sz≤1048576):x.small:=Req.small_of (by unfold Post.sz at h;omega)
def Script.small (x:Script):Prop:=x.posts.length≤1048576∧(∀ y,y∈x.posts→Post.small y)∧x.waits.length≤1048576∧x.says.length≤1048576
def Script.sz (x:Script):Nat:=x.posts.length+sumL Post.sz x.posts+x.waits.length+x.says.length
theorem Script.small_of {x:Script} (h:x.sz≤1048576):x.small:=⟨by unfold Script.sz at h;omega,fun y hy=>Post.small_of (by have:=sumL_mem Post.sz hy;unfold Script.sz at h;omega),by unfold Script.sz at h;omega,by unfold Script.sz at h;omega⟩
def elem (l:List Int) (k:Int):Int:=if l.length=0∨k<0 then 0 else(l[(k.tmod l.length).toNat]?).getD 0
theorem elem_i64 {l:List Int} {k:Int} (h:∀ y,y∈l→i64 y):i64 (elem l k):=by
 unfold elem
 split
 ·unfold AL.i64;omega
 ·cases e:l[(k.tmod l.length).toNat]? with
  | none=>unfold AL.i64;simp
  | some y=>exact h y (List.mem_of_getElem? e)
def Conf.splitAt (c:Conf) (s:Script) (k:Int):Int:=max 1 (min (min (elem s.waits k) 99+1) c.maxSplit)
theorem c_85 (l:List Int) (k:Int):CV prg 85 [.sl 1 (l.map iR),.w (.int .i64 k)] (fun res=>res=.w (.int .i64 (elem l k))):=by
 refine cv_in g85 (Ei [0,1] Y (Et (Ea Y (Em [0,1] Y (Ey (Et (Ea Y (Fw Y (Fm Y Y (Ea Y (s_gDF Y ?_ ?_)))))))))))
 intro h1
 refine Ea Y (Ec Y (u_lss Y Y (Ed Y Y (Em [0,1,11] Y (Ew Y ?_ ?_)))))
 intro h2
 refine Et (Ea Y (Em [4] Y (Eh (Ep (Fe Y Y ?_)))))
 rotate_left
 intro h2
 refine z_s [0,1] Y (Et (Ea Y (Ea Y (Ea Y (Fw Y (u_rem Y Y (by omega) (s_iaM Y Y ⟨Int.tmod_nonneg _ (by omega),Int.tmod_lt_of_pos _ (by omega)⟩ ?_)))))))
 intro y3 e3
 refine u_ld Y Y (Ea Y (Em [4] Y (Eh (Fe Y Y ?_))))
 rotate_left
 intro h1
 refine Eb Y (Eb Y (Eg Y Y (Em [0,1,11] Y (Fd Y (Et (Ea Y (Em [4] Y (Eh (Ep (Fe Y Y ?_))))))))))
 rotate_left
 all_goals
  first|(unfold elem;rw[if_neg (by omega)];simp_all;done)|(unfold elem;rw[if_pos (by omega)])
theorem c_75 (x:Conf) (s:Script) (k:Int) (hw:∀ y,y∈s.waits→i64 y):CV prg 75 [.agg x.r,.agg s.r,.w (.int .i64 k)] (fun res=>res=.w (.int .i64 (x.splitAt s k))):=by
 have hi:i64 (elem s.waits k):=elem_i64 hw
 unfold AL.i64 at hi
 refine cv_in g75 (Ei [0,1,2] Y (Et (u_box Y Y Y (u_box Y Y Y (Ea Y (z_q [2,3,4] Y (Ee Y (Ej Y Y Y (Ea Y (Ev Y Y (c_85 _ _) (u_mn Y (Fa (o_mx Y) ?_))))))))))))
 refine Fa (Fn Y Y (by simp only[minL2,maxL2];omega)) ?_
 refine Ee Y (Ej Y Y Y (u_mn Y (Fa (o_mx Y) (Ea Y (Em [6] Y (Eh (Fe Y Y ?_)))))))
 rotate_left
 all_goals
  unfold Conf.splitAt;simp only[minL2,maxL2];omega
def Dev.small (x:Dev):Prop:=x.regs.length≤1048576∧x.fifo.length≤1048576
def Dev.sz (x:Dev):Nat:=x.regs.length+x.fifo.length
theorem Dev.small_of {x:Dev} (h:x.sz≤1048576):x.small:=⟨by unfold Dev.sz at h;omega,by unfold Dev.sz at h;omega⟩
def Model.small (x:Model):Prop:=x.ram.length≤1048576∧x.dev.small
def Model.sz (x:Model):Nat:=x.ram.length+x.dev.sz
theorem Model.small_of {x:Model} (h:x.sz≤1048576):x.small:=⟨by unfold Model.sz at h;omega,Dev.small_of (by unfold Model.sz at h;omega)⟩
def Bus.small (x:Bus):Prop:=x.conf.small∧x.ms.length≤1048576∧(∀ y,y∈x.ms→Mst.small y)∧x.buckets.length≤1048576∧x.splits.length≤1048576∧x.model.small∧x.log.length≤1048576
def Bus.sz (x:Bus):Nat:=x.conf.sz+x.ms.length+sumL Mst.sz x.ms+x.buckets.length+x.splits.length+x.model.sz+x.log.length
theorem Bus.small_of {x:Bus} (h:x.sz≤1048576):x.small:=⟨Conf.small_of (by unfold Bus.sz at h;omega),by unfold Bus.sz at h;omega,fun y hy=>Mst.small_of (by have:=sumL_mem Mst.sz hy;unfold Bus.sz at h;omega),by unfold Bus.sz at h;omega,by unfold Bus.sz at h;omega,Model.small_of (by unfold Bus.sz at h;omega),by unfold Bus.sz at h;omega⟩
def MConf.beq (x y:MConf):Bool:=((x.weight == y.weight) && ((x.prio == y.prio) && ((x.every == y.every) && ((x.cap == y.cap) && true))))
theorem MConf.of_beq {x y:MConf} (h:MConf.beq x y=true):x=y:=by
 cases x;cases y;simp_all [MConf.beq]
theorem MConf.no_beq {x y:MConf} (h:MConf.beq x y=false):x≠y:=by
 rintro rfl;simp [MConf.beq] at h
theorem MConf.beq_dec (x y:MConf):MConf.beq x y=decide (x=y):=by
 cases h:MConf.beq x y
 ·exact(decide_eq_false (MConf.no_beq h)).symm
 ·exact(decide_eq_true (MConf.of_beq h)).symm
def Bucket.beq (x y:Bucket):Bool:=((x.tokens == y.tokens) && ((x.count == y.count) && true))
theorem Bucket.of_beq {x y:Bucket} (h:Bucket.beq x y=true):x=y:=by
 cases x;cases y;simp_all [Bucket.beq]
theorem Bucket.no_beq {x y:Bucket} (h:Bucket.beq x y=false):x≠y:=by
 rintro rfl;simp [Bucket.beq] at h
theorem Bucket.beq_dec (x y:Bucket):Bucket.beq x y=decide (x=y):=by
 cases h:Bucket.beq x y
 ·exact(decide_eq_false (Bucket.no_beq h)).symm
 ·exact(decide_eq_true (Bucket.of_beq h)).symm
def Beat.beq (x y:Beat):Bool:=((x.live == y.live) && ((x.who == y.who) && ((x.num == y.num) && ((x.first == y.first) && ((x.via == y.via) && ((x.left == y.left) && ((x.resp == y.resp) && ((x.second == y.second) && true))))))))
theorem Beat.of_beq {x y:Beat} (h:Beat.beq x y=true):x=y:=by
 cases x;cases y;simp_all [Beat.beq]
theorem Beat.no_beq {x y:Beat} (h:Beat.beq x y=false):x≠y:=by
 rintro rfl;simp [Beat.beq] at h
theorem Beat.beq_dec (x y:Beat):Beat.beq x y=decide (x=y):=by
 cases h:Beat.beq x y
 ·exact(decide_eq_false (Beat.no_beq h)).symm
 ·exact(decide_eq_true (Beat.of_beq h)).symm
def Wrr.beq (x y:Wrr):Bool:=((x.pos == y.pos) && ((x.credit == y.credit) && true))
theorem Wrr.of_beq {x y:Wrr} (h:Wrr.beq x y=true):x=y:=by
 cases x;cases y;simp_all [Wrr.beq]
theorem Wrr.no_beq {x y:Wrr} (h:Wrr.beq x y=false):x≠y:=by
 rintro rfl;simp [Wrr.beq] at h
theorem Wrr.beq_dec (x y:Wrr):Wrr.beq x y=decide (x=y):=by
 cases h:Wrr.beq x y
 ·exact(decide_eq_false (Wrr.no_beq h)).symm
 ·exact(decide_eq_true (Wrr.of_beq h)).symm
structure Bus.parts (x y:Bus):Prop where
 conf:x.conf=y.conf
 now:x.now=y.now
 ms:x.ms=y.ms
 arb:x.arb=y.arb
 buckets:x.buckets=y.buckets
 splits:x.splits=y.splits
 holder:x.holder=y.holder
 kept:x.kept=y.kept
 last:x.last=y.last
 addr:x.addr=y.addr
 data:x.data=y.data
 model:x.model=y.model
 picks:x.picks=y.picks
 log:x.log=y.log
def bytes (size:Int):Int:=if inB size 0 2 then(if size=0 then 1 else if size=1 then 2 else 4) else 0
def limit (size:Int):Int:=if inB size 0 2 then(if size=0 then 256 else if size=1 then 65536 else 4294967296) else 0
def beatsN (b:Int):Int:=if b=0 then 1 else if b=3 then 8 else 4
def beats (b:Int):Int:=if inB b 0 3 then beatsN b else 0
theorem in3 {x:Int} (h:inB x 0 2=true):x=0∨x=1∨x=2:=by have:=inB_t h;omega
theorem in4 {x:Int} (h:inB x 0 3=true):x=0∨x=1∨x=2∨x=3:=by have:=inB_t h;omega
theorem bytes_leaf {x:Int} (h:inB x 0 2=true):IntKind.wrap .i64 (1 * 2 ^ (min x.toNat IntKind.i64.bits))=bytes x:=by
 unfold bytes;rw[if_pos h];rcases in3 h with rfl|rfl|rfl <;> decide
theorem bytes_pos {x:Int} (h:inB x 0 2=true):bytes x=1∨bytes x=2∨bytes x=4:=by
 unfold bytes;rw[if_pos h];rcases in3 h with rfl|rfl|rfl <;> simp
theorem bytes_no {x:Int} (h:inB x 0 2=false):bytes x=0:=by unfold bytes;rw[if_neg (by simp [h])]
theorem bytes_z {x:Int}:bytes x=0∧inB x 0 2=false∨inB x 0 2=true∧(bytes x=1∨bytes x=2∨bytes x=4):=by
 cases h:inB x 0 2 with
 | false=>exact .inl ⟨bytes_no h,rfl⟩
 | true=>exact .inr ⟨rfl,bytes_pos h⟩
theorem limit_leaf {x:Int} (h:¬ bytes x=0):IntKind.wrap .i64 (1 * 2 ^ (min (IntKind.wrap .i64 (8 * bytes x)).toNat IntKind.i64.bits))=limit x:=by
 rcases bytes_z (x:=x) with⟨h1,_⟩|⟨h1,_⟩
 ·exact absurd h1 h
 ·unfold limit bytes;rw[if_pos h1,if_pos h1];rcases in3 h1 with rfl|rfl|rfl <;> decide
theorem limit_no {x:Int} (h:bytes x=0):limit x=0:=by
 rcases bytes_z (x:=x) with⟨_,h1⟩|⟨_,h1⟩
 ·unfold limit;rw[if_neg (by simp [h1])]
 ·omega
theorem limit_bd (x:Int):0≤limit x∧limit x≤4294967296:=by
 unfold limit
 split
 ·rename_i h;rcases in3 h with rfl|rfl|rfl <;> simp
 ·simp
theorem beats_row {b:Int} {t:IntKind} (h:inB b 0 3=true):[[V.w (.int .i64 1)],[V.w (.int .i64 4)],[V.w (.int .i64 4)],[V.w (.int .i64 8)]][b.toNat]?=some [V.w (.int .i64 (beatsN b))]:=by
 rcases in4 h with rfl|rfl|rfl|rfl <;> rfl
theorem beats_bd (b:Int):0≤beats b∧beats b≤8:=by
 unfold beats
 split
 ·rename_i h;rcases in4 h with rfl|rfl|rfl|rfl <;> simp [beatsN]
 ·simp
def aligned (a size:Int):Bool:=inB size 0 2 && decide (0≤a) && decide (a.tmod (bytes size)=0)
def nextA (a size burst:Int):Int:=
 if aligned a size && decide (a<512) && decide (beats burst≠0) then
  (if burst=2∧(a+bytes size).tmod (4 * bytes size)=0 then a+bytes size-4 * bytes size else a+bytes size)
 else -1
theorem c_33 (size:Int):CV prg 33 [.w (.int .i64 size)] (fun res=>res=.w (.int .i64 (bytes size))):=by
 refine cv_in g33 (Ei [0] Y (Et (Ea Y (Em [0] Y (Ey (Et (Ea Y (Ev Y Y (c_103 ..) (Fk Y (Em [0,5] Y (s_condNB Y ?_ ?_)))))))))))
 intro h1
 refine Et (Ea Y (Em [2] Y (Eh (Ep (Fe Y Y ?_)))))
 rotate_left
 intro h1
 have h1':=inB_t h1
 refine z_s [0] Y (Et (Ea Y (Fa (o_shl Y Y (by omega)) (Ea Y (Em [2] Y (Eh (Fe Y Y ?_)))))))
 rotate_left
 all_goals
  first|exact bytes_leaf (by assumption)|exact(bytes_no (by assumption)).symm
theorem c_183 (size:Int):CV prg 183 [.w (.int .i64 size)] (fun res=>res=.w (.int .i64 (bytes size))):=by
 refine cv_in g183 (Ei [0] Y (Et (Ea Y (Em [0] Y (Ey (Et (Ea Y (Ev Y Y (c_230 ..) (Fk Y (Em [0,5] Y (s_condNB Y ?_ ?_)))))))))))
 intro h1
 refine Et (Ea Y (Em [2] Y (Eh (Ep (Fe Y Y ?_)))))
 rotate_left
 intro h1
 have h1':=inB_t h1
 refine z_s [0] Y (Et (Ea Y (Fa (o_shl Y Y (by omega)) (Ea Y (Em [2] Y (Eh (Fe Y Y ?_)))))))
 rotate_left
 all_goals
  first|exact bytes_leaf (by assumption)|exact(bytes_no (by assumption)).symm
theorem c_22 (b:Int):CV prg 22 [.w (.int .i64 b)] (fun res=>res=.w (.int .i64 (beats b))):=by
 refine cv_in g22 (Ei [0] Y (Et (Ea Y (Em [0] Y (Ey (Et (Ea Y (Ev Y Y (c_103 ..) (Fk Y (Em [0,5] Y (s_condNB Y ?_ ?_)))))))))))
 intro h1
 refine Et (Ea Y (Em [2] Y (Eh (Ep (Fe Y Y ?_)))))
 rotate_left
 intro h1
 have h1':=inB_t h1
 refine z_s [0] Y (Et (Fa (o_bs Y Y Y Y) (Ea Y (Fa (o_iaL Y Y Y Y (by simp;omega)) (u_ldA Y Y Y (beats_row (t:=.i64) (by assumption)) Y (Ea Y (Ez (Eu ?_))))))))
 refine Ei [2] Y (Eh (Fe Y Y ?_))
 rotate_left
 all_goals
  simp_all [beats]
theorem c_173 (b:Int):CV prg 173 [.w (.int .i64 b)] (fun res=>res=.w (.int .i64 (beats b))):=by
 refine cv_in g173 (Ei [0] Y (Et (Ea Y (Em [0] Y (Ey (Et (Ea Y (Ev Y Y (c_230 ..) (Fk Y (Em [0,5] Y (s_condNB Y ?_ ?_)))))))))))
 intro h1
 refine Et (Ea Y (Em [2] Y (Eh (Ep (Fe Y Y ?_)))))
 rotate_left
 intro h1
 have h1':=inB_t h1
 refine z_s [0] Y (Et (Fa (o_bs Y Y Y Y) (Ea Y (Fa (o_iaL Y Y Y Y (by simp;omega)) (u_ldA Y Y Y (beats_row (t:=.i64) (by assumption)) Y (Ea Y (Ez (Eu ?_))))))))
 refine Ei [2] Y (Eh (Fe Y Y ?_))
 rotate_left
 all_goals
  simp_all [beats]
theorem c_51 (size:Int):CV prg 51 [.w (.int .i64 size)] (fun res=>res=.w (.int .i64 (limit size))):=by
 have hz:=bytes_z (x:=size)
 refine cv_in g51 (Ei [0] Y (Et (Ea Y (Em [0] Y (Ey (Et (Ea Y (Ev Y Y (c_33 ..) (Fm Y Y (Em [0,5] Y (Ew Y ?_ ?_)))))))))))
 intro h1
 refine Et (Ea Y (Em [2] Y (Eh (Ep (Fe Y Y ?_)))))
 rotate_left
 intro h1
 refine z_s [0] Y (Et (Ea Y (Ev Y Y (c_33 ..) (u_mul Y Y (Fa (o_shl Y Y (by rw[wrap_in _ (by omega)];omega)) (Ea Y (Ez (Eu ?_))))))))
 refine Ei [2] Y (Eh (Fe Y Y ?_))
 rotate_left
 all_goals
  first|exact limit_leaf (by assumption)|exact(limit_no (by assumption)).symm
theorem c_201 (size:Int):CV prg 201 [.w (.int .i64 size)] (fun res=>res=.w (.int .i64 (limit size))):=by
 have hz:=bytes_z (x:=size)
 refine cv_in g201 (Ei [0] Y (Et (Ea Y (Em [0] Y (Ey (Et (Ea Y (Ev Y Y (c_183 ..) (Fm Y Y (Em [0,5] Y (Ew Y ?_ ?_)))))))))))
 intro h1
 refine Et (Ea Y (Em [2] Y (Eh (Ep (Fe Y Y ?_)))))
 rotate_left
 intro h1
 refine z_s [0] Y (Et (Ea Y (Ev Y Y (c_183 ..) (u_mul Y Y (Fa (o_shl Y Y (by rw[wrap_in _ (by omega)];omega)) (Ea Y (Ez (Eu ?_))))))))
 refine Ei [2] Y (Eh (Fe Y Y ?_))
 rotate_left
 all_goals
  first|exact limit_leaf (by assumption)|exact(limit_no (by assumption)).symm
theorem c_92 (v size:Int):CV prg 92 [.w (.int .i64 v),.w (.int .i64 size)] (fun res=>res=.w (.bool (inB v 0 (limit size-1)))):=by
 have hz:=limit_bd size
 refine cv_in g92 (Ei [0,1] Y (Et (Ea Y (z_q [0,1] Y (Ea Y (Ea Y (Ev Y Y (c_51 ..) (Fa (o_subn Y Y (by omega)) (Ev Y Y (c_103 ..) (Ea Y (Em [4] Y (Eh (Ef Y Y ?_)))))))))))))
 rotate_left
 all_goals
  rfl
theorem c_21 (a size:Int):CV prg 21 [.w (.int .i64 a),.w (.int .i64 size)] (fun res=>res=.w (.bool (aligned a size))):=by
 have hz:=bytes_z (x:=size)
 refine cv_in g21 (Ei [0,1] Y (Et (Ea Y (z_q [0,1] Y (Ea Y (Ev Y Y (c_103 ..) (Ea Y (s_gB Y ?_ ?_))))))))
 intro h1
 have h1':=hz;rw[h1] at h1';simp at h1'
 refine Ea Y (Ec Y (u_geq Y Y (Eg Y Y (Ea Y (Ft Y ?_ ?_)))))
 intro h2
 refine Ea Y (Ec Y (Ea Y (Ec Y (Ev Y Y (c_33 ..) (Ec Y (u_rem Y Y (by omega) (Ec Y (Fm Y Y (Eg Y Y (Ea Y (Em [4] Y (Eh (Ef Y Y ?_)))))))))))))
 rotate_left
 intro h2
 refine Eb Y (Eb Y (Eb Y (Eb Y (Eb Y (Ed Y Y (Ea Y (Em [4] Y (Eh (Ef Y Y ?_)))))))))
 rotate_left
 intro h1
 have h1':=hz;rw[h1] at h1';simp at h1'
 refine Eb Y (Eb Y (Ed Y Y (Ea Y (Eb Y (Eb Y (Eb Y (Eb Y (Eb Y (Ed Y Y (Ea Y (Em [4] Y (Eh (Ef Y Y ?_)))))))))))))
 rotate_left
 all_goals
  first|(simp_all [aligned];done)|(simp_all [aligned] <;> omega)
theorem c_172 (a size:Int):CV prg 172 [.w (.int .i64 a),.w (.int .i64 size)] (fun res=>res=.w (.bool (aligned a size))):=by
 have hz:=bytes_z (x:=size)
 refine cv_in g172 (Ei [0,1] Y (Et (Ea Y (z_q [0,1] Y (Ea Y (Ev Y Y (c_183 ..) (u_gtr Y Y (Ea Y (Ft Y ?_ ?_)))))))))
 intro h1
 refine Ea Y (Ec Y (u_geq Y Y (Eg Y Y (Ea Y (Ft Y ?_ ?_)))))
 intro h2
 refine Ea Y (Ec Y (Ea Y (Ec Y (Ev Y Y (c_183 ..) (Ec Y (u_rem Y Y (by omega) (Ec Y (Fm Y Y (Eg Y Y (Ea Y (Em [4] Y (Eh (Ef Y Y ?_)))))))))))))
 rotate_left
 intro h2
 refine Eb Y (Eb Y (Eb Y (Eb Y (Eb Y (Ed Y Y (Ea Y (Em [4] Y (Eh (Ef Y Y ?_)))))))))
 rotate_left
 intro h1
 refine Eb Y (Eb Y (Ed Y Y (Ea Y (Eb Y (Eb Y (Eb Y (Eb Y (Eb Y (Ed Y Y (Ea Y (Em [4] Y (Eh (Ef Y Y ?_)))))))))))))
 rotate_left
 all_goals
  first|(rcases hz with⟨h8,h9⟩|⟨h8,h9⟩ <;> simp_all [aligned];done)|(rcases hz with⟨h8,h9⟩|⟨h8,h9⟩ <;> simp_all [aligned] <;> omega)
theorem aligned_t {a s:Int} (h:aligned a s=true):inB s 0 2=true∧0≤a∧(bytes s=1∨bytes s=2∨bytes s=4):=by
 simp only[aligned,Bool.and_eq_true,decide_eq_true_eq] at h
 exact⟨h.1.1,h.1.2,bytes_pos h.1.1⟩
theorem c_60 (a size burst:Int):CV prg 60 [.w (.int .i64 a),.w (.int .i64 size),.w (.int .i64 burst)] (fun res=>res=.w (.int .i64 (nextA a size burst))):=by
 refine cv_in g60 (Ei [0,1,2] Y (Et (Ea Y (Em [0,1,2] Y (Ey (Et (Ea Y (Ea Y (Ev Y Y (c_21 ..) (Fk Y (Ea Y (s_gNF Y ?_ ?_))))))))))))
 intro h1
 have h1':=aligned_t h1
 refine Ea Y (Ec Y (u_geq Y Y (Ed Y Y (Ea Y (s_gDF Y ?_ ?_)))))
 intro h2
 refine Ea Y (Ec Y (Ev Y Y (c_22 ..) (Ec Y (Fm Y Y (Ed Y Y (Em [0,1,2,21] Y (Ew Y ?_ ?_)))))))
 intro h3
 refine Et (Ea Y (Em [6] Y (Eh (Ep (Fe Y Y ?_)))))
 rotate_left
 intro h3
 refine z_s [0,1,2] Y (Et (Ea Y (Ea Y (Ev Y Y (c_33 ..) (Fa (Fn Y Y (by omega)) (Ea Y (Ev Y Y (c_33 ..) (Fa (o_muln Y Y (by omega)) (Ea Y (Ea Y (Em [2,7,8] Y (Ey (Et (Ea Y (Fm Y Y (Ea Y (Ft Y ?_ ?_)))))))))))))))))
 intro h4
 refine Ea Y (Ec Y (Ea Y (Ec Y (u_rem Y Y (by omega) (Ec Y (Fm Y Y (Eg Y Y (Em [7,8,36] Y (Ew Y ?_ ?_)))))))))
 intro h5
 refine Fs (Ea Y (Ea Y (Fa (o_subn Y Y (by omega)) (Ea Y (z_q [7] Y (Ea Y (Ea Y (Em [6] Y (Eh (Fe Y Y ?_))))))))))
 rotate_left
 intro h5
 refine z_s [7] Y (Et (Ea Y (Ea Y (Em [6] Y (Eh (Fe Y Y ?_))))))
 rotate_left
 intro h4
 refine Eb Y (Eb Y (Eb Y (Eb Y (Ed Y Y (Em [7,8,36] Y (Fi Y (z_s [7] Y (Et (Ea Y (Ea Y (Em [6] Y (Eh (Fe Y Y ?_)))))))))))))
 rotate_left
 intro h2
 refine Eb Y (Eb Y (Eb Y (Eg Y Y (Em [0,1,2,21] Y (Fd Y (Et (Ea Y (Em [6] Y (Eh (Ep (Fe Y Y ?_)))))))))))
 rotate_left
 intro h1
 refine Eb Y (Eb Y (Eg Y Y (Ea Y (Eb Y (Eb Y (Eb Y (Eg Y Y (Em [0,1,2,21] Y (Fd Y (Et (Ea Y (Em [6] Y (Eh (Ep (Fe Y Y ?_)))))))))))))))
 rotate_left
 all_goals
  first|(simp_all [nextA];done)|(simp_all [nextA] <;> omega)
theorem c_205 (a size burst:Int):CV prg 205 [.w (.int .i64 a),.w (.int .i64 size),.w (.int .i64 burst)] (fun res=>res=.w (.int .i64 (nextA a size burst))):=by
 refine cv_in g205 (Ei [0,1,2] Y (Et (Ea Y (z_q [0,1,2] Y (Ea Y (Ev Y Y (c_183 ..) (Ea Y (Em [0,1,2,7] Y (Ey (Et (Ea Y (Ea Y (Ev Y Y (c_172 ..) (Fk Y (Ea Y (s_gNF Y ?_ ?_))))))))))))))))
 intro h1
 have h1':=aligned_t h1
 refine Ea Y (Ec Y (Ev Y Y (c_230 ..) (Ec Y (Fk Y (Ed Y Y (Ea Y (s_gNF Y ?_ ?_)))))))
 intro h2
 have h2':=inB_t h2
 refine Ea Y (Ec Y (Ev Y Y (c_173 ..) (Ec Y (Fm Y Y (Ed Y Y (Em [0,2,7,23] Y (Ew Y ?_ ?_)))))))
 intro h3
 refine Et (Ea Y (Em [6] Y (Eh (Ep (Fe Y Y ?_)))))
 rotate_left
 intro h3
 refine z_s [0,2,7] Y (Ey (Et (Ea Y (Fm Y Y (Ea Y (Ft Y ?_ ?_))))))
 intro h4
 refine Ea Y (Ec Y (Ea Y (Ec Y (Fa (Fn Y Y (by omega)) (Ec Y (Ea Y (Ec Y (Fa (o_muln Y Y (by omega)) (Ec Y (u_rem Y Y (by omega) (Ec Y (Fm Y Y (Eg Y Y (Em [0,7,34] Y (Ew Y ?_ ?_)))))))))))))))
 intro h5
 refine Et (Ea Y (Ea Y (Fa (Fn Y Y (by omega)) (Ea Y (Fa (o_muln Y Y (by omega)) (Fa (o_subn Y Y (by omega)) (Ea Y (Em [6] Y (Eh (Ep (Fe Y Y ?_)))))))))))
 rotate_left
 intro h5
 refine z_s [0,7] Y (Et (Ea Y (Ea Y (Fa (Fn Y Y (by omega)) (Ea Y (Em [6] Y (Eh (Fe Y Y ?_))))))))
 rotate_left
 intro h4
 iterate 7 refine Eb rfl ?_
 refine Ed Y Y (Em [0,7,34] Y (Fi Y (z_s [0,7] Y (Et (Ea Y (Ea Y (Fa (Fn Y Y (by omega)) (Ea Y (Em [6] Y (Eh (Fe Y Y ?_)))))))))))
 rotate_left
 intro h2
 have h2':=inB_f h2
 refine Eb Y (Eb Y (Eb Y (Eg Y Y (Em [0,2,7,23] Y (Fd Y (Et (Ea Y (Em [6] Y (Eh (Ep (Fe Y Y ?_)))))))))))
 rotate_left
 intro h1
 refine Eb Y (Eb Y (Eb Y (Eg Y Y (Ea Y (Eb Y (Eb Y (Eb Y (Eg Y Y (Em [0,2,7,23] Y (Fd Y (Et (Ea Y (Em [6] Y (Eh (Ep (Fe Y Y ?_))))))))))))))))
 rotate_left
 all_goals
  first|(simp_all [nextA];done)|(simp_all [nextA] <;> omega)
def bl (s b:Int):Nat→Int→Option (List Int)
 | 0,_=>some []
 | n+1,a=>if nextA a s b<0 then none else(bl s b n (nextA a s b)).map (a :: ·)
def burstL (a s b:Int):List Int:=(bl s b (beats b).toNat a).getD []
theorem bl_step {s b a c:Int} {n i:Nat} {pre:List Int} (h:bl s b n a=(bl s b (n-i) c).map (pre ++ ·)) (hi:i<n) (hn:¬ nextA c s b<0):bl s b n a=(bl s b (n-(i+1)) (nextA c s b)).map ((pre++[c]) ++ ·):=by
 rw[h]
 have e:n-i=(n-(i+1))+1:=by omega
 rw[e,bl,if_neg hn]
 cases bl s b (n-(i+1)) (nextA c s b) <;> simp
theorem bl_none {s b a c:Int} {i:Nat} {pre:List Int} (h:bl s b (beats b).toNat a=(bl s b ((beats b).toNat-i) c).map (pre ++ ·)) (hi:i<(beats b).toNat) (hn:nextA c s b<0):burstL a s b=[]:=by
 unfold burstL
 rw[h]
 have e:(beats b).toNat-i=((beats b).toNat-(i+1))+1:=by omega
 rw[e,bl,if_pos hn];rfl
theorem bl_end {s b a c:Int} {i:Nat} {pre:List Int} (h:bl s b (beats b).toNat a=(bl s b ((beats b).toNat-i) c).map (pre ++ ·)) (hi:(beats b).toNat≤i):burstL a s b=pre:=by
 unfold burstL
 rw[h,show(beats b).toNat-i=0 by omega,bl];simp
theorem bl_len (s b:Int):∀ (n:Nat) (a:Int) l,bl s b n a=some l→l.length=n
 | 0,a,l,h=>by simp [bl] at h;subst h;rfl
 | n+1,a,l,h=>by
   simp only[bl] at h
   split at h
   ·cases h
   ·cases e:bl s b n (nextA a s b) with
    | none=>rw[e] at h;cases h
    | some r=>rw[e] at h;cases h;simp [bl_len s b n _ r e]
theorem burstL_len (a s b:Int):(burstL a s b).length=0∨(burstL a s b).length=(beats b).toNat:=by
 unfold burstL
 cases e:bl s b (beats b).toNat a with
 | none=>exact .inl rfl
 | some l=>exact .inr (bl_len s b _ _ _ e)
theorem burstL_le (a s b:Int):(burstL a s b).length≤8:=by
 have h1:=burstL_len a s b
 have h2:=beats_bd b
 omega
theorem iR_app (pre:List Int) (c:Int):(pre++[c]).map iR=pre.map iR++[[V.w (.int .i64 c)]]:=by rw[List.map_append];rfl
theorem c_29 (a s b:Int):CV prg 29 [.w (.int .i64 a),.w (.int .i64 s),.w (.int .i64 b)] (fun res=>res=.sl 1 ((burstL a s b).map iR)):=by
 have hb:=beats_bd b
 refine cv_in g29 (Ei [0,1,2] Y (Et (Ea Y (z_q [0,1,2] Y (Fa (o_bs Y Y Y Y) (Ea Y (Em [0,1,2,7] Y (Ey (Et (Ea Y (Ev Y Y (c_22 ..) (Ea Y (Em [0,1,2,7,11,12] Y ?_)))))))))))))
 refine Fh (S_loop (ι:=(Nat×List Int×Int)) (fun p=>p.1≤(beats b).toNat∧p.2.1.length=p.1∧bl s b (beats b).toNat a=(bl s b ((beats b).toNat-p.1) p.2.2).map (p.2.1 ++ ·)) (fun p=>[(12,.w (.int .i64 (p.1:Int))),(7,.ls 0 (p.2.1.map iR).length),(0,.w (.int .i64 p.2.2))]) (fun p=>[.arr 1 (p.2.1.map iR)]) (fun p=>(beats b).toNat-p.1) 1 (0,[],a) ⟨by simp,rfl,by simp⟩ Y (hasOf ⟨Y,Y,Y,trivial⟩ Y) Y (fun _ _=>Y) (fun _ _=>⟨Y,Y⟩) ?_)
 rintro⟨i,pre,c⟩ hi
 obtain⟨hi1,hi2,hi3⟩:=hi
 simp only at hi1 hi2 hi3
 refine Ei [0,1,2,7,11,12] Y ?_
 dsimp only
 refine Et (u_lss Y Y (Em [0,1,2,7,11,12,13] Y (Ey (Ew Y ?_ ?_))))
 intro h1
 refine z_s [0,1,2,7,11,12] Y (Ey (Fh (Et (Ea Y (Ea Y (Ea Y (Ev Y Y (c_60 ..) (Ea Y (Em [0,1,2,7,8,11,12] Y (Ey (Et (Ea Y (u_lss Y Y (Em [0,1,2,7,8,11,12,19] Y (Ew Y ?_ ?_)))))))))))))))
 intro h2
 refine Et (Ea Y (Em [6] Y (Eh (Ep (Fc (Ep (q_loopR (Fc (Ep ?_)))))))))
 rotate_left
 intro h2
 refine z_s [0,1,2,7,8,11,12] Y (Et (Ea Y (Ea Y (Fa (o_bs Y Y Y Y) ?_))))
 refine Fa (o_appL Y Y Y Y Y Y Y (by simp [roomy];omega)) ?_
 refine Ea Y (Em [1,2,7,8,11,12] Y (Fs (Ea Y (Ea Y (Ez (Fb (Eu (Ei [0,1,2,7,11,12] Y (Fs (Fa (Fn Y Y (by omega)) (Ea Y (Ez (Fp ?_)))))))))))))
 ·refine⟨(i+1,pre++[c],nextA c s b),⟨by simp only;omega,by simp only[List.length_append,List.length_cons,List.length_nil];omega,bl_step hi3 (by omega) (by assumption)⟩,by simp only;omega,hasOf ⟨rfl,?_,rfl,trivial⟩ ?_⟩
  ·rw[iR_app];rfl
  ·simp only;rw[iR_app];rfl
 intro h1
 refine s_exit (q_seqX (q_loopX (q_blkH (Eu (Ei [7] Y (Et (Ea Y (Ea Y (Em [6] Y (Eh ?_))))))))))
 rotate_left
 all_goals
  first|(refine ret_leafW (.inr Y) Y Y (.nil 1 _) ?_;rw[bl_none hi3 (by omega) (by assumption)];rfl;done)|(refine ret_leafA (.inr Y) Y Y Y ?_;rw[bl_end hi3 (by omega)];done)
theorem c_179 (a s b:Int):CV prg 179 [.w (.int .i64 a),.w (.int .i64 s),.w (.int .i64 b)] (fun res=>res=.sl 1 ((burstL a s b).map iR)):=by
 have hb:=beats_bd b
 refine cv_in g179 (Ei [0,1,2] Y (Et (Ea Y (z_q [0,1,2] Y (Fa (o_bs Y Y Y Y) (Ea Y (Em [0,1,2,7] Y (Ey (Fh (S_loop (ι:=(List Int×Int)) (fun p=>p.1.length≤(beats b).toNat∧bl s b (beats b).toNat a=(bl s b ((beats b).toNat-p.1.length) p.2).map (p.1 ++ ·)) (fun p=>[(7,.ls 0 (p.1.map iR).length),(0,.w (.int .i64 p.2))]) (fun p=>[.arr 1 (p.1.map iR)]) (fun p=>(beats b).toNat-p.1.length) 1 ([],a) ⟨by simp,by simp⟩ Y (hasOf ⟨Y,Y,trivial⟩ Y) Y (fun _ _=>Y) (fun _ _=>⟨Y,Y⟩) ?_))))))))))
 rintro⟨pre,c⟩ hi
 obtain⟨hi1,hi3⟩:=hi
 simp only at hi1 hi3
 have hml:(pre.map iR).length=pre.length:=List.length_map ..
 refine Ei [0,1,2,7] Y ?_
 dsimp only
 refine Ey (Et (Ea Y (u_lenL Y Y Y (Ea Y (Ev Y Y (c_173 ..) (u_lss Y Y (Ea Y (Ft Y ?_ ?_))))))))
 intro h1
 refine Ea Y (Ec Y (Ea Y (Ec Y (Ea Y (Ec Y (Ev Y Y (c_205 ..) (Ec Y (u_geq Y Y (Eg Y Y (Em [0,1,2,7,15,16,17,18,19,20] Y (Ew Y ?_ ?_)))))))))))
 intro h2
 refine z_s [0,1,2,7,15,16,17,18,19] Y (Fh (Et (Ea Y (Ea Y (Fa (o_bs Y Y Y Y) ?_)))))
 refine Fa (o_appL Y Y Y Y Y Y Y (by simp [roomy];omega)) ?_
 refine Ea Y (Em [0,1,2,7,15,16,17,18,19] Y (Fs (Ea Y (Ea Y (Ea Y (Ev Y Y (c_205 ..) (Ea Y (Ez (Fb (Fp ?_))))))))))
 ·refine⟨(pre++[c],nextA c s b),⟨by simp only[List.length_append,List.length_cons,List.length_nil];omega,by simp only[List.length_append,List.length_cons,List.length_nil];exact bl_step hi3 (by omega) (by omega)⟩,by simp only[List.length_append,List.length_cons,List.length_nil];omega,hasOf ⟨?_,rfl,trivial⟩ ?_⟩
  ·rw[iR_app];rfl
  ·simp only;rw[iR_app];rfl
 intro h2
 refine s_exit (q_seqX (q_loopX (q_blkH (Eu (Ei [2,7] Y (Ey (Et (Ea Y (u_lenL Y Y Y (Ea Y (Ev Y Y (c_173 ..) (u_lss Y Y (Em [7,33] Y (Ew Y ?_ ?_))))))))))))))
 intro h3
 refine Et (Fa (o_bs Y Y Y Y) (Ea Y (Em [6] Y (Eh (Ep ?_)))))
 rotate_left
 intro h3
 refine z_s [7] Y (Et (Ea Y (Ea Y (Em [6] Y (Eh ?_)))))
 rotate_left
 intro h1
 refine Eb Y (Eb Y (Eb Y (Eb Y (Eb Y (Ed Y Y (Em [0,1,2,7,15,16,17,18,19,20] Y (Fi Y (s_exit (q_seqX (q_loopX (q_blkH (Eu (Ei [2,7] Y (Ey (Et (Ea Y (u_lenL Y Y Y (Ea Y (Ev Y Y (c_173 ..) (u_lss Y Y (Em [7,33] Y (Ew Y ?_ ?_))))))))))))))))))))))
 intro h4
 refine Et (Fa (o_bs Y Y Y Y) (Ea Y (Em [6] Y (Eh (Ep ?_)))))
 rotate_left
 intro h4
 refine z_s [7] Y (Et (Ea Y (Ea Y (Em [6] Y (Eh ?_)))))
 rotate_left
 all_goals
  first|(refine ret_leafA (.inr Y) Y Y Y ?_;rw[bl_end hi3 (by omega)];done)|(refine ret_leafA (.inr Y) Y Y Y ?_;rw[bl_none hi3 (by omega) (by omega)];rfl;done)
def onPage (l:List Int) (x:Int):Bool:=decide (IntKind.wrap .i64 (x.tdiv 64)=IntKind.wrap .i64 (((l[0]?).getD 0).tdiv 64))
theorem page_no {l:List Int} {x y:Int} (h0:l[0]?=some y) (h:¬ IntKind.wrap .i64 (x.tdiv 64)=IntKind.wrap .i64 (y.tdiv 64)):onPage l x=false:=by unfold onPage;rw[h0];exact decide_eq_false h
theorem page_is {l:List Int} {x y:Int} (h0:l[0]?=some y) (h:IntKind.wrap .i64 (x.tdiv 64)=IntKind.wrap .i64 (y.tdiv 64)):onPage l x=true:=by unfold onPage;rw[h0];exact decide_eq_true h
def burstOk (a s b:Int):Bool:=(burstL a s b).all (onPage (burstL a s b)) && decide (0<(burstL a s b).length)
theorem c_30 (a s b:Int):CV prg 30 [.w (.int .i64 a),.w (.int .i64 s),.w (.int .i64 b)] (fun res=>res=.w (.bool (burstOk a s b))):=by
 have hlen:=burstL_le a s b
 refine cv_in g30 (Ei [0,1,2] Y (Et (Ea Y (z_q [0,1,2] Y (Ea Y (Ea Y (Ea Y (Ev Y Y (c_29 ..) (Ea Y (Em [7] Y (Ey (Et (Ea Y (Fw Y (Ea Y (Em [7,14,15,16] Y (Fh (S_loop0 (ι:=Nat) (fun i=>i≤(burstL a s b).length∧((burstL a s b).take i).all (onPage (burstL a s b))=true) (fun i=>[(16,.w (.int .i64 (i:Int)))]) (fun i=>(burstL a s b).length-i) 0 (by simp) Y ⟨Y,trivial⟩ (fun _ _=>Y) Y ?_))))))))))))))))))
 intro i hi
 refine Ei [7,14,15,16] Y (Et (u_lss Y Y (Em [7,14,15,16,17] Y (Ey (Ew Y ?_ ?_)))))
 intro h1
 refine z_s [7,14,15,16] Y (Ey (Fh (Et (s_iaM Y Y (by omega) ?_))))
 intro y2 e2
 simp only[Int.toNat_natCast,Int.toNat_zero] at e2
 refine u_ld Y Y (Ea Y (z_q [7,9,14,15,16] Y (Ea Y (u_quo Y Y (by decide) (Ea Y (s_iaM Y Y (by omega) ?_))))))
 intro y3 e3
 simp only[Int.toNat_natCast,Int.toNat_zero] at e3
 refine u_ld Y Y (u_quo Y Y (by decide) (u_neq Y Y (Em [7,14,15,16,26] Y (Ew Y ?_ ?_))))
 intro h4
 refine Et (Ea Y (Em [6] Y (Eh (Fc (Ep (q_loopR (Fc (Ep (Ef Y Y ?_)))))))))
 rotate_left
 intro h4
 rw[nnp] at h4
 refine Fr (Fb (Eu (Ei [7,14,15,16] Y (Fs (Fa (Fn Y Y (by omega)) (Ea Y (Ez (Fp ?_))))))))
 ·exact⟨i+1,⟨by omega,all_take (by assumption:(burstL a s b)[i]?=some _) hi.2 (page_is (by assumption:(burstL a s b)[0]?=some _) (by assumption))⟩,by omega,hasOf ⟨rfl,trivial⟩ rfl⟩
 intro h1
 refine s_exit (q_seqX (q_loopX (q_blkH (Eu (Ei [7] Y (Et (Ea Y (Fw Y (u_gtr Y Y (Ea Y (Em [6] Y (Eh (Ef Y Y ?_)))))))))))))
 rotate_left
 all_goals
  first|(unfold burstOk;rw[all_no (by assumption:(burstL a s b)[i]?=some _) (page_no (by assumption:(burstL a s b)[0]?=some _) (by assumption))];rfl;done)|(unfold burstOk;rw[all_end hi.2 (by omega)];simp;done)
theorem c_180 (a s b:Int):CV prg 180 [.w (.int .i64 a),.w (.int .i64 s),.w (.int .i64 b)] (fun res=>res=.w (.bool (burstOk a s b))):=by
 have hlen:=burstL_le a s b
 refine cv_in g180 (Ei [0,1,2] Y (Et (Ea Y (z_q [0,1,2] Y (Ea Y (Ea Y (Ea Y (Ev Y Y (c_179 ..) (Ea Y (Em [7] Y (Ey (Et (Ea Y (Em [7,8] Y (Fh (S_loop0 (ι:=Nat) (fun i=>i≤(burstL a s b).length∧((burstL a s b).take i).all (onPage (burstL a s b))=true) (fun i=>[(8,.w (.int .i64 (i:Int)))]) (fun i=>(burstL a s b).length-i) 0 (by simp) Y ⟨Y,trivial⟩ (fun _ _=>Y) Y ?_))))))))))))))))
 intro i hi
 refine Ei [7,8] Y (Ey (Et (Ea Y (Ea Y (Fw Y (u_lss Y Y (Em [7,8,16] Y (Ew Y ?_ ?_))))))))
 intro h1
 refine z_s [7,8] Y (Ey (Fh (Et (Ea Y (Ea Y (s_iaM Y Y (by omega) ?_))))))
 intro y2 e2
 simp only[Int.toNat_natCast,Int.toNat_zero] at e2
 refine u_ld Y Y (u_quo Y Y (by decide) (Ea Y (s_iaM Y Y (by omega) ?_)))
 intro y3 e3
 simp only[Int.toNat_natCast,Int.toNat_zero] at e3
 refine u_ld Y Y (u_quo Y Y (by decide) (u_neq Y Y (Em [7,8,28] Y (Ew Y ?_ ?_))))
 intro h4
 refine Et (Ea Y (Em [6] Y (Eh (Fc (Ep (q_loopR (Fc (Ep (Ef Y Y ?_)))))))))
 rotate_left
 intro h4
 rw[nnp] at h4
 refine Fr (Fb (Eu (Ei [7,8] Y (Fs (Ea Y (Fa (Fn Y Y (by omega)) (Ea Y (Ez (Fp ?_)))))))))
 ·exact⟨i+1,⟨by omega,all_take (by assumption:(burstL a s b)[i]?=some _) hi.2 (page_is (by assumption:(burstL a s b)[0]?=some _) (by assumption))⟩,by omega,hasOf ⟨rfl,trivial⟩ rfl⟩
 intro h1
 refine s_exit (q_seqX (q_loopX (q_blkH (Eu (Ei [7] Y (Et (Ea Y (Fw Y (u_gtr Y Y (Ea Y (Em [6] Y (Eh (Ef Y Y ?_)))))))))))))
 rotate_left
 all_goals
  first|(unfold burstOk;rw[all_no (by assumption:(burstL a s b)[i]?=some _) (page_no (by assumption:(burstL a s b)[0]?=some _) (by assumption))];rfl;done)|(unfold burstOk;rw[all_end hi.2 (by omega)];simp;done)
theorem c_266 (xs:List Int) (hl:xs.length≤140737488355328) (f:Nat) (caps:List V) (hc:caps.all (V.fzV 5)=true) (p:Int→Bool) (h:∀ y,y∈xs→CV prg f (.w (.int .i64 y)::caps) (fun v=>v=.w (.bool (p y)))):CV prg 266 [.sl 1 (xs.map iR),.fn f caps] (fun res=>res=.w (.int .i64 (idxOf p xs))):=by
 refine cv_in g266 (Ei [0,1] Y (Et (Ea Y (Em [0,1] Y (Ey (Et (Ea Y (Fw Y (Ea Y (Em [0,1,7,8] Y (Fh (S_loop0 (ι:=Nat) (fun i=>i≤xs.length∧(xs.take i).any p=false) (fun i=>[(8,.w (.int .i64 (i:Int)))]) (fun i=>xs.length-i) 0 (by simp) Y ⟨Y,trivial⟩ (fun _ _=>Y) Y ?_))))))))))))
 intro i hi
 refine Ei [0,1,7,8] Y (Et (u_lss Y Y (Em [0,1,7,8,9] Y (Ey (Ew Y ?_ ?_)))))
 intro h1
 refine z_s [0,1,7,8] Y (Ey (Fh (Et (Ea Y (Ea Y (Em [0,1,5,7,8] Y ?_))))))
 refine Et (Ea Y (Ea Y (Ea Y (s_iaM Y Y (by simp at *;omega) ?_))))
 intro y2 e2
 simp only[Int.toNat_natCast,Int.toNat_zero] at e2
 refine u_ld Y Y (s_calli Y Y (fz1 Y hc) (h _ (List.mem_of_getElem? (by assumption))) (Em [0,1,5,7,8,16] Y (s_condB Y ?_ ?_)))
 intro h3
 refine Et (Ea Y (Ea Y (Em [4] Y (Eh (Fc (Ep (q_loopR (Fc (Ep (Fe Y Y ?_))))))))))
 rotate_left
 intro h3
 refine Fr (Fb (Eu (Ei [0,1,7,8] Y (Fs (Fa (Fn Y Y (by omega)) (Ea Y (Ez (Fp ?_))))))))
 ·exact⟨i+1,⟨by omega,any_take (by assumption) hi.2 (by assumption)⟩,by omega,hasOf ⟨rfl,trivial⟩ rfl⟩
 intro h1
 refine s_exit (q_seqX (q_loopX (q_blkH (Eu (Ei [] Y (Et (Ea Y (Em [4] Y (Eh (Fe Y Y ?_))))))))))
 rotate_left
 all_goals
  first|exact(idxOf_at (by assumption) hi.2 (by assumption)).symm|exact(idxOf_no (any_end hi.2 (by omega))).symm
theorem c_257 (xs:List Int) (hl:xs.length≤140737488355328) (f:Nat) (caps:List V) (hc:caps.all (V.fzV 5)=true) (p:Int→Bool) (h:∀ y,y∈xs→CV prg f (.w (.int .i64 y)::caps) (fun v=>v=.w (.bool (p y)))):CV prg 257 [.sl 1 (xs.map iR),.fn f caps] (fun res=>res=.w (.bool (xs.any p))):=by
 refine cv_in g257 (Ei [0,1] Y (Et (Ea Y (z_q [0,1] Y (Ea Y (Ea Y (Ev Y (fz2 Y hc) (c_266 _ (by assumption) _ _ hc _ h) (u_geq Y Y (Ea Y (Em [4] Y (Eh (Ef Y Y ?_))))))))))))
 rotate_left
 all_goals
  exact idxOf_any p xs
theorem c_271 (xs:List Req) (hl:xs.length≤140737488355328) (f:Nat) (caps:List V) (hc:caps.all (V.fzV 5)=true) (p:Req→Bool) (h:∀ y,y∈xs→CV prg f (.agg (Req.r y)::caps) (fun v=>v=.w (.bool (p y)))):CV prg 271 [.sl 6 (xs.map Req.r),.fn f caps] (fun res=>res=.w (.int .i64 (idxOf p xs))):=by
 refine cv_in g271 (Ei [0,1] Y (Et (Ea Y (Em [0,1] Y (Ey (Et (Ea Y (Fw Y (Ea Y (Em [0,1,7,8] Y (Fh (S_loop0 (ι:=Nat) (fun i=>i≤xs.length∧(xs.take i).any p=false) (fun i=>[(8,.w (.int .i64 (i:Int)))]) (fun i=>xs.length-i) 0 (by simp) Y ⟨Y,trivial⟩ (fun _ _=>Y) Y ?_))))))))))))
 intro i hi
 refine Ei [0,1,7,8] Y (Et (u_lss Y Y (Em [0,1,7,8,9] Y (Ey (Ew Y ?_ ?_)))))
 intro h1
 refine z_s [0,1,7,8] Y (Ey (Fh (Et (Ea Y (Ea Y (Em [0,1,5,7,8] Y ?_))))))
 refine Et (Ea Y (Ea Y (Ea Y (s_iaM Y Y (by simp at *;omega) ?_))))
 intro y2 e2
 simp only[Int.toNat_natCast,Int.toNat_zero] at e2
 refine u_ldn Y Y (s_calli Y Y (fz1 Y hc) (h _ (List.mem_of_getElem? (by assumption))) (Em [0,1,5,7,8,16] Y (s_condB Y ?_ ?_)))
 intro h3
 refine Et (Ea Y (Ea Y (Em [4] Y (Eh (Fc (Ep (q_loopR (Fc (Ep (Fe Y Y ?_))))))))))
 rotate_left
 intro h3
 refine Fr (Fb (Eu (Ei [0,1,7,8] Y (Fs (Fa (Fn Y Y (by omega)) (Ea Y (Ez (Fp ?_))))))))
 ·exact⟨i+1,⟨by omega,any_take (by assumption) hi.2 (by assumption)⟩,by omega,hasOf ⟨rfl,trivial⟩ rfl⟩
 intro h1
 refine s_exit (q_seqX (q_loopX (q_blkH (Eu (Ei [] Y (Et (Ea Y (Em [4] Y (Eh (Fe Y Y ?_))))))))))
 rotate_left
 all_goals
  first|exact(idxOf_at (by assumption) hi.2 (by assumption)).symm|exact(idxOf_no (any_end hi.2 (by omega))).symm
theorem c_260 (xs:List Req) (hl:xs.length≤140737488355328) (f:Nat) (caps:List V) (hc:caps.all (V.fzV 5)=true) (p:Req→Bool) (h:∀ y,y∈xs→CV prg f (.agg (Req.r y)::caps) (fun v=>v=.w (.bool (p y)))):CV prg 260 [.sl 6 (xs.map Req.r),.fn f caps] (fun res=>res=.w (.bool (xs.any p))):=by
 refine cv_in g260 (Ei [0,1] Y (Et (Ea Y (z_q [0,1] Y (Ea Y (Ea Y (Ev Y (fz2 Y hc) (c_271 _ (by assumption) _ _ hc _ h) (u_geq Y Y (Ea Y (Em [4] Y (Eh (Ef Y Y ?_))))))))))))
 rotate_left
 all_goals
  exact idxOf_any p xs
def Req.ok (x:Req):Bool:=burstOk x.addr x.size x.burst && decide ((x.data.length:Int)=if x.write then beats x.burst else 0) && x.data.all fun v=>inB v 0 (limit x.size-1)
theorem data_not (l:Int) (xs:List Int):(!xs.any (fun v=>!inB v 0 l))=xs.all (fun v=>inB v 0 l):=by
 induction xs with
 | nil=>rfl
 | cons m xs ih=>simp only[List.any_cons,List.all_cons,Bool.not_or,Bool.not_not,ih]
theorem c_67 (d:Int) (x:Req):CV prg 67 [.w (.int .i64 d),.rp x.r 0] (fun res=>res=.w (.bool (!inB d 0 (limit x.size-1)))):=by
 refine cv_in g67 (Ei [0,1] Y (Et (Ea Y (z_q [0,1] Y (Ea Y (u_fa Y (u_ld Y Y (Ev Y Y (c_92 ..) (Fk Y (Ea Y (Em [3] Y (Eh (Ef Y Y ?_)))))))))))))
 rotate_left
 all_goals
  rfl
theorem c_66 (x:Req) (hs:x.small):CV prg 66 [.agg x.r] (fun res=>res=.w (.bool x.ok)):=by
 have hd:x.data.length≤1048576:=hs
 refine cv_in g66 (Ei [0] Y (Et (u_box Y Y Y (Ea Y (z_q [1] Y (Ea Y (Em [1,3] Y (Ey (Et (Ee Y (Ej Y Y Y (Em [1,3,5] Y (s_condB Y ?_ ?_)))))))))))))
 intro h1
 refine Fs (Ee Y (Ej Y Y Y (Ev Y Y (c_22 ..) (Ea Y (z_q [1,3] Y (Ee Y (Ej Y Y Y (Ee Y (Ej Y Y Y (Ee Y (Ej Y Y Y (Ev Y Y (c_30 ..) (Ea Y (s_gB Y ?_ ?_))))))))))))))
 intro h2
 refine Ee Y (Ec Y (Ej Y Y Y (Ec Y (Fw Y (Ec Y (Ea Y (Ec Y (Fm Y Y (Eg Y Y (Ek (is:=[1,22]) Y (Ea Y (Ft Y ?_ ?_))))))))))))
 intro h3
 refine Ee Y (Ec Y (Ej Y Y Y (Ec Y (Fa (o_fn Y) (Ec Y (s_callL Y Y (by simp) (c_257 _ (by omega) _ _ Y (fun d=>!inB d 0 (limit x.size-1)) (fun y _=>c_67 y x)) Y (Ec Y (Fk Y (Eg Y Y (Ea Y (Em [2] Y (Eh (Ef Y Y ?_)))))))))))))
 rotate_left
 intro h3
 refine Eb Y (Eb Y (Eb Y (Eb Y (Eb Y (Ed Y Y (Ea Y (Em [2] Y (Eh (Ef Y Y ?_)))))))))
 rotate_left
 intro h2
 refine Eb Y (Eb Y (Eb Y (Eb Y (Eb Y (Ed Y Y (Ek (is:=[1,22]) Y (Ea Y (Eb Y (Eb Y (Eb Y (Eb Y (Eb Y (Ed Y Y (Ea Y (Em [2] Y (Eh (Ef Y Y ?_)))))))))))))))))
 rotate_left
 intro h1
 refine z_s [1,3] Y (Et (Ee Y (Ej Y Y Y (Ee Y (Ej Y Y Y (Ee Y (Ej Y Y Y (Ev Y Y (c_30 ..) (Ea Y (s_gB Y ?_ ?_))))))))))
 intro h4
 refine Ee Y (Ec Y (Ej Y Y Y (Ec Y (Fw Y (Ec Y (Ea Y (Ec Y (Fm Y Y (Eg Y Y (Ek (is:=[1,22]) Y (Ea Y (Ft Y ?_ ?_))))))))))))
 intro h5
 refine Ee Y (Ec Y (Ej Y Y Y (Ec Y (Fa (o_fn Y) (Ec Y (s_callL Y Y (by simp) (c_257 _ (by omega) _ _ Y (fun d=>!inB d 0 (limit x.size-1)) (fun y _=>c_67 y x)) Y (Ec Y (Fk Y (Eg Y Y (Ea Y (Em [2] Y (Eh (Ef Y Y ?_)))))))))))))
 rotate_left
 intro h5
 refine Eb Y (Eb Y (Eb Y (Eb Y (Eb Y (Ed Y Y (Ea Y (Em [2] Y (Eh (Ef Y Y ?_)))))))))
 rotate_left
 intro h4
 refine Eb Y (Eb Y (Eb Y (Eb Y (Eb Y (Ed Y Y (Ek (is:=[1,22]) Y (Ea Y (Eb Y (Eb Y (Eb Y (Eb Y (Eb Y (Ed Y Y (Ea Y (Em [2] Y (Eh (Ef Y Y ?_)))))))))))))))))
 rotate_left
 all_goals
  first|(rw[data_not];simp_all [Req.ok];done)|(simp_all [Req.ok];done)
theorem c_207 (x:Req) (hs:x.small):CV prg 207 [.agg x.r] (fun res=>res=.w (.bool x.ok)):=by
 have hd:x.data.length≤1048576:=hs
 have hz:=limit_bd x.size
 refine cv_in g207 (Ei [0] Y (Et (u_box Y Y Y (Ea Y (Em [1] Y (Ey (Et (Ee Y (Ej Y Y Y (Ee Y (Ej Y Y Y (Ee Y (Ej Y Y Y (Ev Y Y (c_180 ..) (Fk Y (Em [1,11] Y (s_condNB Y ?_ ?_)))))))))))))))))
 intro h1
 refine Et (Ea Y (Em [2] Y (Eh (Ep (Ef Y Y ?_)))))
 rotate_left
 intro h1
 refine z_s [1] Y (Ey (Et (Ea Y (Em [1,3] Y (Fh (S_loop0 (ι:=Nat) (fun i=>i≤x.data.length∧(x.data.take i).all (fun v=>inB v 0 (limit x.size-1))=true) (fun i=>[(3,.w (.int .i64 (i:Int)))]) (fun i=>x.data.length-i) 0 (by simp) Y ⟨Y,trivial⟩ (fun _ _=>Y) Y ?_))))))
 intro i hi
 refine Ei [1,3] Y (Ey (Et (Ea Y (Ee Y (Ej Y Y Y (Fw Y (u_lss Y Y (Em [1,3,16] Y (Ew Y ?_ ?_)))))))))
 intro h2
 refine z_s [1,3] Y (Ey (Fh (Et (Ee Y (Ej Y Y Y (Ea Y (s_iaM Y Y (by omega) ?_)))))))
 intro y3 e3
 simp only[Int.toNat_natCast,Int.toNat_zero] at e3
 refine u_ld Y Y (Ee Y (Ej Y Y Y (Ev Y Y (c_201 ..) (Fa (o_subn Y Y (by omega)) (Ev Y Y (c_230 ..) (Fk Y (Em [1,3,29] Y (s_condNB Y ?_ ?_))))))))
 intro h4
 refine Et (Ea Y (Em [2] Y (Eh (Fc (Ep (q_loopR (Fc (Ep (Ef Y Y ?_)))))))))
 rotate_left
 intro h4
 refine Fr (Fb (Eu (Ei [1,3] Y (Fs (Ea Y (Fa (Fn Y Y (by omega)) (Ea Y (Ez (Fp ?_)))))))))
 ·exact⟨i+1,⟨by omega,all_take (by assumption) hi.2 (by assumption)⟩,by omega,hasOf ⟨rfl,trivial⟩ rfl⟩
 intro h2
 refine s_exit (q_seqX (q_loopX (q_blkH (Eu (Ei [1] Y (Et (Ee Y (Ej Y Y Y (Fw Y (Fm Y Y (Ea Y (Ft Y ?_ ?_))))))))))))
 intro h5
 refine Ee Y (Ec Y (Ej Y Y Y (Ec Y (Fk Y (Eg Y Y (Ea Y (s_gNF Y ?_ ?_)))))))
 intro h6
 refine Ee Y (Ec Y (Ej Y Y Y (Ec Y (Fw Y (Ec Y (Ee Y (Ek (is:=[1,39,42,43]) Y (Ec Y (Ej Y Y Y (Ec Y (Ev Y Y (c_173 ..) (Ec Y (Fm Y Y (Ec Y (Ea Y (Ft Y ?_ ?_))))))))))))))))
 intro h7
 refine Ee Y (Ec Y (Ej Y Y Y (Ec Y (Eg Y Y (Ed Y Y (Ea Y (Em [2] Y (Eh (Ef Y Y ?_)))))))))
 rotate_left
 intro h7
 refine Eb Y (Eb Y (Ec Y (Ed Y Y (Ed Y Y (Ea Y (Em [2] Y (Eh (Ef Y Y ?_))))))))
 rotate_left
 intro h6
 refine Eb Y (Eb Y (Eb Y (Eb Y (Ek (is:=[1,39,42,43]) Y (Eb Y (Eb Y (Eb Y (Eb Y (Ff Y (Ff Y (Eb Y (Eg Y Y (Ea Y (Em [2] Y (Eh (Ef Y Y ?_))))))))))))))))
 rotate_left
 intro h5
 refine Eb Y (Eb Y (Eb Y (Ed Y Y (Ea Y (Ec Y (Ee Y (Ec Y (Ej Y Y Y (Ec Y (Fw Y (Ec Y (Ee Y (Ek (is:=[1,39,42,43]) Y (Ec Y (Ej Y Y Y (Ec Y (Ev Y Y (c_173 ..) (Ec Y (Fm Y Y (Ec Y (Ea Y (Ft Y ?_ ?_))))))))))))))))))))))
 intro h8
 refine Ee Y (Ec Y (Ej Y Y Y (Ec Y (Eg Y Y (Ed Y Y (Ea Y (Em [2] Y (Eh (Ef Y Y ?_)))))))))
 rotate_left
 intro h8
 refine Eb Y (Eb Y (Ec Y (Ed Y Y (Ed Y Y (Ea Y (Em [2] Y (Eh (Ef Y Y ?_))))))))
 rotate_left
 all_goals
  first|(unfold Req.ok;rw[all_no (by assumption) (by assumption)];simp;done)|(have ha:=all_end hi.2 (by omega);clear hi;cases hw:x.write <;> simp_all [Req.ok];done)|(simp_all [Req.ok];done)
def Mst.beats (m:Mst):Int:=match m.queue[0]? with|some r=>AL.beats r.burst|none=>0
def Mst.right (m:Mst):Bool:=decide (m.queue.length≤4) && decide (0≤m.tries) && m.queue.all Req.ok &&
 (if m.queue.length=0 then decide (m.beat=0) && decide (m.done=0) && decide (m.tries=0) && !m.parted && !m.broken else inB m.done 0 (m.beats-1) && inB m.beat m.done (min (m.done+2) m.beats))
theorem Mst.beats_bd (m:Mst):0≤m.beats∧m.beats≤8:=by
 unfold Mst.beats
 split
 ·exact AL.beats_bd _
 ·simp
theorem Mst.beats_ne {m:Mst} (h:0<m.beats):0<m.queue.length:=by
 unfold Mst.beats at h
 split at h
 ·rename_i r hr;exact(List.getElem?_eq_some_iff.1 hr).1
 ·omega
theorem Mst.beats_nil {m:Mst} (h:m.queue.length=0):m.beats=0:=by
 unfold Mst.beats
 rw[List.getElem?_eq_none (by omega)]
theorem Mst.beats_at {m:Mst} {r:Req} (h:m.queue[0]?=some r):m.beats=AL.beats r.burst:=by unfold Mst.beats;rw[h]
theorem mst_ix1 {m:Mst} {beat:Int} (h:inB beat 0 (m.beats-1)=true):(0:Int)≤0∧(0:Int)<m.queue.length:=by
 have h1:=inB_t h
 have:=Mst.beats_ne (m:=m) (by omega)
 omega
theorem Mst.right_ok {m:Mst} (h:m.right=true) {i:Nat} {r:Req} (hr:m.queue[i]?=some r):r.ok=true:=by
 simp only[Mst.right,Bool.and_eq_true] at h
 exact List.all_eq_true.1 h.1.2 r (List.mem_of_getElem? hr)
theorem Req.ok_burst {r:Req} (h:r.ok=true):((burstL r.addr r.size r.burst).length:Int)=AL.beats r.burst:=by
 simp only[Req.ok,burstOk,Bool.and_eq_true,decide_eq_true_eq] at h
 have h1:=burstL_len r.addr r.size r.burst
 have h2:=AL.beats_bd r.burst
 omega
theorem mst_ix2 {m:Mst} {beat:Int} {r:Req} (h1:m.right=true) (h:inB beat 0 (m.beats-1)=true) (hq:m.queue[0]?=some r):0≤beat∧beat<((burstL r.addr r.size r.burst).length:Int):=by
 have h2:=inB_t h
 rw[Req.ok_burst (Mst.right_ok h1 hq),←Mst.beats_at hq]
 omega
def Mst.addrAt (m:Mst) (beat:Int):Int:=if m.right && inB beat 0 (m.beats-1) then(match m.queue[0]? with|some r=>((burstL r.addr r.size r.burst)[beat.toNat]?).getD 0|none=>0) else -1
theorem req_not (xs:List Req):(!xs.any (fun r=>!r.ok))=xs.all Req.ok:=by
 induction xs with
 | nil=>rfl
 | cons m xs ih=>simp only[List.any_cons,List.all_cons,Bool.not_or,Bool.not_not,ih]
theorem req_any (xs:List Req):xs.any (fun r=>!r.ok) = !xs.all Req.ok:=by rw[←req_not,Bool.not_not]
theorem c_18 (m:Mst):CV prg 18 [.rp m.r 0] (fun res=>res=.w (.int .i64 m.beats)):=by
 refine cv_in g18 (Ei [0] Y (Et (Ea Y (Em [0] Y (Ey (Et (Ea Y (Fo Y (u_fa Y (u_ld Y Y (Fw Y (Fm Y Y (Em [0,8] Y (Ew Y ?_ ?_))))))))))))))
 intro h1
 refine Et (Ea Y (Em [2] Y (Eh (Ep (Fe Y Y ?_)))))
 rotate_left
 intro h1
 refine z_s [0] Y (Et (Ea Y (Fo Y (u_fa Y (u_ld Y Y (s_iaM Y Y (by omega) ?_))))))
 intro y2 e2
 simp only[Int.toNat_natCast,Int.toNat_zero] at e2
 refine u_fa Y (u_ld Y Y (Ev Y Y (c_22 ..) (Ea Y (Em [2] Y (Eh (Fe Y Y ?_))))))
 rotate_left
 all_goals
  first|exact(Mst.beats_at (by assumption)).symm|exact(Mst.beats_nil (by omega)).symm
theorem c_89 (r:Req) (hs:r.small):CV prg 89 [.agg r.r] (fun res=>res=.w (.bool (!r.ok))):=by
 refine cv_in g89 (Ei [0] Y (Et (u_box Y Y Y (Ea Y (z_q [1] Y (En Y Y Y (Ev Y Y (c_66 _ (by assumption)) (Fk Y (Ea Y (Em [2] Y (Eh (Ef Y Y ?_))))))))))))
 rotate_left
 all_goals
  rfl
theorem c_88 (m:Mst) (hs:m.small):CV prg 88 [.agg m.r] (fun res=>res=.w (.bool m.right)):=by
 have hbb:=m.beats_bd
 refine cv_in g88 (Ei [0] Y (Et (u_box Y Y Y (Ea Y (Em [1] Y (Ey (Et (Ee Y (Ej Y Y Y (Fw Y (u_gtr Y Y (Ea Y (s_gDF Y ?_ ?_)))))))))))))
 intro h1
 refine Ee Y (Ec Y (Ej Y Y Y (Ec Y (u_lss Y Y (Ed Y Y (Ea Y (s_gDF Y ?_ ?_)))))))
 intro h2
 refine Ee Y (Ec Y (Ej Y Y Y (Ec Y (Ev Y Y (c_260 _ (by have:=hs.1;omega) _ _ Y (fun r=>!r.ok) (fun y hy=>c_89 y (hs.2 y hy))) (Ed Y Y (Em [1,16] Y ?_))))))
 refine s_condB Y ?_ ?_
 intro h3
 refine Et (Ea Y (Em [2] Y (Eh (Ep (Ef Y Y ?_)))))
 rotate_left
 intro h3
 refine z_s [1] Y (Ey (Et (Ee Y (Ej Y Y Y (Fw Y (Fm Y Y (Em [1,20] Y (Ew Y ?_ ?_))))))))
 intro h4
 refine Et (Ee Y (Ej Y Y Y (Fm Y Y (Ea Y (Ft Y ?_ ?_)))))
 intro h5
 refine Ee Y (Ec Y (Ej Y Y Y (Ec Y (Fm Y Y (Eg Y Y (Ea Y (Ft Y ?_ ?_)))))))
 intro h6
 refine Ee Y (Ec Y (Ej Y Y Y (Ec Y (Fm Y Y (Eg Y Y (Ea Y (Ek (is:=[1,34]) Y (Ft Y ?_ ?_))))))))
 intro h7
 refine Ee Y (Ec Y (Ej Y Y Y (Ec Y (Fk Y (Eg Y Y (Ea Y (s_gNT Y ?_ ?_)))))))
 intro h8
 refine Ee Y (Ec Y (Ej Y Y Y (Ec Y (Fk Y (Eg Y Y (Ea Y (Em [2] Y (Eh (Ep (Ef Y Y ?_))))))))))
 rotate_left
 intro h8
 refine Eb Y (Eb Y (Eb Y (Ed Y Y (Ea Y (Em [2] Y (Eh (Ep (Ef Y Y ?_))))))))
 rotate_left
 intro h7
 refine Eb Y (Eb Y (Eb Y (Ed Y Y (Ea Y (Eb Y (Eb Y (Eb Y (Ed Y Y (Ea Y (Em [2] Y (Eh (Ep (Ef Y Y ?_)))))))))))))
 rotate_left
 intro h6
 refine Eb Y (Eb Y (Eb Y (Ed Y Y (Ea Y (Ek (is:=[1,34]) Y (Eb Y (Eb Y (Eb Y (Ed Y Y (Ea Y (Eb Y (Eb Y (Eb Y (Ed Y Y (Ea Y (Em [2] Y (Eh (Ep (Ef Y Y ?_)))))))))))))))))))
 rotate_left
 intro h5
 refine Eb Y (Eb Y (Eb Y (Ed Y Y (Ea Y (Eb Y (Eb Y (Eb Y (Ed Y Y (Ea Y (Ek (is:=[1,34]) Y (Eb Y (Eb Y (Eb Y (Ed Y Y (Ea Y (Eb Y (Eb Y (Eb Y (Ed Y Y (Ea Y (Em [2] Y (Eh (Ep (Ef Y Y ?_))))))))))))))))))))))))
 rotate_left
 intro h4
 refine z_s [1] Y (Et (Ee Y (Ej Y Y Y (s_callL Y Y (by simp) (c_18 m) Y (Fa (o_subn Y Y (by omega)) (Ev Y Y (c_103 ..) (Ea Y (s_gB Y ?_ ?_))))))))
 intro h9
 have h9':=inB_t h9
 refine Ee Y (Ec Y (Ej Y Y Y (Ec Y (Ee Y (Ec Y (Ej Y Y Y (Ec Y (Ee Y (Ec Y (Ej Y Y Y (Ec Y (Fa (Fn Y Y (by omega)) (Ec Y (s_callL Y Y (by simp) (c_18 m) Y (Ek (is:=[49,51,53,56,57]) Y (Ec Y (u_mn Y (Ec Y (Ev Y Y (c_103 ..) (Eg Y Y (Ea Y (Em [2] Y (Eh (Ef Y Y ?_))))))))))))))))))))))))
 rotate_left
 intro h9
 iterate 8 refine Eb rfl ?_
 refine Ek (is:=[49,51,53,56,57]) Y (Eb Y (Eb Y (Ed Y Y (Ea Y (Em [2] Y (Eh (Ef Y Y ?_)))))))
 rotate_left
 intro h2
 refine Eb Y (Eb Y (Eb Y (Eg Y Y (Em [1,16] Y (Fd Y (Et (Ea Y (Em [2] Y (Eh (Ep (Ef Y Y ?_)))))))))))
 rotate_left
 intro h1
 refine Eb Y (Eb Y (Eb Y (Eg Y Y (Ea Y (Eb Y (Eb Y (Eb Y (Eg Y Y (Em [1,16] Y (Fd Y (Et (Ea Y (Em [2] Y (Eh (Ep (Ef Y Y ?_))))))))))))))))
 rotate_left
 all_goals
  clear hs
  try simp only[req_any] at *
  unfold Mst.right
  generalize m.queue.all Req.ok=z at *
  generalize m.queue.length=n at *
  first|(simp_all [minL2];done)|(simp_all [minL2] <;> omega)
theorem c_59 (m:Mst) (hs:m.small):CV prg 59 [.agg m.r] (fun res=>res=.w (.bool (m.right && decide (m.beat<m.beats)))):=by
 refine cv_in g59 (Ei [0] Y (Et (u_box Y Y Y (Ea Y (z_q [1] Y (En Y Y Y (Ev Y Y (c_88 _ (by assumption)) (Ea Y (s_gB Y ?_ ?_)))))))))
 intro h1
 refine Ee Y (Ec Y (Ej Y Y Y (Ec Y (s_callL Y Y (by simp) (c_18 m) Y (Ec Y (u_lss Y Y (Eg Y Y (Ea Y (Em [2] Y (Eh (Ef Y Y ?_)))))))))))
 rotate_left
 intro h1
 refine Eb Y (Eb Y (Eb Y (Eb Y (Ed Y Y (Ea Y (Em [2] Y (Eh (Ef Y Y ?_))))))))
 rotate_left
 all_goals
  simp_all
theorem c_54 (m:Mst) (beat:Int) (hs:m.small):CV prg 54 [.agg m.r,.w (.int .i64 beat)] (fun res=>res=.w (.int .i64 (m.addrAt beat))):=by
 have hbb:=m.beats_bd
 refine cv_in g54 (Ei [0,1] Y (Et (u_box Y Y Y (Ea Y (Em [1,2] Y (Ey (Et (En Y Y Y (Ev Y Y (c_88 _ (by assumption)) (Fk Y (Ea Y (s_gNF Y ?_ ?_))))))))))))
 intro h1
 refine Ea Y (Ec Y (s_callL Y Y (by simp) (c_18 m) Y (Ec Y (Fa (o_subn Y Y (by omega)) (Ec Y (Ev Y Y (c_103 ..) (Ec Y (Fk Y (Ed Y Y (Em [1,2,15] Y (s_condNB Y ?_ ?_)))))))))))
 intro h2
 refine Et (Ea Y (Em [4] Y (Eh (Ep (Fe Y Y ?_)))))
 rotate_left
 intro h2
 refine z_s [1,2] Y (Et (Ee Y (Ej Y Y Y (s_iaM Y Y (by exact mst_ix1 (by assumption)) ?_))))
 intro y3 e3
 simp only[Int.toNat_natCast,Int.toNat_zero] at e3
 refine u_ldn Y Y (Fu Y Y (Eo (Er Y Y Y Y Y Y Y) (z_q [1,5] Y (Ee Y (Ej Y Y Y (Ee Y (Ej Y Y Y (Ee Y (Ej Y Y Y (Ev Y Y (c_29 ..) (Ea Y (s_iaM Y Y (by exact mst_ix2 (by assumption) (by assumption) (by assumption)) ?_))))))))))))
 intro y4 e4
 refine u_ld Y Y (Ea Y (Em [4] Y (Eh (Fe Y Y ?_))))
 rotate_left
 intro h1
 refine Eb Y (Eb Y (Eb Y (Eb Y (Eb Y (Eg Y Y (Em [1,2,15] Y (Fd Y (Et (Ea Y (Em [4] Y (Eh (Ep (Fe Y Y ?_)))))))))))))
 rotate_left
 all_goals
  clear hs;simp_all [Mst.addrAt]
def okAt (c:Conf) (s:Script) (i:Nat):Bool:=match s.posts[i]? with
 | some p=>inB p.moment 0 4000 && inB p.who 0 (c.masters.length-1) && p.req.ok && (match i with
   | 0=>true
   | j+1=>match s.posts[j]? with
     | some q=>decide (q.moment≤p.moment)
     | none=>true)
 | none=>true
def Script.ok (s:Script) (c:Conf):Bool:=c.ok && decide (s.posts.length≤20) && decide (s.waits.length≤20) && decide (s.says.length≤20) && (List.range s.posts.length).all (okAt c s)
theorem cast20 (n:Nat):((n:Int)≤20)↔n≤20:=by omega
theorem range_step {p:Nat→Bool} {i:Nat} (h:(List.range i).all p=true) (h2:p i=true):(List.range (i+1)).all p=true:=by
 rw[List.range_succ,List.all_append,h];simp [h2]
theorem range_no {p:Nat→Bool} {i n:Nat} (hi:i<n) (h2:p i=false):(List.range n).all p=false:=by
 rw[List.all_eq_false];exact⟨i,List.mem_range.2 hi,by simp [h2]⟩
theorem range_all {p:Nat→Bool} {i n:Nat} (h:(List.range i).all p=true) (hi:¬ (i:Int)<n) (hn:i≤n):(List.range n).all p=true:=by
 have:i=n:=by omega
 rw[←this];exact h
theorem okAt_z {c:Conf} {s:Script} {i:Nat} {p:Post} (hp:s.posts[i]?=some p) (h0:¬ (0:Int)<(i:Int)):okAt c s i=(inB p.moment 0 4000 && inB p.who 0 (c.masters.length-1) && p.req.ok):=by
 have:i=0:=by omega
 subst this;unfold okAt;rw[hp];simp
theorem okAt_s {c:Conf} {s:Script} {i:Nat} {p q:Post} (hp:s.posts[i]?=some p) (h0:(0:Int)<(i:Int)) (hq:s.posts[i-1]?=some q):okAt c s i=(inB p.moment 0 4000 && inB p.who 0 (c.masters.length-1) && p.req.ok && decide (q.moment≤p.moment)):=by
 obtain⟨j,rfl⟩:∃ j,i=j+1:=⟨i-1,by omega⟩
 unfold okAt;rw[hp];simp only[Nat.add_sub_cancel] at hq;simp [hq]
theorem okAt_n {c:Conf} {s:Script} {i:Nat} {p:Post} (hp:s.posts[i]?=some p) (h:inB p.moment 0 4000=false∨inB p.who 0 (c.masters.length-1)=false∨p.req.ok=false):okAt c s i=false:=by
 unfold okAt;rw[hp]
 rcases h with h|h|h <;> simp [h]
theorem c_212 (c:Conf) (x:Script) (hs:x.small) (hl:c.masters.length≤1048576):CV prg 212 [.agg c.r,.agg x.r] (fun res=>res=.w (.bool (x.ok c))):=by
 have hpl:=hs.1
 refine cv_in g212 (Ei [0,1] Y (Et (u_box Y Y Y (u_box Y Y Y (Ea Y (Em [2,3] Y (Ey (Et (Ea Y (Em [2,3,5] Y (Fh (S_loop0 (ι:=Nat) (fun i=>i≤x.posts.length∧(List.range i).all (okAt c x)=true) (fun i=>[(5,.w (.int .i64 (i:Int)))]) (fun i=>x.posts.length-i) 0 (by simp) Y ⟨Y,trivial⟩ (fun _ _=>Y) Y ?_))))))))))))
 intro i hi
 refine Ei [2,3,5] Y (Ey (Et (Ea Y (Ee Y (Ej Y Y Y (Fw Y (u_lss Y Y (Em [2,3,5,11] Y (Ew Y ?_ ?_)))))))))
 intro h1
 refine z_s [2,3,5] Y (Ey (Fh (Et (Ee Y (Ej Y Y Y (Ea Y (s_iaM Y Y (by omega) ?_)))))))
 intro y2 e2
 simp only[Int.toNat_natCast] at e2
 refine u_ldn Y Y (Fu Y Y (Eo (Er Y Y Y Y Y Y Y) (z_q [2,3,5,6] Y (Ee Y (Ej Y Y Y (Ev Y Y (c_230 ..) (Fk Y (Ea Y (s_gNF Y ?_ ?_)))))))))
 intro h3
 refine Ee Y (Ec Y (Ej Y Y Y (Ec Y (Ee Y (Ec Y (Ej Y Y Y (Ec Y (Fw Y (Ec Y (Fa (o_subn Y Y (by omega)) (Ec Y (Ev Y Y (c_230 ..) (Ec Y (Fk Y (Ed Y Y (Ek (is:=[2,3,5,6,24,25,26,27,28,29,30,31,32]) Y (Ea Y (s_gNF Y ?_ ?_))))))))))))))))))
 intro h4
 refine Ee Y (Ec Y (En Y Y Y (Ec Y (Ev Y Y (c_207 (Post.req _) (hs.2.1 _ (List.mem_of_getElem? (by assumption)))) (Ec Y (Fk Y (Ed Y Y (Ea Y (s_gNF Y ?_ ?_)))))))))
 intro h5
 refine Ea Y (Ec Y (u_gtr Y Y (Ec Y (Ea Y (Ft Y ?_ ?_)))))
 intro h6
 refine Ee Y (Ec Y (Ej Y Y Y (Ec Y (Ee Y (Ec Y (Ej Y Y Y (Ek (is:=[2,3,5,24,25,26,27,28,29,30,31,34,35,36,37,39,40,41,42,43,44,45,46]) Y (Ec Y (Ea Y (Ec Y (Fa (o_subn Y Y (by omega)) (Ec Y (s_iaM Y Y (by omega) ?_)))))))))))))
 intro y7 e7
 rw[show((i:Int)-1).toNat=i-1 by omega] at e7
 refine Ec Y (u_fa Y (Ec Y (u_ld Y Y (Ec Y (u_lss Y Y (Ec Y (Eg Y Y (Ed Y Y (Em [2,3,5,24,25,26,27,28,29,30,31,34,35,36,37,40,41,42,43,44,45,46,47,48,49,50,51,52,53,54] Y (Ew Y ?_ ?_))))))))))
 intro h8
 refine Et (Ea Y (Em [4] Y (Eh (Fc (Ep (q_loopR (Fc (Ep (Ef Y Y ?_)))))))))
 rotate_left
 intro h8
 refine Fr (Fb (Eu (Ei [2,3,5,24,25,26,27,28,29,30,31,34,35,36,37,40,41,42,43,44,45,46,47,48,49,50,51,52,53] Y (Fs (Ea Y (Fa (Fn Y Y (by omega)) (Ea Y (Ez (Fp ?_)))))))))
 ·exact⟨i+1,⟨by omega,range_step hi.2 (by rw[okAt_s (by assumption) (by assumption) (by assumption)];clear hi;simp_all)⟩,by omega,hasOf ⟨rfl,trivial⟩ rfl⟩
 intro h6
 refine Eb Y (Eb Y (Eb Y (Eb Y (Ek (is:=[2,3,5,24,25,26,27,28,29,30,31,34,35,36,37,39,40,41,42,43,44,45,46]) Y ?_))))
 iterate 6 refine Eb rfl ?_
 refine Ec Y (Ed Y Y (Ed Y Y (Em [2,3,5,24,25,26,27,28,29,30,31,34,35,36,37,40,41,42,43,44,45,46,47,48,49,50,51,52,53,54] Y (Fi Y (Fr (Fb (Eu (Ei [2,3,5,24,25,26,27,28,29,30,31,34,35,36,37,40,41,42,43,44,45,46,47,48,49,50,51,52,53] Y (Fs (Ea Y (Fa (Fn Y Y (by omega)) (Ea Y (Ez (Fp ?_))))))))))))))
 ·exact⟨i+1,⟨by omega,range_step hi.2 (by rw[okAt_z (by assumption) (by assumption)];clear hi;simp_all)⟩,by omega,hasOf ⟨rfl,trivial⟩ rfl⟩
 intro h5
 refine Eb Y (Eb Y (Eb Y (Ff Y (Ff Y (Ff Y (Ff Y (Ek (is:=[2,3,5,24,25,26,27,28,29,30,31,34,35,36,37,39,40,41,42,43,44,45,46]) Y ?_)))))))
 iterate 6 refine Ff rfl ?_
 refine Eb Y (Eg Y Y (Em [2,3,5,24,25,26,27,28,29,30,31,34,35,36,37,40,41,42,43,44,45,46,47,48,49,50,51,52,53,54] Y (Fd Y (Et (Ea Y (Em [4] Y (Eh (Fc (Ep (q_loopR (Fc (Ep (Ef Y Y ?_)))))))))))))
 rotate_left
 intro h4
 refine Eb Y (Eb Y (Eb Y (Eb Y (Eg Y Y (Ea Y (Eb Y (Eb Y (Eb Y (Ff Y (Ff Y (Ff Y (Ff Y (Ek (is:=[2,3,5,24,25,26,27,28,29,30,31,34,35,36,37,39,40,41,42,43,44,45,46]) Y ?_)))))))))))))
 iterate 6 refine Ff rfl ?_
 refine Eb Y (Eg Y Y (Em [2,3,5,24,25,26,27,28,29,30,31,34,35,36,37,40,41,42,43,44,45,46,47,48,49,50,51,52,53,54] Y (Fd Y (Et (Ea Y (Em [4] Y (Eh (Fc (Ep (q_loopR (Fc (Ep (Ef Y Y ?_)))))))))))))
 rotate_left
 intro h3
 iterate 8 refine Eb rfl ?_
 refine Eg Y Y (Ek (is:=[2,3,5,6,24,25,26,27,28,29,30,31,32]) Y (Ea Y (Eb Y (Eb Y (Eb Y (Eb Y (Eg Y Y (Ea Y (Eb Y (Eb Y (Eb Y (Ff Y (Ff Y (Ff Y (Ff Y (Ek (is:=[2,3,5,24,25,26,27,28,29,30,31,34,35,36,37,39,40,41,42,43,44,45,46]) Y ?_))))))))))))))))
 iterate 6 refine Ff rfl ?_
 refine Eb Y (Eg Y Y (Em [2,3,5,24,25,26,27,28,29,30,31,34,35,36,37,40,41,42,43,44,45,46,47,48,49,50,51,52,53,54] Y (Fd Y (Et (Ea Y (Em [4] Y (Eh (Fc (Ep (q_loopR (Fc (Ep (Ef Y Y ?_)))))))))))))
 rotate_left
 intro h1
 refine s_exit (q_seqX (q_loopX (q_blkH (Eu (Ei [2,3] Y (Et (En Y Y Y (Ev Y Y (c_184 _ (by assumption)) (Ea Y (s_gB Y ?_ ?_))))))))))
 intro h9
 refine Ee Y (Ec Y (Ej Y Y Y (Ec Y (Fw Y (Ec Y (u_leq Y Y (Eg Y Y (Ea Y (Ft Y ?_ ?_)))))))))
 intro h10
 refine Ee Y (Ec Y (Ej Y Y Y (Ec Y (Fw Y (Ec Y (u_leq Y Y (Eg Y Y (Ek (is:=[3,68]) Y (Ea Y (Ft Y ?_ ?_))))))))))
 intro h11
 refine Ee Y (Ec Y (Ej Y Y Y (Ec Y (Fw Y (Ec Y (u_leq Y Y (Eg Y Y (Ea Y (Em [4] Y (Eh (Ef Y Y ?_)))))))))))
 rotate_left
 intro h11
 refine Eb Y (Eb Y (Eb Y (Eb Y (Ed Y Y (Ea Y (Em [4] Y (Eh (Ef Y Y ?_))))))))
 rotate_left
 intro h10
 refine Eb Y (Eb Y (Eb Y (Eb Y (Ed Y Y (Ek (is:=[3,68]) Y (Ea Y (Eb Y (Eb Y (Eb Y (Eb Y (Ed Y Y (Ea Y (Em [4] Y (Eh (Ef Y Y ?_)))))))))))))))
 rotate_left
 intro h9
 refine Eb Y (Eb Y (Eb Y (Eb Y (Ed Y Y (Ea Y (Eb Y (Eb Y (Eb Y (Eb Y (Ed Y Y (Ek (is:=[3,68]) Y (Ea Y (Eb Y (Eb Y (Eb Y (Eb Y (Ed Y Y (Ea Y (Em [4] Y (Eh (Ef Y Y ?_)))))))))))))))))))))
 rotate_left
 all_goals
  clear hs;first|(unfold Script.ok;rw[range_no (by omega:i<x.posts.length) (okAt_n (by assumption) (by first|exact .inl (by assumption)|exact .inr (.inl (by assumption))|exact .inr (.inr (by assumption))))];simp;done)|(unfold Script.ok;rw[range_no (by omega:i<x.posts.length) (by rw[okAt_s (by assumption) (by assumption) (by assumption)];clear hi;simp;omega)];simp;done)|(unfold Script.ok;rw[range_all hi.2 (by assumption) hi.1];clear hi;simp_all;done)|(unfold Script.ok;rw[range_all hi.2 (by assumption) hi.1];clear hi;simp_all [cast20];done)|(simp_all [Script.ok] <;> omega)
theorem words_map {α:Type} (k:Nat) {r:α→List V} (xs:List α) (h:∀ y v,v∈r y→∃ x,v=.w x):(LB.arr k (xs.map r)).words:=by
 intro row hrow v hv
 obtain⟨y,_,rfl⟩:=List.mem_map.1 hrow
 exact h y v hv
def Wrr.hit (w:Wrr) (req:List Bool) (i:Nat):Bool:=(req[((w.pos+((i:Int)+1)).tmod req.length).toNat]?).getD false
def Wrr.pick (w:Wrr) (c:Conf) (req:List Bool):Wrr×Int:=if w.ok c && decide (req.length=c.masters.length) then
    (if decide (0<w.credit) && (req[w.pos.toNat]?).getD false then(⟨w.pos,IntKind.wrap .i64 (w.credit-1)⟩,w.pos)
     else match (List.range req.length).find? (w.hit req) with
      | some i=>(⟨(w.pos+((i:Int)+1)).tmod req.length,IntKind.wrap .i64 (c.turn ((w.pos+((i:Int)+1)).tmod req.length)-1)⟩,(w.pos+((i:Int)+1)).tmod req.length)
      | none=>(⟨w.pos,0⟩,-1))
 else(w,-1)
theorem wrr_ok {w:Wrr} {c:Conf} (h:w.ok c=true):0≤w.pos∧w.pos<c.masters.length:=by
 unfold Wrr.ok at h
 simp_all [inB]
 omega
theorem find_range {p:Nat→Bool} {i n:Nat} (h0:(List.range i).find? p=none) (hi:i<n) (hp:p i=true):(List.range n).find? p=some i:=by
 have e:n=i+(n-i):=by omega
 rw[e,List.range_add,List.find?_append,h0]
 have:n-i=(n-i-1)+1:=by omega
 rw[this,List.range_succ_eq_map]
 simp [hp]
def tupW (p:Wrr×Int):V:=.tup [.agg p.1.r,.w (.int .i64 p.2)]
theorem pick_no {w:Wrr} {c:Conf} {req:List Bool} (h:w.ok c=false∨¬ (req.length:Int)=c.masters.length):w.pick c req=(w,-1):=by
 unfold Wrr.pick
 rw[if_neg]
 simp only[Bool.and_eq_true,decide_eq_true_eq]
 rintro⟨h1,h2⟩
 rcases h with h|h
 ·rw[h] at h1;cases h1
 ·exact h (by omega)
theorem pick_stay {w:Wrr} {c:Conf} {req:List Bool} (h1:w.ok c=true) (h2:(req.length:Int)=c.masters.length) (h3:0<w.credit) (h4:req[w.pos.toNat]?=some true):w.pick c req=(⟨w.pos,IntKind.wrap .i64 (w.credit-1)⟩,w.pos):=by
 unfold Wrr.pick
 rw[if_pos (by simp [h1];omega),if_pos (by simp [h3,h4])]
theorem pick_hit {w:Wrr} {c:Conf} {req:List Bool} {i:Nat} {n:Int} (hn:n=req.length) (h1:w.ok c=true) (h2:(req.length:Int)=c.masters.length) (h3:¬ 0<w.credit∨req[w.pos.toNat]?=some false) (h0:(List.range i).find? (w.hit req)=none) (hi:i<req.length)
 (h4:req[((w.pos+((i:Int)+1)).tmod n).toNat]?=some true):w.pick c req=(⟨(w.pos+((i:Int)+1)).tmod n,IntKind.wrap .i64 (c.turn ((w.pos+((i:Int)+1)).tmod n)-1)⟩,(w.pos+((i:Int)+1)).tmod n):=by
 subst hn
 unfold Wrr.pick
 rw[if_pos (by simp [h1];omega),if_neg (by rcases h3 with h|h <;> simp [h]),find_range h0 hi (by unfold Wrr.hit;rw[h4];rfl)]
theorem pick_none {w:Wrr} {c:Conf} {req:List Bool} {i:Nat} (h1:w.ok c=true) (h2:(req.length:Int)=c.masters.length) (h3:¬ 0<w.credit∨req[w.pos.toNat]?=some false) (h0:(List.range i).find? (w.hit req)=none) (hi:i=req.length):w.pick c req=(⟨w.pos,0⟩,-1):=by
 subst hi
 unfold Wrr.pick
 rw[if_pos (by simp [h1];omega),if_neg (by rcases h3 with h|h <;> simp [h]),h0]
theorem hit_next {w:Wrr} {req:List Bool} {i:Nat} {n:Int} (hn:n=req.length) (h0:(List.range i).find? (w.hit req)=none) (h4:req[((w.pos+((i:Int)+1)).tmod n).toNat]?=some false):(List.range (i+1)).find? (w.hit req)=none:=by
 subst hn
 rw[List.range_succ,List.find?_append,h0]
 simp [Wrr.hit,h4]
theorem c_83 (w:Wrr) (x:Conf) (req:List Bool) (hl:x.masters.length≤1048576):CV prg 83 [.agg w.r,.agg x.r,.sl 1 (req.map bR)] (fun res=>res=.tup [.agg (w.pick x req).1.r,.w (.int .i64 (w.pick x req).2)]):=by
 refine cv_in g83 (Ei [0,1,2] Y (Et (u_box Y Y Y (u_box Y Y Y (Fu Y Y (Ea Y (z_q [2,3,4,6] Y (Ee Y (Ej Y Y Y (Fw Y (Ea Y (Em [2,3,4,6,8] Y (Ey (Et (En Y Y Y (En Y Y Y (Ev Y Y (c_82 _ _ (by assumption)) (Fk Y (Ea Y (s_gNF Y ?_ ?_))))))))))))))))))))
 intro h1
 have h1':=wrr_ok h1
 refine Ea Y (Ec Y (Fw Y (Ec Y (Ea Y (Ec Y (u_neq Y Y (Ed Y Y (Em [2,3,4,6,8,23] Y (Ew Y ?_ ?_)))))))))
 intro h2
 refine Et (En Y Y Y (Eo (Er Y Y Y Y Y Y Y) (Ea Y (Em [6,7] Y (Eh (Ep (Fq Y Y ?_)))))))
 rotate_left
 intro h2
 rw[nnp] at h2
 refine z_s [2,3,4,6,8] Y (Ey (Et (Ee Y (Ej Y Y Y (u_gtr Y Y (Ea Y (Ft Y ?_ ?_)))))))
 intro h3
 refine Ea Y (Ec Y (Ee Y (Ec Y (Ej Y Y Y (Ec Y (s_iaM Y Y (by omega) ?_))))))
 intro y4 e4
 refine Ec Y (u_ld Y Y (Eg Y Y (Em [2,3,4,6,8,34] Y (s_condB Y ?_ ?_))))
 intro h5
 refine Et (Ee Y (Ej Y Y Y (u_sub Y Y (Ee Y (Eo (o_stC Y Y Y Y Y Y) (Em [3,6] Y (Ey (s_rgH [2] Y (h_op (o_ldnC Y Y Y) Y (h_op (o_faC Y) Y (h_op (o_ldC Y Y Y) Y (h_stn Y Y Y Y Y (h_bar Y (Ea Y (Em [6,7] Y (Eh (Ep (Fq Y Y ?_))))))))))))))))))
 rotate_left
 intro h5
 refine z_s [2,3,4,6,8] Y (Ey (Et (Ea Y (Em [2,3,4,6,8,9] Y (Fh (S_loop (ι:=Nat) (fun i=>i≤req.length∧(List.range i).find? (w.hit req)=none) (fun i=>[(9,.w (.int .i64 ((i:Int)+1)))]) (fun i=>[.cell w.r,.cell x.r,.cell [.w (.int .i64 0),.w (.int .i64 0)]]) (fun i=>req.length-i) 3 0 ⟨by omega,by simp⟩ Y (hasOf ⟨Y,trivial⟩ Y) Y (fun _ _=>Y) (fun _ _=>⟨Y,Y⟩) ?_))))))
 intro i hi
 have hp1:=Int.tmod_nonneg (x.masters.length:Int) (show 0≤w.pos+((i:Int)+1) by omega)
 have hp2:=Int.tmod_lt_of_pos (w.pos+((i:Int)+1)) (show(0:Int)<x.masters.length by omega)
 have hp3:=Int.tmod_nonneg (req.length:Int) (show 0≤w.pos+((i:Int)+1) by omega)
 have hp4:=Int.tmod_lt_of_pos (w.pos+((i:Int)+1)) (show(0:Int)<req.length by omega)
 refine Ei [2,3,4,6,8,9] Y (Ey (Et (Ea Y (Ea Y (u_leq Y Y (Em [2,3,4,6,8,9,44] Y (Ew Y ?_ ?_)))))))
 intro h6
 refine z_s [2,3,4,6,8,9] Y (Ey (Fh (Et (Ee Y (Ej Y Y Y (Ea Y (Fa (Fn Y Y (by omega)) (Ea Y (u_rem Y Y (by omega) (Ea Y (z_q [2,3,4,6,8,9,10] Y (Ea Y (Ea Y (s_iaM Y Y (by omega) ?_))))))))))))))
 intro y7 e7
 refine u_ld Y Y (Em [2,3,4,6,8,9,10,56] Y (s_condB Y ?_ ?_))
 intro h8
 refine Et (Ea Y (En Y Y Y (Ea Y (Ev Y Y (c_77 _ _ (by assumption)) (u_sub Y Y (u_bd Y Y (Ea Y (Eo (Er Y Y Y Y Y Y Y) (Ea Y (Em [6,7] Y (Eh (Fc (Ep (q_loopR (Fc (Ep (Fq Y Y ?_)))))))))))))))))
 rotate_left
 intro h8
 refine Fr (Fb (Eu (Ei [2,3,4,6,8,9] Y (Fs (Ea Y (Fa (Fn Y Y (by omega)) (Ea Y (Ez (Fp ?_)))))))))
 ·refine⟨i+1,⟨by omega,hit_next (n:=x.masters.length) (by omega) hi.2 (by clear hi;simp_all)⟩,by omega,hasOf ⟨rfl,trivial⟩ rfl⟩
 intro h6
 refine s_exit (q_seqX (q_loopX (q_blkH (Eu (Ei [3,6] Y (Et (Ee Y (Eo (o_stC Y Y Y Y Y Y) (z_q [3,6] Y (En Y Y Y (Eo (Er Y Y Y Y Y Y Y) (Ea Y (Em [6,7] Y (Eh (Fq Y Y ?_)))))))))))))))
 rotate_left
 intro h3
 refine Eb Y (Eb Y (Eb Y (Eb Y (Eb Y (Ed Y Y (Em [2,3,4,6,8,34] Y (Fi Y (z_s [2,3,4,6,8] Y (Ey (Et (Ea Y (Em [2,3,4,6,8,9] Y (Fh (S_loop (ι:=Nat) (fun i=>i≤req.length∧(List.range i).find? (w.hit req)=none) (fun i=>[(9,.w (.int .i64 ((i:Int)+1)))]) (fun i=>[.cell w.r,.cell x.r,.cell [.w (.int .i64 0),.w (.int .i64 0)]]) (fun i=>req.length-i) 3 0 ⟨by omega,by simp⟩ Y (hasOf ⟨Y,trivial⟩ Y) Y (fun _ _=>Y) (fun _ _=>⟨Y,Y⟩) ?_))))))))))))))
 intro i hi
 have hp1:=Int.tmod_nonneg (x.masters.length:Int) (show 0≤w.pos+((i:Int)+1) by omega)
 have hp2:=Int.tmod_lt_of_pos (w.pos+((i:Int)+1)) (show(0:Int)<x.masters.length by omega)
 have hp3:=Int.tmod_nonneg (req.length:Int) (show 0≤w.pos+((i:Int)+1) by omega)
 have hp4:=Int.tmod_lt_of_pos (w.pos+((i:Int)+1)) (show(0:Int)<req.length by omega)
 refine Ei [2,3,4,6,8,9] Y (Ey (Et (Ea Y (Ea Y (u_leq Y Y (Em [2,3,4,6,8,9,44] Y (Ew Y ?_ ?_)))))))
 intro h9
 refine z_s [2,3,4,6,8,9] Y (Ey (Fh (Et (Ee Y (Ej Y Y Y (Ea Y (Fa (Fn Y Y (by omega)) (Ea Y (u_rem Y Y (by omega) (Ea Y (z_q [2,3,4,6,8,9,10] Y (Ea Y (Ea Y (s_iaM Y Y (by omega) ?_))))))))))))))
 intro y10 e10
 refine u_ld Y Y (Em [2,3,4,6,8,9,10,56] Y (s_condB Y ?_ ?_))
 intro h11
 refine Et (Ea Y (En Y Y Y (Ea Y (Ev Y Y (c_77 _ _ (by assumption)) (u_sub Y Y (u_bd Y Y (Ea Y (Eo (Er Y Y Y Y Y Y Y) (Ea Y (Em [6,7] Y (Eh (Fc (Ep (q_loopR (Fc (Ep (Fq Y Y ?_)))))))))))))))))
 rotate_left
 intro h11
 refine Fr (Fb (Eu (Ei [2,3,4,6,8,9] Y (Fs (Ea Y (Fa (Fn Y Y (by omega)) (Ea Y (Ez (Fp ?_)))))))))
 ·refine⟨i+1,⟨by omega,hit_next (n:=x.masters.length) (by omega) hi.2 (by clear hi;simp_all)⟩,by omega,hasOf ⟨rfl,trivial⟩ rfl⟩
 intro h9
 refine s_exit (q_seqX (q_loopX (q_blkH (Eu (Ei [3,6] Y (Et (Ee Y (Eo (o_stC Y Y Y Y Y Y) (z_q [3,6] Y (En Y Y Y (Eo (Er Y Y Y Y Y Y Y) (Ea Y (Em [6,7] Y (Eh (Fq Y Y ?_)))))))))))))))
 rotate_left
 intro h1
 refine Eb Y (Eb Y (Eb Y (Eb Y (Eg Y Y (Em [2,3,4,6,8,23] Y (Fd Y (Et (En Y Y Y (Eo (Er Y Y Y Y Y Y Y) (Ea Y (Em [6,7] Y (Eh (Ep (Fq Y Y ?_))))))))))))))
 rotate_left
 all_goals
  refine show _=tupW (w.pick x req) from ?_
  first|(rw[pick_no (.inr (by assumption))];rfl)|(rw[pick_no (.inl (by assumption))];rfl)|(rw[pick_stay (by assumption) (by assumption) (by assumption) (by simp_all;done)];rfl)|(rw[pick_hit (n:=x.masters.length) (by omega) (by assumption) (by assumption) (by first|exact .inl (by assumption)|exact .inr (by simp_all;done)) hi.2 (by omega) (by clear hi;simp_all;done)];rfl)|(rw[pick_none (by assumption) (by assumption) (by first|exact .inl (by assumption)|exact .inr (by simp_all;done)) hi.2 (by omega)];rfl)
def band (a b:Int):Int:=IntKind.wrap .i64 ((BitVec.ofInt 64 a &&& BitVec.ofInt 64 b).toNat:Nat)
def bxor (a b:Int):Int:=IntKind.wrap .i64 ((BitVec.ofInt 64 a ^^^ BitVec.ofInt 64 b).toNat:Nat)
theorem o_band {G:Prg} {q:Bool} {tl:Tl} {L:List LB} {x y a b} (hx:evE tl x=some (.w (.int .i64 a))) (hy:evE tl y=some (.w (.int .i64 b))):OpV G q (.bin .and x y) tl L (some (.w (.int .i64 (band a b)))) L:=
 o_bin hx hy rfl rfl
theorem o_bxor {G:Prg} {q:Bool} {tl:Tl} {L:List LB} {x y a b} (hx:evE tl x=some (.w (.int .i64 a))) (hy:evE tl y=some (.w (.int .i64 b))):OpV G q (.bin .xor x y) tl L (some (.w (.int .i64 (bxor a b)))) L:=
 o_bin hx hy rfl rfl
theorem band_bd (a:Int):0≤band a 255∧band a 255≤255:=by
 have h:(BitVec.ofInt 64 a &&& BitVec.ofInt 64 255).toNat≤255:=by
  rw[BitVec.toNat_and]
  exact Nat.le_trans Nat.and_le_right (by decide)
 unfold band
 rw[wrap_in _ (by omega)]
 omega
def cur (code:List Int) (i h:Int):LB:=.cell [.sl 1 (code.map uR),.w (.int .i64 i),.w (.int .i64 h)]
theorem tmod_bd {x n:Int} (hx:0≤x) (hn:0<n):0≤x.tmod n∧x.tmod n<n:=⟨Int.tmod_nonneg _ hx,Int.tmod_lt_of_pos _ hn⟩
theorem cg_231 (code:List Int) (hc:code.length≤1048576):GV prg 231 [] [.sl 1 (code.map uR)] (fun u L1=>u=.cp 0 0∧∃ h,L1=[cur code 0 h]):=by
 refine gv_in g231 (Ei [0] Y (Et (Ea Y (z_q [0] Y (Ea Y (Fw Y (Fa (Fn Y Y (by omega)) (Ea Y (Em [0,3] Y (Ey (Et (Ea Y (Em [0,3,4] Y (Fh ?_))))))))))))))
 refine S_loop (ι:=Nat×Int) (fun p=>p.1≤code.length) (fun p=>[(3,.w (.int .i64 p.2)),(4,.w (.int .i64 (p.1:Int)))]) (fun p=>[]) (fun p=>code.length-p.1) 0 (0,IntKind.wrap .i64 (10101+code.length)) (Nat.zero_le _) Y (hasOf ⟨by rw[wrap_in _ (by omega)];rfl,rfl,trivial⟩ Y) Y (fun _ _=>Y) (fun _ _=>⟨Y,Y⟩) ?_
 rintro⟨i,h⟩ hi
 have hi:i≤code.length:=hi
 refine Ei [0,3,4] Y ?_
 dsimp only
 refine Ey (Et (Ea Y (Ea Y (Fw Y (u_lss Y Y (Ea Y (Ft Y ?_ ?_)))))))
 intro h1
 refine Ea Y (Ec Y (u_lss Y Y (Eg Y Y (Em [0,3,4,13,14,15] Y (Ew Y ?_ ?_)))))
 intro h2
 refine z_s [0,3,4,13,14] Y (Ey (Fh (Fs (Ea Y (u_mul Y Y (Ea Y (Ea Y (s_iaM Y Y (by omega) ?_))))))))
 intro y3 e3
 simp only[Int.toNat_natCast,Int.toNat_zero] at e3
 refine u_ld Y Y (Fa (o_cvi Y) (u_add Y Y (u_add Y Y (Fa (o_band Y Y) (Ea Y (Ez (Fb (Eu (Ei [0,3,4,13,14] Y (Fs (Ea Y (Fa (Fn Y Y (by omega)) (Ea Y (Ez (Fp ?_)))))))))))))))
 ·exact⟨(i+1,_),by simp only;omega,by simp only;omega,hasOf ⟨rfl,rfl,trivial⟩ rfl⟩
 intro h2
 refine s_exit (q_seqX (q_loopX (q_blkH (Eu (Ei [0,3] Y (Et (Ea Y (Ea Y (u_bd Y Y (u_box Y Y Y (Ea Y (Em [2] Y (Eh ?_)))))))))))))
 rotate_left
 intro h1
 refine Eb Y (Eb Y (Ed Y Y (Em [0,3,4,13,14,15] Y (Fi Y (s_exit (q_seqX (q_loopX (q_blkH (Eu (Ei [0,3] Y (Et (Ea Y (Ea Y (u_bd Y Y (u_box Y Y Y (Ea Y (Em [2] Y (Eh ?_))))))))))))))))))
 rotate_left
 all_goals
  refine Fv [0] (.inr Y) Y Y Y Y (show(List.range 0++[0]).Nodup by decide) ?_
  exact⟨Y,_,Y⟩
theorem cg_229 (code:List Int) (hc:code.length≤1048576) (i h:Int) (hi:0≤i∧i≤code.length):GV prg 229 [cur code i h] [.cp 0 0] (fun u L1=>(∃ x,u=.w (.int .i64 x)∧0≤x∧x≤255)∧∃ (i h:Int),(0≤i∧i≤code.length)∧L1=[cur code i h]):=by
 refine gv_in g229 (Ei [0] Y (Et (Ea Y (z_q [0] Y (Ea Y (Ea Y (Fj Y (Ee Y (Ej Y Y Y (u_mul Y Y (u_add Y Y (Fj Y (Ee Y (Eo (o_stC Y Y Y Y Y Y) (z_q [0] Y (Ea Y (Fj Y (Ee Y (Ej Y Y Y ?_)))))))))))))))))))
 refine Fa (o_shr Y Y (by omega)) (Ea Y (Fj Y (Ee Y (Ej Y Y Y (Fa (o_shr Y Y (by omega)) (Fa (o_bxor Y Y) (Fa (o_band Y Y) (Ea Y (Em [0,3] Y (Ey (Et (Ea Y (Fj Y (Ee Y (Ej Y Y Y (Ea Y (Fj Y (Ee Y (Ej Y Y Y (Fw Y (u_lss Y Y (Em [0,3,34] Y (Ew Y ?_ ?_)))))))))))))))))))))))
 intro h1
 refine Et (Ea Y (Ea Y (Fj Y (Ee Y (Ej Y Y Y (Ea Y (Fj Y (Ee Y (Ej Y Y Y (s_iaM Y Y (by omega) ?_))))))))))
 intro y2 e2
 refine u_ld Y Y (Fa (o_cvi Y) (u_add Y Y (Fa (o_band Y Y) (Ea Y (Em [0,3] Y (Fs (Ea Y (Ea Y (Fj Y (Ee Y (Ej Y Y Y (Fa (Fn Y Y (by omega)) (Fj Y (Ee Y (Eo (o_stC Y Y Y Y Y Y) (z_q [3] Y (Ea Y (Ea Y (Em [2] Y (Eh ?_))))))))))))))))))))
 rotate_left
 intro h1
 refine z_s [3] Y (Et (Ea Y (Ea Y (Em [2] Y (Eh ?_)))))
 rotate_left
 all_goals
  refine Fv [] (.inr Y) Y Y Y Y (show(List.range 1++[]).Nodup by decide) ?_
  exact⟨⟨_,Y,band_bd _⟩,_,_,(by omega),Y⟩
theorem cg_228 (code:List Int) (hc:code.length≤1048576) (i h:Int) (hi:0≤i∧i≤code.length) (n:Int):GV prg 228 [cur code i h] [.cp 0 0,.w (.int .i64 n)] (fun u L1=>(∃ x,u=.w (.int .i64 x)∧(0<n→0≤x∧x<n)∧(n≤0→x=0))∧∃ (i h:Int),(0≤i∧i≤code.length)∧L1=[cur code i h]):=by
 refine gv_in g228 (Ei [0,1] Y (Et (Ea Y (Em [0,1] Y (Ey (Et (Ea Y (u_leq Y Y (Em [0,1,10] Y (Ew Y ?_ ?_))))))))))
 intro h1
 refine Et (Ea Y (Em [4] Y (Eh (Ep ?_))))
 rotate_left
 intro h1
 refine z_s [0,1] Y (Ey (Et (Ea Y (u_leq Y Y (Em [0,1,12] Y (Ew Y ?_ ?_))))))
 intro h2
 refine Et (Ea Y (Fg [0] Y Y Y Y (by simp) (.inl Y) (cg_229 _ hc _ _ hi) ?_))
 rintro u L1 ⟨⟨x,rfl,hx⟩,i,h,hi,rfl⟩
 refine⟨_,_,Y,Y,?_⟩
 refine Ea Y (u_rem Y Y (by omega) (Ea Y (Em [4] Y (Eh (Ep ?_)))))
 rotate_left
 intro h2
 refine z_s [0,1] Y (Et (Ea Y (Fg [0] Y Y Y Y (by simp) (.inl Y) (cg_229 _ hc _ _ hi) ?_)))
 rintro u L1 ⟨⟨x,rfl,hx⟩,i,h,hi,rfl⟩
 refine⟨_,_,Y,Y,?_⟩
 refine Ea Y (z_q [0,1,5] Y (Ea Y (Fg [0] Y Y Y Y (by simp) (.inl Y) (cg_229 _ hc _ _ hi) ?_)))
 rintro u L1 ⟨⟨x,rfl,hx⟩,i,h,hi,rfl⟩
 refine⟨_,_,Y,Y,?_⟩
 refine Ea Y (z_q [0,1,5,6] Y (Ea Y (Fg [0] Y Y Y Y (by simp) (.inl Y) (cg_229 _ hc _ _ hi) ?_)))
 rintro u L1 ⟨⟨x,rfl,hx⟩,i,h,hi,rfl⟩
 refine⟨_,_,Y,Y,?_⟩
 refine Ea Y (z_q [0,1,5,6,7] Y (Ea Y (Fg [0] Y Y Y Y (by simp) (.inl Y) (cg_229 _ hc _ _ hi) ?_)))
 rintro u L1 ⟨⟨x,rfl,hx⟩,i,h,hi,rfl⟩
 refine⟨_,_,Y,Y,?_⟩
 refine Ea Y (z_q [1,5,6,7,8] Y (Ea Y (Fa (o_muln Y Y (by omega)) (Ea Y (Fa (o_muln Y Y (by omega)) (Fa (Fn Y Y (by omega)) (Ea Y (Fa (o_muln Y Y (by omega)) (Fa (Fn Y Y (by omega)) (Ea Y (Fa (Fn Y Y (by omega)) (Ea Y (u_rem Y Y (by omega) (Ea Y (Em [4] Y (Eh ?_))))))))))))))))
 rotate_left
 all_goals
  refine Fv [] (.inr Y) Y Y Y Y (show(List.range 1++[]).Nodup by decide) ?_
  exact⟨⟨_,Y,(by first|(exact⟨fun _=>tmod_bd (by omega) (by omega),fun _=>by omega⟩)|omega)⟩,_,_,(by omega),Y⟩
theorem cg_233 (code:List Int) (hc:code.length≤1048576) (i h:Int) (hi:0≤i∧i≤code.length) (n:Int):GV prg 233 [cur code i h] [.cp 0 0,.w (.int .i64 n)] (fun u L1=>(∃ b,u=.w (.bool b))∧∃ (i h:Int),(0≤i∧i≤code.length)∧L1=[cur code i h]):=by
 refine gv_in g233 (Ei [0,1] Y (Et (Ea Y (z_q [0,1] Y (Ea Y (Ea Y (Fg [0] Y Y Y Y (by simp) (.inl Y) (cg_228 _ hc _ _ hi _) ?_)))))))
 rintro u L1 ⟨⟨x,rfl,hx⟩,i,h,hi,rfl⟩
 refine⟨_,_,Y,Y,?_⟩
 refine Fm Y Y (Ea Y (Em [4] Y (Eh ?_)))
 ·refine Fv [] (.inr Y) Y Y Y Y (show(List.range 1++[]).Nodup by decide) ?_
  exact⟨⟨_,Y⟩,_,_,(by omega),Y⟩
def unI:List (List V)→Option (List Int)
 | []=>some []
 | [.w (.int .i64 x)]::l=>match unI l with
   | some r=>some (x::r)
   | none=>none
 | _=>none
theorem unI_inv:∀ {l:List (List V)} {r:List Int},unI l=some r→l=r.map iR
 | [],r,h=>by simp [unI] at h;subst h;rfl
 | a::l,r,h=>by
   unfold unI at h
   split at h
   ·rename_i h1;cases h1
   ·rename_i x l' e
    injection e with e1 e2
    subst e1 e2
    split at h
    ·rename_i r' h1;cases h;rw[unI_inv h1];rfl
    ·cases h
   ·cases h
theorem words_iR (rows:List (List V)) (xs:List Int) (h:unI rows=some xs):∀ lb,lb∈[LB.arr 1 rows]→lb.words:=by
 intro lb hlb
 rw[List.mem_singleton] at hlb
 subst hlb
 rw[unI_inv h]
 intro r hr v hv
 obtain⟨y,_,rfl⟩:=List.mem_map.1 hr
 simp [iR] at hv
 exact⟨_,hv⟩
theorem cg_234 (code:List Int) (hc:code.length≤1048576) (i h:Int) (hi:0≤i∧i≤code.length) (rows:List (List V)) (xs:List Int) (hx:unI rows=some xs) (hx0:0<xs.length) (hx1:xs.length≤1048576):GV prg 234 [cur code i h,.arr 1 rows] [.cp 0 0,.ls 1 rows.length] (fun u L1=>(∃ x,u=.w (.int .i64 x)∧x∈xs)∧∃ (i h:Int),(0≤i∧i≤code.length)∧L1=[cur code i h,.arr 1 rows]):=by
 have hxr:=unI_inv hx
 subst hxr
 clear hx
 refine gv_in g234 (Ei [0,1] Y (Et (Ea Y (z_q [0,1] Y (Ea Y (Ea Y (Ea Y (u_lenL Y Y (by simp) (Fg [0] Y Y Y Y (by simp) (.inl Y) (cg_228 _ hc _ _ hi _) ?_)))))))))
 rintro u L1 ⟨⟨x,rfl,hx⟩,i,h,hi,rfl⟩
 refine⟨_,_,Y,Y,?_⟩
 have hx2:=hx.1 (by simp;omega)
 rw[List.length_map] at hx2
 obtain⟨y,hy⟩:∃ y,xs[x.toNat]?=some y:=⟨_,List.getElem?_eq_getElem (by omega)⟩
 refine Fa (o_iaL Y Y (by simp) Y (by rw[List.length_map];omega)) ?_
 refine u_ldA Y Y (by simp) (by rw[List.getElem?_map,hy];rfl) Y ?_
 refine Ea Y (Em [4] Y (Eh ?_))
 ·refine Fv [] (.inr Y) Y Y Y Y (show(List.range 2++[]).Nodup by decide) ?_
  exact⟨⟨_,Y,List.mem_of_getElem? (by assumption)⟩,_,_,(by omega),Y⟩
theorem cv_cast {G:Prg} {f:Nat} {us us1:List V} {post:V→Prop} (h:CV G f us post) (e:us=us1):CV G f us1 post:=e ▸ h
theorem get_map {α β:Type} {f:α→β} {xs:List α} {i:Nat} {m:α} (h:xs[i]?=some m):(xs.map f)[i]?=some (f m):=by rw[List.getElem?_map,h];rfl
theorem get_ex {α:Type} {xs:List α} {k:Int} (h0:0≤k) (h1:k<xs.length):∃ m,xs[k.toNat]?=some m:=⟨_,List.getElem?_eq_getElem (by omega)⟩
theorem MConf_snoc (ms:List MConf) (w:Int):(ms++[(⟨w,false,0,0⟩:MConf)]).map MConf.r=ms.map MConf.r++[[.w (.int .i64 w),.w (.bool false),.w (.int .i64 0),.w (.int .i64 0)]]:=by rw[List.map_append];rfl
theorem cg_243 (code:List Int) (hc:code.length≤1048576) (i h:Int) (hi:0≤i∧i≤code.length):GV prg 243 [cur code i h] [.cp 0 0] (fun u L1=>(∃ x:Conf,u=.agg x.r∧1≤x.masters.length∧x.masters.length≤4)∧∃ (i h:Int),(0≤i∧i≤code.length)∧L1=[cur code i h]):=by
 refine gv_inF g243 (Ei [0] Y (Et (Fu Y Y (z_q [0,2] Y (Ea Y (Fg [0] Y Y Y Y (by simp) (.inl Y) (cg_228 _ hc _ _ hi _) ?_))))))
 rintro u L1 ⟨⟨q,rfl,hq⟩,i,h,hi,rfl⟩
 refine⟨_,_,Y,Y,?_⟩
 refine Fa (Fn Y Y (by omega)) (Ea Y (Fg [0] Y Y Y Y (by simp) (.inl Y) (cg_228 _ hc _ _ hi _) ?_))
 rintro u L1 ⟨⟨w,rfl,hw⟩,i,h,hi,rfl⟩
 refine⟨_,_,Y,Y,?_⟩
 refine Ea Y (Fg [0] Y Y Y Y (by simp) (.inl Y) (cg_228 _ hc _ _ hi _) ?_)
 rintro u L1 ⟨⟨r,rfl,hr⟩,i,h,hi,rfl⟩
 refine⟨_,_,Y,Y,?_⟩
 refine Ea Y (Fg [0] Y Y Y Y (by simp) (.inl Y) (cg_228 _ hc _ _ hi _) ?_)
 rintro u L1 ⟨⟨s,rfl,hs⟩,i,h,hi,rfl⟩
 refine⟨_,_,Y,Y,?_⟩
 refine Fa (Fn Y Y (by omega)) (Ea Y (Fg [0] Y Y Y Y (by simp) (.inl Y) (cg_228 _ hc _ _ hi _) ?_))
 rintro u L1 ⟨⟨l,rfl,hl⟩,i,h,hi,rfl⟩
 refine⟨_,_,Y,Y,?_⟩
 refine Fa (Fn Y Y (by omega)) (u_bd Y Y (Ek (is:=[0,2,19]) Y (Fu Y Y (Eo (Er Y Y Y Y Y Y Y) (Em [0,2,3] Y (Ey (Et (Ea Y (Fg [0] Y Y Y Y (by simp) (.inl Y) (cg_228 _ hc _ _ hi _) ?_)))))))))
 rintro u L1 ⟨⟨n0,rfl,hn0⟩,i,h,hi,rfl⟩
 refine⟨_,_,Y,Y,?_⟩
 refine Fa (Fn Y Y (by omega)) ?_
 refine Ea Y (Em [0,2,3,4] Y (Fh (s_nilC 2 0 4 Y Y Y Y Y (S_loop (ι:=(Int×List MConf×Int×Int)) (fun p=>0≤p.1∧(p.2.1.length:Int)+p.1≤4∧1≤(p.2.1.length:Int)+p.1∧0≤p.2.2.1∧p.2.2.1≤code.length) (fun p=>[(4,.w (.int .i64 p.1))]) (fun p=>[cur code p.2.2.1 p.2.2.2,.cell [.w (.slice none 0 0),.w (.int .i64 0),.w (.int .i64 0),.w (.int .i64 0),.w (.int .i64 0),.w (.int .i64 0)],.cell [.ls 3 (p.2.1.map MConf.r).length,.w (.int .i64 (1+q)),.w (.int .i64 w),.w (.int .i64 r),.w (.int .i64 (1+s)),.w (.int .i64 (1+l))],.arr 4 (p.2.1.map MConf.r)]) (fun p=>p.1.toNat) 4 (1+n0,[],i,h) ⟨by simp only;omega,by simp only[List.length_nil];omega,by simp only[List.length_nil];omega,hi⟩ Y (hasOf ⟨Y,trivial⟩ Y) Y (fun _ _=>Y) (fun _ _=>⟨Y,Y⟩) ?_))))
 rintro⟨n,ms,i,h⟩ hp
 obtain⟨hn0,hn1,hn2,hi⟩:=hp
 simp only at hn0 hn1 hn2 hi
 refine Ei [0,2,3,4] Y ?_
 dsimp only
 refine Ey (Et (Ea Y (u_gtr Y Y (Em [0,2,3,4,24] Y (Ew Y ?_ ?_)))))
 intro h1
 refine z_s [0,2,3,4] Y (Ey (Fh (s_rgH [0] Y (h_op (o_faC Y) Y (h_op (o_ldC Y Y Y) Y (h_op (o_mv Y) Y (h_callG [0] [] Y Y Y Y Y Y (by simp) Y (cg_228 _ hc _ _ hi _) (by simp) ?_)))))))
 rintro u L1 ⟨⟨y,rfl,hy⟩,i,h,hi,rfl⟩
 refine⟨Y,_,_,_,_,Y,Y,Y,Y,?_⟩
 refine h_op (Fn Y Y (by omega)) Y (h_op (o_bd Y Y) Y (h_op (o_bs Y Y Y Y) Y (h_bar Y ?_)))
 refine Fa (o_appL Y Y (by simp) Y Y Y Y (by simp [roomy];omega)) ?_
 refine Ee Y (Eo (o_stC Y Y Y Y Y Y) (Ez (Fb (Eu (Ei [0,2,3,4] Y (Fs (Ea Y (Fa (o_subn Y Y (by omega)) (Ea Y (Ez (Fp ?_)))))))))))
 ·refine⟨(n-1,ms++[⟨1+y,false,0,0⟩],i,h),⟨by simp only;omega,by simp only[List.length_append,List.length_cons,List.length_nil];omega,by simp only[List.length_append,List.length_cons,List.length_nil];omega,hi⟩,by simp only;omega,hasOf ⟨rfl,trivial⟩ ?_⟩
  simp only[MConf_snoc];rfl
 intro h1
 refine s_exit (q_seqX (q_loopX (q_blkH (Eu (Ei [0,2,3] Y (Ey (Et (Ea Y (Fg [0] Y Y Y Y (by simp) (.inl Y) (cg_233 _ hc _ _ hi _) ?_)))))))))
 rintro u L1 ⟨⟨ob,rfl⟩,i,h,hi,rfl⟩
 refine⟨_,_,Y,Y,?_⟩
 refine Em [0,2,3,37] Y (s_condB Y ?_ ?_)
 intro h2
 refine Et (Ea Y (Ee Y (Ej Y Y Y (u_lenL Y Y (by simp) (Fg [0] Y Y Y Y (by simp) (.inl Y) (cg_228 _ hc _ _ hi _) ?_)))))
 rintro u L1 ⟨⟨k,rfl,hk⟩,i,h,hi,rfl⟩
 refine⟨_,_,Y,Y,?_⟩
 rw[List.length_map] at hk
 have hk1:=hk.1 (by omega)
 obtain⟨m,hm⟩:=get_ex (xs:=ms) hk1.1 hk1.2
 refine Ea Y (z_q [0,2,3,5] Y (Ee Y (Ej Y Y Y (Ea Y (Fa (o_iaL Y Y (by simp) Y (by simp;omega)) (u_faA Y Y (by simp) ?_))))))
 refine Eo (o_stA Y Y Y Y (by simp) (by exact get_map hm) Y Y) ?_
 refine Em [0,2,3,5] Y (Ey (s_rgH [0] Y (h_op (o_faC Y) Y (h_op (o_ldC Y Y Y) Y (h_op (o_mv Y) Y (h_op (o_ldnC Y Y Y) Y (h_callL Y Y (by simp) (cv_cast (c_214 ⟨ms.set k.toNat ⟨m.weight,true,m.every,m.cap⟩,1+q,w,r,1+s,1+l⟩) (by simp only[Conf.r,List.map_set];rfl)) Y Y ?_)))))))
 refine h_op (o_mul Y Y) Y (h_op (o_mv Y) Y (h_callG [0] [] Y Y Y Y Y Y (by simp) Y (cg_228 _ hc _ _ hi _) (by simp) ?_))
 rintro u L1 ⟨⟨e,rfl,he⟩,i,h,hi,rfl⟩
 refine⟨Y,_,_,_,_,Y,Y,Y,Y,?_⟩
 refine h_op (o_add Y Y) Y ?_
 refine h_bar Y (Fa (o_iaL Y Y (by simp) Y (by simp;omega)) (u_faA Y Y (by simp) ?_))
 refine Eo (o_stA Y Y Y Y (by simp) (by exact List.getElem?_set_self (by simp;omega)) Y Y) ?_
 refine Em [0,2,3,5] Y (s_rgH [0] Y (h_op (o_faC Y) Y (h_op (o_ldC Y Y Y) Y (h_op (o_mv Y) Y (h_op (o_mv Y) Y (h_callG [0] [] Y Y Y Y Y Y (by simp) Y (cg_228 _ hc _ _ hi _) (by simp) ?_))))))
 rintro u L1 ⟨⟨c,rfl,hc⟩,i,h,hi,rfl⟩
 refine⟨Y,_,_,_,_,Y,Y,Y,Y,?_⟩
 refine h_op (Fn Y Y (by omega)) Y ?_
 refine h_bar Y (Fa (o_iaL Y Y (by simp) Y (by simp;omega)) (u_faA Y Y (by simp) ?_))
 refine Eo (o_stA Y Y Y Y (by simp) (by exact List.getElem?_set_self (by simp;omega)) Y Y) ?_
 refine z_q [2,3] Y (En Y Y Y (Eo (Er Y Y Y Y Y Y Y) (Em [2] Y (Eh ?_))))
 rotate_left
 intro h2
 refine z_s [2,3] Y (Et (En Y Y Y (Eo (Er Y Y Y Y Y Y Y) (Em [2] Y (Eh ?_)))))
 rotate_left
 all_goals
  refine retF_leaf (.inr Y) Y Y (by simp) Y ?_
  first|exact⟨⟨⟨ms,_,_,_,_,_⟩,Y,by simp only;omega,by simp only;omega⟩,_,_,(by omega),Y⟩|exact⟨⟨⟨ms.set k.toNat ⟨m.weight,true,_,1+c⟩,1+q,w,r,1+s,1+l⟩,(by rw[List.set_set,List.set_set];simp only[Conf.r,List.map_set];rfl),(by simp only[List.length_set];omega),(by simp only[List.length_set];omega)⟩,_,_,(by omega),Y⟩
theorem cgo_243 (code:List Int) (hc:code.length≤1048576) (i h:Int) (hi:0≤i∧i≤code.length):GV prg 243 [cur code i h] [.cp 0 0] (fun u L1=>∃ (x:Conf) (i h:Int),u=.agg [.ls 1 x.masters.length,.w (.int .i64 x.quantum),.w (.int .i64 x.maxWait),.w (.int .i64 x.maxRetry),.w (.int .i64 x.maxSplit),.w (.int .i64 x.lockMost)]∧(1≤x.masters.length∧x.masters.length≤4)∧(0≤i∧i≤code.length)∧L1=[cur code i h,.arr 4 (x.masters.map MConf.r)]):=by
 refine gv_in g243 (Ei [0] Y (Et (Fu Y Y (z_q [0,2] Y (Ea Y (Fg [0] Y Y Y Y (by simp) (.inl Y) (cg_228 _ hc _ _ hi _) ?_))))))
 rintro u L1 ⟨⟨q,rfl,hq⟩,i,h,hi,rfl⟩
 refine⟨_,_,Y,Y,?_⟩
 refine Fa (Fn Y Y (by omega)) (Ea Y (Fg [0] Y Y Y Y (by simp) (.inl Y) (cg_228 _ hc _ _ hi _) ?_))
 rintro u L1 ⟨⟨w,rfl,hw⟩,i,h,hi,rfl⟩
 refine⟨_,_,Y,Y,?_⟩
 refine Ea Y (Fg [0] Y Y Y Y (by simp) (.inl Y) (cg_228 _ hc _ _ hi _) ?_)
 rintro u L1 ⟨⟨r,rfl,hr⟩,i,h,hi,rfl⟩
 refine⟨_,_,Y,Y,?_⟩
 refine Ea Y (Fg [0] Y Y Y Y (by simp) (.inl Y) (cg_228 _ hc _ _ hi _) ?_)
 rintro u L1 ⟨⟨s,rfl,hs⟩,i,h,hi,rfl⟩
 refine⟨_,_,Y,Y,?_⟩
 refine Fa (Fn Y Y (by omega)) (Ea Y (Fg [0] Y Y Y Y (by simp) (.inl Y) (cg_228 _ hc _ _ hi _) ?_))
 rintro u L1 ⟨⟨l,rfl,hl⟩,i,h,hi,rfl⟩
 refine⟨_,_,Y,Y,?_⟩
 refine Fa (Fn Y Y (by omega)) (u_bd Y Y (Ek (is:=[0,2,19]) Y (Fu Y Y (Eo (Er Y Y Y Y Y Y Y) (Em [0,2,3] Y (Ey (Et (Ea Y (Fg [0] Y Y Y Y (by simp) (.inl Y) (cg_228 _ hc _ _ hi _) ?_)))))))))
 rintro u L1 ⟨⟨n0,rfl,hn0⟩,i,h,hi,rfl⟩
 refine⟨_,_,Y,Y,?_⟩
 refine Fa (Fn Y Y (by omega)) ?_
 refine Ea Y (Em [0,2,3,4] Y (Fh (s_nilC 2 0 4 Y Y Y Y Y (S_loop (ι:=(Int×List MConf×Int×Int)) (fun p=>0≤p.1∧(p.2.1.length:Int)+p.1≤4∧1≤(p.2.1.length:Int)+p.1∧0≤p.2.2.1∧p.2.2.1≤code.length) (fun p=>[(4,.w (.int .i64 p.1))]) (fun p=>[cur code p.2.2.1 p.2.2.2,.cell [.w (.slice none 0 0),.w (.int .i64 0),.w (.int .i64 0),.w (.int .i64 0),.w (.int .i64 0),.w (.int .i64 0)],.cell [.ls 3 (p.2.1.map MConf.r).length,.w (.int .i64 (1+q)),.w (.int .i64 w),.w (.int .i64 r),.w (.int .i64 (1+s)),.w (.int .i64 (1+l))],.arr 4 (p.2.1.map MConf.r)]) (fun p=>p.1.toNat) 4 (1+n0,[],i,h) ⟨by simp only;omega,by simp only[List.length_nil];omega,by simp only[List.length_nil];omega,hi⟩ Y (hasOf ⟨Y,trivial⟩ Y) Y (fun _ _=>Y) (fun _ _=>⟨Y,Y⟩) ?_))))
 rintro⟨n,ms,i,h⟩ hp
 obtain⟨hn0,hn1,hn2,hi⟩:=hp
 simp only at hn0 hn1 hn2 hi
 refine Ei [0,2,3,4] Y ?_
 dsimp only
 refine Ey (Et (Ea Y (u_gtr Y Y (Em [0,2,3,4,24] Y (Ew Y ?_ ?_)))))
 intro h1
 refine z_s [0,2,3,4] Y (Ey (Fh (s_rgH [0] Y (h_op (o_faC Y) Y (h_op (o_ldC Y Y Y) Y (h_op (o_mv Y) Y (h_callG [0] [] Y Y Y Y Y Y (by simp) Y (cg_228 _ hc _ _ hi _) (by simp) ?_)))))))
 rintro u L1 ⟨⟨y,rfl,hy⟩,i,h,hi,rfl⟩
 refine⟨Y,_,_,_,_,Y,Y,Y,Y,?_⟩
 refine h_op (Fn Y Y (by omega)) Y (h_op (o_bd Y Y) Y (h_op (o_bs Y Y Y Y) Y (h_bar Y ?_)))
 refine Fa (o_appL Y Y (by simp) Y Y Y Y (by simp [roomy];omega)) ?_
 refine Ee Y (Eo (o_stC Y Y Y Y Y Y) (Ez (Fb (Eu (Ei [0,2,3,4] Y (Fs (Ea Y (Fa (o_subn Y Y (by omega)) (Ea Y (Ez (Fp ?_)))))))))))
 ·refine⟨(n-1,ms++[⟨1+y,false,0,0⟩],i,h),⟨by simp only;omega,by simp only[List.length_append,List.length_cons,List.length_nil];omega,by simp only[List.length_append,List.length_cons,List.length_nil];omega,hi⟩,by simp only;omega,hasOf ⟨rfl,trivial⟩ ?_⟩
  simp only[MConf_snoc];rfl
 intro h1
 refine s_exit (q_seqX (q_loopX (q_blkH (Eu (Ei [0,2,3] Y (Ey (Et (Ea Y (Fg [0] Y Y Y Y (by simp) (.inl Y) (cg_233 _ hc _ _ hi _) ?_)))))))))
 rintro u L1 ⟨⟨ob,rfl⟩,i,h,hi,rfl⟩
 refine⟨_,_,Y,Y,?_⟩
 refine Em [0,2,3,37] Y (s_condB Y ?_ ?_)
 intro h2
 refine Et (Ea Y (Ee Y (Ej Y Y Y (u_lenL Y Y (by simp) (Fg [0] Y Y Y Y (by simp) (.inl Y) (cg_228 _ hc _ _ hi _) ?_)))))
 rintro u L1 ⟨⟨k,rfl,hk⟩,i,h,hi,rfl⟩
 refine⟨_,_,Y,Y,?_⟩
 rw[List.length_map] at hk
 have hk1:=hk.1 (by omega)
 obtain⟨m,hm⟩:=get_ex (xs:=ms) hk1.1 hk1.2
 refine Ea Y (z_q [0,2,3,5] Y (Ee Y (Ej Y Y Y (Ea Y (Fa (o_iaL Y Y (by simp) Y (by simp;omega)) (u_faA Y Y (by simp) ?_))))))
 refine Eo (o_stA Y Y Y Y (by simp) (by exact get_map hm) Y Y) ?_
 refine Em [0,2,3,5] Y (Ey (s_rgH [0] Y (h_op (o_faC Y) Y (h_op (o_ldC Y Y Y) Y (h_op (o_mv Y) Y (h_op (o_ldnC Y Y Y) Y (h_callL Y Y (by simp) (cv_cast (c_214 ⟨ms.set k.toNat ⟨m.weight,true,m.every,m.cap⟩,1+q,w,r,1+s,1+l⟩) (by simp only[Conf.r,List.map_set];rfl)) Y Y ?_)))))))
 refine h_op (o_mul Y Y) Y (h_op (o_mv Y) Y (h_callG [0] [] Y Y Y Y Y Y (by simp) Y (cg_228 _ hc _ _ hi _) (by simp) ?_))
 rintro u L1 ⟨⟨e,rfl,he⟩,i,h,hi,rfl⟩
 refine⟨Y,_,_,_,_,Y,Y,Y,Y,?_⟩
 refine h_op (o_add Y Y) Y ?_
 refine h_bar Y (Fa (o_iaL Y Y (by simp) Y (by simp;omega)) (u_faA Y Y (by simp) ?_))
 refine Eo (o_stA Y Y Y Y (by simp) (by exact List.getElem?_set_self (by simp;omega)) Y Y) ?_
 refine Em [0,2,3,5] Y (s_rgH [0] Y (h_op (o_faC Y) Y (h_op (o_ldC Y Y Y) Y (h_op (o_mv Y) Y (h_op (o_mv Y) Y (h_callG [0] [] Y Y Y Y Y Y (by simp) Y (cg_228 _ hc _ _ hi _) (by simp) ?_))))))
 rintro u L1 ⟨⟨c,rfl,hc⟩,i,h,hi,rfl⟩
 refine⟨Y,_,_,_,_,Y,Y,Y,Y,?_⟩
 refine h_op (Fn Y Y (by omega)) Y ?_
 refine h_bar Y (Fa (o_iaL Y Y (by simp) Y (by simp;omega)) (u_faA Y Y (by simp) ?_))
 refine Eo (o_stA Y Y Y Y (by simp) (by exact List.getElem?_set_self (by simp;omega)) Y Y) ?_
 refine z_q [2,3] Y (En Y Y Y (Eo (Er Y Y Y Y Y Y Y) (Em [2] Y (Eh ?_))))
 rotate_left
 intro h2
 refine z_s [2,3] Y (Et (En Y Y Y (Eo (Er Y Y Y Y Y Y Y) (Em [2] Y (Eh ?_)))))
 rotate_left
 all_goals
  refine Fv [3] (.inr Y) Y Y Y Y (show(List.range 1++[3]).Nodup by decide) ?_
  first|exact⟨⟨ms,1+q,w,r,1+s,1+l⟩,_,_,(by simp),⟨by simp only;omega,by simp only;omega⟩,(by omega),Y⟩|exact⟨⟨ms.set k.toNat ⟨m.weight,true,_,1+c⟩,1+q,w,r,1+s,1+l⟩,_,_,(by simp),⟨by simp only[List.length_set];omega,by simp only[List.length_set];omega⟩,(by omega),(by rw[List.set_set,List.set_set];simp only[List.map_set];rfl)⟩
theorem cg_242 (code:List Int) (hc:code.length≤1048576) (i h:Int) (hi:0≤i∧i≤code.length):GV prg 242 [cur code i h] [.cp 0 0] (fun u L1=>(∃ x:Conf,u=.agg x.r∧x.masters.length≤4)∧∃ (i h:Int),(0≤i∧i≤code.length)∧L1=[cur code i h]):=by
 refine gv_inF g242 (Ei [0] Y (Et (Fu Y Y (z_q [0,2] Y (Ea Y (Fg [0] Y Y Y Y (by simp) (.inl Y) (cgo_243 _ hc _ _ hi) ?_))))))
 rintro u L1 ⟨z,i,h,rfl,hz,hi,rfl⟩
 refine⟨_,_,Y,Y,?_⟩
 obtain⟨m,hm⟩:=get_ex (xs:=z.masters) (k:=0) (by omega) (by omega)
 refine Fu Y Y (Eo (Er Y Y Y Y Y Y Y) (Em [0,2,3] Y (Ey (Et (Ea Y (Fg [0] Y Y Y Y (by simp) (.inl Y) (cg_228 _ hc _ _ hi _) ?_))))))
 rintro u L1 ⟨⟨x,rfl,hx⟩,i,h,hi,rfl⟩
 refine⟨_,_,Y,Y,?_⟩
 refine Em [0,2,3,7] Y (Fh (Et (Fm Y Y (Ea Y (Em [0,2,3,7,8] Y (Ew Y ?_ ?_))))))
 intro h1
 refine s_rgH [0] Y (h_op (o_faC Y) Y (h_op (o_ldC Y Y Y) Y (h_op (o_mv Y) Y (h_op (o_bs Y Y Y Y) Y (h_callG [0] [4] Y Y Y Y Y Y (by simp) Y (cg_234 _ hc _ _ hi _ _ Y (by simp) (by simp)) (words_iR _ _ Y) ?_)))))
 rintro u L1 ⟨⟨x,rfl,hx⟩,i,h,hi,rfl⟩
 refine⟨Y,_,_,_,_,Y,Y,Y,Y,?_⟩
 simp only[List.mem_cons,List.not_mem_nil,or_false] at hx
 refine h_bar Y (Fa (o_iaL Y Y (by simp) Y (by simp;omega)) (u_faA Y Y (by simp) ?_))
 refine Eo (o_stA Y Y Y Y (by simp) (by exact get_map hm) Y Y) (Ez (Fb (Eu (Ei [2,3] Y (Et (En Y Y Y (Eo (Er Y Y Y Y Y Y Y) (Em [2] Y (Eh ?_)))))))))
 rotate_left
 intro h1
 refine Et (Fm Y Y (Ea Y (Em [0,2,3,7,17] Y (Ew Y ?_ ?_))))
 intro h3
 refine Fs (Ee Y (Ej Y Y Y (Ee Y (Ej Y Y Y (Fa (o_iaL Y Y (by simp) Y (by simp;omega)) (u_faA Y Y (by simp) ?_))))))
 refine u_ldA Y Y (by simp) (by exact get_map hm) Y ?_
 refine Fk Y (Fa (o_iaL Y Y (by simp) Y (by simp;omega)) (u_faA Y Y (by simp) ?_))
 refine Eo (o_stA Y Y Y Y (by simp) (by exact get_map hm) Y Y) (Ez (Fb (Eu (Ei [2,3] Y (Et (En Y Y Y (Eo (Er Y Y Y Y Y Y Y) (Em [2] Y (Eh ?_)))))))))
 rotate_left
 intro h3
 refine Et (Fm Y Y (Ea Y (Em [0,2,3,7,29] Y (Ew Y ?_ ?_))))
 intro h6
 refine Fs (Ea Y (Fa (o_bs Y Y Y Y) (Fg [0,4] Y Y Y Y (by simp) (.inl Y) (cg_234 _ hc _ _ hi _ _ Y (by simp) (by simp)) ?_)))
 rintro u L1 ⟨⟨x,rfl,hx⟩,i,h,hi,rfl⟩
 refine⟨_,_,Y,Y,?_⟩
 simp only[List.mem_cons,List.not_mem_nil,or_false] at hx
 refine Ee Y (Eo (o_stC Y Y Y Y Y Y) (Ez (Fb (Eu (Ei [2,3] Y (Et (En Y Y Y (Eo (Er Y Y Y Y Y Y Y) (Em [2] Y (Eh ?_))))))))))
 rotate_left
 intro h6
 refine Et (Fm Y Y (Ea Y (Em [0,2,3,7,35] Y (Ew Y ?_ ?_))))
 intro h7
 refine Fs (Ea Y (Fa (o_bs Y Y Y Y) (Fg [0,4] Y Y Y Y (by simp) (.inl Y) (cg_234 _ hc _ _ hi _ _ Y (by simp) (by simp)) ?_)))
 rintro u L1 ⟨⟨x,rfl,hx⟩,i,h,hi,rfl⟩
 refine⟨_,_,Y,Y,?_⟩
 simp only[List.mem_cons,List.not_mem_nil,or_false] at hx
 refine Ee Y (Eo (o_stC Y Y Y Y Y Y) (Ez (Fb (Eu (Ei [2,3] Y (Et (En Y Y Y (Eo (Er Y Y Y Y Y Y Y) (Em [2] Y (Eh ?_))))))))))
 rotate_left
 intro h7
 refine Et (Fm Y Y (Ea Y (Em [0,2,3,7,41] Y (Ew Y ?_ ?_))))
 intro h8
 refine Fs (Ea Y (Fa (o_bs Y Y Y Y) (Fg [0,4] Y Y Y Y (by simp) (.inl Y) (cg_234 _ hc _ _ hi _ _ Y (by simp) (by simp)) ?_)))
 rintro u L1 ⟨⟨x,rfl,hx⟩,i,h,hi,rfl⟩
 refine⟨_,_,Y,Y,?_⟩
 simp only[List.mem_cons,List.not_mem_nil,or_false] at hx
 refine Ee Y (Eo (o_stC Y Y Y Y Y Y) (Ez (Fb (Eu (Ei [2,3] Y (Et (En Y Y Y (Eo (Er Y Y Y Y Y Y Y) (Em [2] Y (Eh ?_))))))))))
 rotate_left
 intro h8
 refine Et (Fm Y Y (Ea Y (Em [0,2,3,7,47] Y (Ew Y ?_ ?_))))
 intro h9
 refine Fs (Fa (o_bs Y Y Y Y) (Ee Y (Eo (o_stC Y Y Y Y Y Y) (Ez (Fb (Eu (Ei [2,3] Y (Et (En Y Y Y (Eo (Er Y Y Y Y Y Y Y) (Em [2] Y (Eh ?_))))))))))))
 rotate_left
 intro h9
 refine Et (Fm Y Y (Ea Y (Em [0,2,3,51] Y (Ew Y ?_ ?_))))
 intro h10
 refine Fs (Ea Y (Fa (o_bs Y Y Y Y) (Fg [0,4] Y Y Y Y (by simp) (.inl Y) (cg_234 _ hc _ _ hi _ _ Y (by simp) (by simp)) ?_)))
 rintro u L1 ⟨⟨x,rfl,hx⟩,i,h,hi,rfl⟩
 refine⟨_,_,Y,Y,?_⟩
 simp only[List.mem_cons,List.not_mem_nil,or_false] at hx
 refine Ee Y (Eo (o_stC Y Y Y Y Y Y) (Ez (Fb (Eu (Ei [2,3] Y (Et (En Y Y Y (Eo (Er Y Y Y Y Y Y Y) (Em [2] Y (Eh ?_))))))))))
 rotate_left
 intro h10
 refine Fr (Fb (Eu (Ei [2,3] Y (Et (En Y Y Y (Eo (Er Y Y Y Y Y Y Y) (Em [2] Y (Eh ?_))))))))
 rotate_left
 all_goals
  refine retF_leaf (.inr Y) Y Y (by simp) Y ?_
  first|exact⟨⟨⟨z.masters,z.quantum,z.maxWait,z.maxRetry,z.maxSplit,z.lockMost⟩,Y,by simp only;omega⟩,_,_,(by omega),Y⟩|exact⟨⟨⟨z.masters,x,z.maxWait,z.maxRetry,z.maxSplit,z.lockMost⟩,Y,by simp only;omega⟩,_,_,(by omega),Y⟩|exact⟨⟨⟨z.masters,z.quantum,x,z.maxRetry,z.maxSplit,z.lockMost⟩,Y,by simp only;omega⟩,_,_,(by omega),Y⟩|exact⟨⟨⟨z.masters,z.quantum,z.maxWait,x,z.maxSplit,z.lockMost⟩,Y,by simp only;omega⟩,_,_,(by omega),Y⟩|exact⟨⟨⟨z.masters,z.quantum,z.maxWait,z.maxRetry,x,z.lockMost⟩,Y,by simp only;omega⟩,_,_,(by omega),Y⟩|exact⟨⟨⟨[],_,_,_,_,_⟩,Y,by simp⟩,_,_,(by omega),Y⟩|exact⟨⟨⟨z.masters.set 0 ⟨_,m.prio,m.every,m.cap⟩,z.quantum,z.maxWait,z.maxRetry,z.maxSplit,z.lockMost⟩,(by simp only[Conf.r,List.map_set];rfl),(by simp only[List.length_set];omega)⟩,_,_,(by omega),Y⟩|exact⟨⟨⟨z.masters.set 0 ⟨m.weight,!m.prio,m.every,m.cap⟩,z.quantum,z.maxWait,z.maxRetry,z.maxSplit,z.lockMost⟩,(by simp only[Conf.r,List.map_set];rfl),(by simp only[List.length_set];omega)⟩,_,_,(by omega),Y⟩
theorem c_123 (code:List Int) (hw:code.length≤140737488355328):CV prg 123 [.sl 1 (code.map uR)] (fun res=>res=.w (.bool (decide (1048576<(code.length:Int))))):=by
 refine cv_in g123 (Ei [0] Y (Et (Ea Y (z_q [0] Y (Ea Y (Fw Y (u_gtr Y Y (Ea Y (Em [2] Y (Eh (Ef Y Y ?_)))))))))))
 rotate_left
 all_goals
  rfl
end Go.Proofs.YtoppcdecolponaaGreat.AL
