/- What functions do with plain data,each by the form of its code. Printed by program. -/
import Derived.Test.YtoppcdecolponaaGreatCGoesFirst0
namespace Go.Proofs.YtoppcdecolponaaGreat.AL
open Go
set_option linter.unusedVariables false
set_option linter.unusedSimpArgs false
set_option maxRecDepth 4096
theorem ok_turn {c:Conf} {k:Int} (h:c.ok=true) (hk:inB k 0 (c.masters.length-1)=true):1≤c.turn k∧c.turn k≤16:=by
 unfold Conf.turn
 rw[h,hk]
 simp only[Bool.and_self,if_true]
 unfold Conf.ok at h
 simp only[Bool.and_eq_true,decide_eq_true_eq] at h
 obtain⟨⟨⟨⟨h1,h2⟩,h3⟩,h4⟩,h5⟩:=h
 have hk:=inB_t hk
 have hq:=inB_t h2
 obtain⟨m,hm⟩:∃ m,c.masters[k.toNat]?=some m:=⟨_,List.getElem?_eq_getElem (by omega)⟩
 rw[hm]
 have hmo:=List.all_eq_true.1 h5 m (List.mem_of_getElem? hm)
 unfold MConf.ok at hmo
 simp only[Bool.and_eq_true] at hmo
 have hw:=inB_t hmo.1
 simp only
 have hw':m.weight=1∨m.weight=2∨m.weight=3∨m.weight=4:=by omega
 rcases hw' with e|e|e|e <;> rw[e] <;> rw[wrap_in _ (by omega)] <;> omega
def Bucket.ok (b:Bucket) (m:MConf):Bool:=if m.prio then inB b.tokens 0 m.cap && decide (0≤b.count) && decide (b.count<m.every) else decide (b.tokens=0) && decide (b.count=0)
def MConf.tiny (m:MConf):Prop:=0≤m.every∧m.every≤6∧0≤m.cap∧m.cap≤4∧(m.prio=true→1≤m.every)
def MConf.newB (m:MConf):Bucket:=if m.prio then⟨max 0 m.cap,0⟩ else⟨0,0⟩
def Bucket.tick (b:Bucket) (m:MConf):Bucket:=if m.prio && b.ok m then(if b.count+1=m.every then⟨min m.cap (b.tokens+1),0⟩ else⟨b.tokens,b.count+1⟩) else b
def Bucket.take (b:Bucket) (m:MConf):Bucket×Bool:=if m.prio && b.ok m && decide (b.tokens≠0) then(⟨b.tokens-1,b.count⟩,true) else(b,false)
def Bucket.back (b:Bucket) (m:MConf):Bucket:=if m.prio && b.ok m && decide (b.tokens<m.cap) then⟨b.tokens+1,b.count⟩ else b
def MConf.most (m:MConf) (n:Int):Int:=if m.prio=true∧1≤m.every∧0≤m.cap∧inB n 0 4000=true then m.cap+n.tdiv m.every+1 else 0
theorem bk_p {b:Bucket} {m:MConf} (hp:m.prio=true) (h:b.ok m=true):0≤b.tokens∧b.tokens≤m.cap∧0≤b.count∧b.count<m.every:=by
 unfold Bucket.ok at h
 rw[if_pos hp] at h
 simp only[Bool.and_eq_true,decide_eq_true_eq] at h
 have:=inB_t h.1.1
 exact⟨this.1,this.2,h.1.2,h.2⟩
theorem bk_n {b:Bucket} {m:MConf} (hp:m.prio=false):b.ok m=(decide (b.tokens=0) && decide (b.count=0)):=by
 unfold Bucket.ok;rw[if_neg (by rw[hp];decide)]
theorem c_26 (b:Bucket) (m:MConf):CV prg 26 [.agg b.r,.agg m.r] (fun res=>res=.w (.bool (b.ok m))):=by
 refine cv_in g26 (Ei [0,1] Y (Et (u_box Y Y Y (u_box Y Y Y (Ea Y (Em [2,3] Y (Ey (Et (Ee Y (Ej Y Y Y (Fk Y (Em [2,3,7] Y (s_condNB Y ?_ ?_)))))))))))))
 intro h1
 refine Et (En Y Y Y (u_bd Y Y (u_eqs Y Y Y Y Y (Ea Y (Em [4] Y (Eh (Ep (Ef Y Y ?_))))))))
 rotate_left
 intro h1
 refine z_s [2,3] Y (Et (Ee Y (Ej Y Y Y (Ee Y (Ej Y Y Y (Ev Y Y (c_103 ..) (Ea Y (s_gB Y ?_ ?_))))))))
 intro h2
 refine Ee Y (Ec Y (Ej Y Y Y (Ec Y (u_geq Y Y (Eg Y Y (Ea Y (Ft Y ?_ ?_)))))))
 intro h3
 refine Ee Y (Ec Y (Ej Y Y Y (Ec Y (Ee Y (Ek (is:=[21,23,24]) Y (Ec Y (Ej Y Y Y (Ec Y (u_lss Y Y (Eg Y Y (Ea Y (Em [4] Y (Eh (Ef Y Y ?_))))))))))))))
 rotate_left
 intro h3
 refine Eb Y (Eb Y (Eb Y (Ek (is:=[21,23,24]) Y (Eb Y (Eb Y (Ed Y Y (Ea Y (Em [4] Y (Eh (Ef Y Y ?_))))))))))
 rotate_left
 intro h2
 refine Eb Y (Eb Y (Eb Y (Ed Y Y (Ea Y (Eb Y (Eb Y (Eb Y (Ek (is:=[21,23,24]) Y (Eb Y (Eb Y (Ed Y Y (Ea Y (Em [4] Y (Eh (Ef Y Y ?_)))))))))))))))
 rotate_left
 all_goals
  first|(rw[bk_n (by simp_all;done),Bool.eq_iff_iff];simp;done)|(simp_all [Bucket.ok,inB];done)|(simp_all [Bucket.ok,inB];intros;omega)
theorem c_90 (b:Bucket) (m:MConf):CV prg 90 [.agg b.r,.agg m.r] (fun res=>res=.w (.bool (m.prio && b.ok m))):=by
 refine cv_in g90 (Ei [0,1] Y (Et (u_box Y Y Y (u_box Y Y Y (Ea Y (z_q [2,3] Y (Ee Y (Ej Y Y Y (Ea Y (s_gB Y ?_ ?_))))))))))
 intro h1
 refine En Y Y Y (Ec Y (En Y Y Y (Ec Y (Ev Y Y (c_26 _ _) (Eg Y Y (Ea Y (Em [4] Y (Eh (Ef Y Y ?_)))))))))
 rotate_left
 intro h1
 refine Eb Y (Eb Y (Eb Y (Ed Y Y (Ea Y (Em [4] Y (Eh (Ef Y Y ?_)))))))
 rotate_left
 all_goals
  simp_all
theorem c_175 (m:MConf):CV prg 175 [.agg m.r] (fun res=>res=.agg (m.newB).r):=by
 refine cv_in g175 (Ei [0] Y (Et (u_box Y Y Y (Fu Y Y (Em [1,2] Y (Ey (Et (Ee Y (Ej Y Y Y (Fk Y (Em [1,2,5] Y (s_condNB Y ?_ ?_))))))))))))
 intro h1
 refine Et (u_bd Y Y (Eo (Er Y Y Y Y Y Y Y) (Em [2] Y (Eh (Ep (Fq Y Y ?_))))))
 rotate_left
 intro h1
 refine z_s [1,2] Y (Et (Ee Y (Ej Y Y Y (Fa (o_mx Y) (u_bd Y Y (Eo (Er Y Y Y Y Y Y Y) (Em [2] Y (Eh (Fq Y Y ?_)))))))))
 rotate_left
 all_goals
  simp_all [MConf.newB,Bucket.r,maxL2,Int.max_comm];done
theorem tick_no {b:Bucket} {m:MConf} (h:m.prio=false∨b.ok m=false):b.tick m=b:=by
 unfold Bucket.tick
 rw[if_neg]
 simp only[Bool.and_eq_true]
 rintro⟨h1,h2⟩
 rcases h with h|h
 ·rw[h] at h1;cases h1
 ·rw[h] at h2;cases h2
theorem tick_turn {b:Bucket} {m:MConf} (hp:m.prio=true) (ho:b.ok m=true) (h:b.count+1=m.every):b.tick m=⟨min m.cap (b.tokens+1),0⟩:=by
 unfold Bucket.tick;rw[if_pos (by rw[hp,ho];rfl),if_pos h]
theorem tick_next {b:Bucket} {m:MConf} (hp:m.prio=true) (ho:b.ok m=true) (h:¬ b.count+1=m.every):b.tick m=⟨b.tokens,b.count+1⟩:=by
 unfold Bucket.tick;rw[if_pos (by rw[hp,ho];rfl),if_neg h]
theorem kept_t {b:Bucket} {m:MConf} (h:(m.prio && b.ok m)=true):m.prio=true∧b.ok m=true:=by simpa using h
theorem kept_f {b:Bucket} {m:MConf} (h:(m.prio && b.ok m)=false):m.prio=false∨b.ok m=false:=by
 cases e:m.prio with
 | false=>exact .inl rfl
 | true=>rw[e] at h;exact .inr (by simpa using h)
theorem take_no {b:Bucket} {m:MConf} (h:m.prio=false∨b.ok m=false∨b.tokens=0):b.take m=(b,false):=by
 unfold Bucket.take
 rw[if_neg]
 simp only[Bool.and_eq_true,decide_eq_true_eq]
 rintro⟨⟨h1,h2⟩,h3⟩
 rcases h with h|h|h
 ·rw[h] at h1;cases h1
 ·rw[h] at h2;cases h2
 ·exact h3 h
theorem take_is {b:Bucket} {m:MConf} (hp:m.prio=true) (ho:b.ok m=true) (h:¬ b.tokens=0):b.take m=(⟨b.tokens-1,b.count⟩,true):=by
 unfold Bucket.take;rw[if_pos (by simp [hp,ho,h])]
theorem back_no {b:Bucket} {m:MConf} (h:m.prio=false∨b.ok m=false∨¬ b.tokens<m.cap):b.back m=b:=by
 unfold Bucket.back
 rw[if_neg]
 simp only[Bool.and_eq_true,decide_eq_true_eq]
 rintro⟨⟨h1,h2⟩,h3⟩
 rcases h with h|h|h
 ·rw[h] at h1;cases h1
 ·rw[h] at h2;cases h2
 ·exact h h3
theorem back_is {b:Bucket} {m:MConf} (hp:m.prio=true) (ho:b.ok m=true) (h:b.tokens<m.cap):b.back m=⟨b.tokens+1,b.count⟩:=by
 unfold Bucket.back;rw[if_pos (by simp [hp,ho,h])]
def tupB (p:Bucket×Bool):V:=.tup [.agg p.1.r,.w (.bool p.2)]
theorem min_sw (a b:Int):min a b=min b a:=Int.min_comm a b
theorem req5 {z:Int} (h:z=2∨z=2∨z=2∨z=0∨z=1):bytes z=1∨bytes z=2∨bytes z=4:=bytes_pos (by rcases h with h|h|h|h|h <;> subst h <;> rfl)
theorem limit_pos {z:Int} (h:z=2∨z=2∨z=2∨z=0∨z=1):0<limit z:=by rcases h with h|h|h|h|h <;> subst h <;> decide
theorem cg_237 (code:List Int) (hc:code.length≤1048576) (i h:Int) (hi:0≤i∧i≤code.length):GV prg 237 [cur code i h] [.cp 0 0] (fun u L1=>(∃ x,u=.w (.int .i64 x)∧-1≤x∧x≤4)∧∃ (i h:Int),(0≤i∧i≤code.length)∧L1=[cur code i h]):=by
 refine gv_in g237 (Ei [0] Y (Et (Ea Y (z_q [0] Y (Ea Y (Fg [0] Y Y Y Y (by simp) (.inl Y) (cg_228 _ hc _ _ hi _) ?_))))))
 rintro u L1 ⟨⟨x,rfl,hx⟩,i,h,hi,rfl⟩
 refine⟨_,_,Y,Y,?_⟩
 refine Fa (o_subn Y Y (by omega)) (Ea Y (Em [2] Y (Eh ?_)))
 ·refine Fv [] (.inr Y) Y Y Y Y (show(List.range 1++[]).Nodup by decide) ?_
  exact⟨⟨_,Y,by omega⟩,_,_,(by omega),Y⟩
theorem cg_241 (code:List Int) (hc:code.length≤1048576) (i h:Int) (hi:0≤i∧i≤code.length):GV prg 241 [cur code i h] [.cp 0 0] (fun u L1=>(∃ x:Req,u=.agg x.r∧x.data.length≤8)∧∃ (i h:Int),(0≤i∧i≤code.length)∧L1=[cur code i h]):=by
 refine gv_inF g241 (Ei [0] Y (Et (Fu Y Y (z_q [0,2] Y (Ea Y (Fg [0] Y Y Y Y (by simp) (.inl Y) (cg_233 _ hc _ _ hi _) ?_))))))
 rintro u L1 ⟨⟨wr,rfl⟩,i,h,hi,rfl⟩
 refine⟨_,_,Y,Y,?_⟩
 refine Ea Y (Fa (o_bs Y Y Y Y) (Fg [0,2] Y Y Y Y (by simp) (.inl Y) (cg_234 _ hc _ _ hi _ _ Y (by simp) (by simp)) ?_))
 rintro u L1 ⟨⟨z,rfl,hz⟩,i,h,hi,rfl⟩
 refine⟨_,_,Y,Y,?_⟩
 simp only[List.mem_cons,List.not_mem_nil,or_false] at hz
 have hbz:=req5 hz
 have hlz:=limit_pos hz
 refine Ea Y (Fa (o_bs Y Y Y Y) (Fg [0,3] Y Y Y Y (by simp) (.inl Y) (cg_234 _ hc _ _ hi _ _ Y (by simp) (by simp)) ?_))
 rintro u L1 ⟨⟨bu,rfl,hbu⟩,i,h,hi,rfl⟩
 refine⟨_,_,Y,Y,?_⟩
 simp only[List.mem_cons,List.not_mem_nil,or_false] at hbu
 refine Ea Y (Fg [0] Y Y Y Y (by simp) (.inl Y) (cg_233 _ hc _ _ hi _) ?_)
 rintro u L1 ⟨⟨lk,rfl⟩,i,h,hi,rfl⟩
 refine⟨_,_,Y,Y,?_⟩
 refine u_bd Y Y (Fu Y Y (Eo (Er Y Y Y Y Y Y Y) (z_q [0,2,3] Y (Ee Y (Ej Y Y Y (Ev Y Y (c_183 _) (Ea Y (z_q [0,2,3,4] Y (Ea Y (Ea Y (Fg [0] Y Y Y Y (by simp) (.inl Y) (cg_228 _ hc _ _ hi _) ?_)))))))))))
 rintro u L1 ⟨⟨a1,rfl,ha1⟩,i,h,hi,rfl⟩
 refine⟨_,_,Y,Y,?_⟩
 refine Ea Y (Fg [0] Y Y Y Y (by simp) (.inl Y) (cg_228 _ hc _ _ hi _) ?_)
 rintro u L1 ⟨⟨a2,rfl,ha2⟩,i,h,hi,rfl⟩
 refine⟨_,_,Y,Y,?_⟩
 refine Ea Y (Fg [0] Y Y Y Y (by simp) (.inl Y) (cg_228 _ hc _ _ hi _) ?_)
 rintro u L1 ⟨⟨a3,rfl,ha3⟩,i,h,hi,rfl⟩
 refine⟨_,_,Y,Y,?_⟩
 refine Fa (Fn Y Y (by omega)) (Ea Y (Fg [0] Y Y Y Y (by simp) (.inl Y) (cg_228 _ hc _ _ hi _) ?_))
 rintro u L1 ⟨⟨a4,rfl,ha4⟩,i,h,hi,rfl⟩
 refine⟨_,_,Y,Y,?_⟩
 refine Fa (Fn Y Y (by omega)) (Ea Y (Fg [0] Y Y Y Y (by simp) (.inl Y) (cg_228 _ hc _ _ hi _) ?_))
 rintro u L1 ⟨⟨a5,rfl,ha5⟩,i,h,hi,rfl⟩
 refine⟨_,_,Y,Y,?_⟩
 refine Fa (o_bs Y Y Y Y) (Ek (is:=[0,2,3,4,20,33]) Y (Fg [0,5] Y Y Y Y (by simp) (.inl Y) (cg_234 _ hc _ _ hi _ _ Y (by simp) (by simp)) ?_))
 rintro u L1 ⟨⟨av,rfl,hav⟩,i,h,hi,rfl⟩
 refine⟨_,_,Y,Y,?_⟩
 simp only[List.mem_cons,List.not_mem_nil,or_false] at hav
 refine Ea Y (u_quo Y Y (by omega) (Ea Y (u_mul Y Y (Ee Y (Eo (o_stC Y Y Y Y Y Y) (Em [0,2,3] Y (Ey (Et (Ee Y (Ej Y Y Y (Ee Y (Ej Y Y Y (Ee Y (Ej Y Y Y (Ev Y Y (c_180 _ _ _) (Fk Y (Em [0,2,3,47] Y (s_condNB Y ?_ ?_))))))))))))))))))
 intro h1
 refine Fs (Ee Y (Eo (o_stC Y Y Y Y Y Y) (Em [0,2,3] Y (Ey (Et (Ea Y (Ez (Eu ?_))))))))
 refine Ei [0,2,3,5] Y (Fh (s_nilC 4 5 1 Y Y Y Y Y (S_loop (ι:=(Int×List Int×Int×Int×Int)) (fun p=>0≤p.1∧(p.2.1.length:Int)=p.1∧p.1≤8∧0≤p.2.2.2.1∧p.2.2.2.1≤code.length) (fun p=>[(5,.w (.int .i64 p.1))]) (fun p=>[cur code p.2.2.2.1 p.2.2.2.2,.cell [.w (.bool false),.w (.int .i64 0),.w (.int .i64 0),.w (.int .i64 0),.w (.bool false),.w (.slice none 0 0)],.arr 1 [[.w (.int .i64 2)],[.w (.int .i64 2)],[.w (.int .i64 2)],[.w (.int .i64 0)],[.w (.int .i64 1)]],.arr 1 [[.w (.int .i64 0)],[.w (.int .i64 0)],[.w (.int .i64 1)],[.w (.int .i64 2)],[.w (.int .i64 3)]],.cell [.w (.bool wr),.w (.int .i64 (IntKind.wrap .i64 (IntKind.wrap .i64 (av.tdiv (bytes z)) * bytes z))),.w (.int .i64 z),.w (.int .i64 p.2.2.1),.w (.bool lk),.ls 6 (p.2.1.map iR).length],.arr 1 [[.w (.int .i64 a1)],[.w (.int .i64 a2)],[.w (.int .i64 (128+a3))],[.w (.int .i64 (192+a4))],[.w (.int .i64 a5)]],.arr 1 (p.2.1.map iR)]) (fun p=>(8-p.1).toNat) 7 (0,[],_,i,h) ⟨by simp only;omega,rfl,by simp only;omega,hi⟩ Y (hasOf ⟨Y,trivial⟩ Y) Y (fun _ _=>Y) (fun _ _=>⟨Y,Y⟩) ?_)))
 rintro⟨n,xs,bu,i,h⟩ hp
 obtain⟨hn0,hn1,hn2,hi⟩:=hp
 simp only at hn0 hn1 hn2 hi
 have hbb:=beats_bd bu
 have hml:(xs.map iR).length=xs.length:=List.length_map ..
 refine Ei [0,2,3,5] Y ?_
 dsimp only
 refine Ey (Et (Ea Y (Ee Y (Ej Y Y Y (Ev Y Y (c_173 _) (u_lss Y Y (Ea Y (Ft Y ?_ ?_))))))))
 intro h2
 refine Ee Y (Ec Y (Ej Y Y Y (Eg Y Y (Em [0,2,3,5,55,56,57] Y (s_condB Y ?_ ?_)))))
 intro h3
 refine z_s [0,2,3,5,55,56] Y (Ey (Fh (s_rgH [0] Y (h_op (o_faC Y) Y (h_op (o_ldC Y Y Y) Y (h_op (o_mv Y) Y (h_op (o_mv Y) Y (h_op (o_faC Y) Y (h_op (o_ldC Y Y Y) Y (h_call Y Y (c_201 _) Y (h_op (o_mn Y) Y (h_op (o_faC Y) Y (h_op (o_ldC Y Y Y) Y (h_call Y Y (c_201 _) Y (h_op (o_bs Y Y Y Y) Y (h_callG [0] [7] Y Y Y Y Y Y (by simp) Y (cg_234 _ hc _ _ hi _ _ Y (by simp) (by simp)) (words_iR _ _ Y) ?_))))))))))))))))
 rintro u L1 ⟨⟨w0,rfl,hw0⟩,i,h,hi,rfl⟩
 refine⟨Y,_,_,_,_,Y,Y,Y,Y,?_⟩
 simp only[List.mem_cons,List.not_mem_nil,or_false] at hw0
 refine h_callG [0] [] Y Y Y Y Y Y (by simp) Y (cg_228 _ hc _ _ hi _) (by simp) ?_
 rintro u L1 ⟨⟨v,rfl,hv⟩,i,h,hi,rfl⟩
 refine⟨Y,_,_,_,_,Y,Y,Y,Y,?_⟩
 refine h_op (o_bs Y Y Y Y) Y (h_bar Y (Ek (is:=[0,2,3,5,55,56,61,74]) Y ?_))
 refine Fa (o_appL Y Y Y Y Y Y Y (by simp [roomy];omega)) ?_
 refine Ee Y (Eo (o_stC Y Y Y Y Y Y) (Ez (Fb (Eu (Ei [0,2,3,5,55,56] Y (Fs (Ea Y (Fa (Fn Y Y (by omega)) (Ea Y (Ez (Fp ?_)))))))))))
 ·refine⟨(n+1,xs++[v],bu,i,h),⟨by simp only;omega,by simp only[List.length_append,List.length_cons,List.length_nil];omega,by simp only;omega,hi⟩,by simp only;omega,hasOf ⟨rfl,trivial⟩ ?_⟩
  simp only[List.map_append];rfl
 intro h3
 refine s_exit (q_seqX (q_loopX (q_blkH (Eu (Ei [2,3] Y (Et (En Y Y Y (Eo (Er Y Y Y Y Y Y Y) (Em [2] Y (Eh ?_))))))))))
 rotate_left
 intro h2
 refine Eb Y (Eb Y (Ed Y Y (Em [0,2,3,5,55,56,57] Y (Fi Y (s_exit (q_seqX (q_loopX (q_blkH (Eu (Ei [2,3] Y (Et (En Y Y Y (Eo (Er Y Y Y Y Y Y Y) (Em [2] Y (Eh ?_)))))))))))))))
 rotate_left
 intro h1
 refine z_s [0,2,3] Y (Ey (Et (Ea Y (Em [0,2,3,5] Y (Fh (s_nilC 4 5 1 Y Y Y Y Y ?_))))))
 refine S_loop (ι:=(Int×List Int×Int×Int×Int)) (fun p=>0≤p.1∧(p.2.1.length:Int)=p.1∧p.1≤8∧0≤p.2.2.2.1∧p.2.2.2.1≤code.length) (fun p=>[(5,.w (.int .i64 p.1))]) (fun p=>[cur code p.2.2.2.1 p.2.2.2.2,.cell [.w (.bool false),.w (.int .i64 0),.w (.int .i64 0),.w (.int .i64 0),.w (.bool false),.w (.slice none 0 0)],.arr 1 [[.w (.int .i64 2)],[.w (.int .i64 2)],[.w (.int .i64 2)],[.w (.int .i64 0)],[.w (.int .i64 1)]],.arr 1 [[.w (.int .i64 0)],[.w (.int .i64 0)],[.w (.int .i64 1)],[.w (.int .i64 2)],[.w (.int .i64 3)]],.cell [.w (.bool wr),.w (.int .i64 (IntKind.wrap .i64 (IntKind.wrap .i64 (av.tdiv (bytes z)) * bytes z))),.w (.int .i64 z),.w (.int .i64 p.2.2.1),.w (.bool lk),.ls 6 (p.2.1.map iR).length],.arr 1 [[.w (.int .i64 a1)],[.w (.int .i64 a2)],[.w (.int .i64 (128+a3))],[.w (.int .i64 (192+a4))],[.w (.int .i64 a5)]],.arr 1 (p.2.1.map iR)]) (fun p=>(8-p.1).toNat) 7 (0,[],_,i,h) ⟨by simp only;omega,rfl,by simp only;omega,hi⟩ Y (hasOf ⟨Y,trivial⟩ Y) Y (fun _ _=>Y) (fun _ _=>⟨Y,Y⟩) ?_
 rintro⟨n,xs,bu,i,h⟩ hp
 obtain⟨hn0,hn1,hn2,hi⟩:=hp
 simp only at hn0 hn1 hn2 hi
 have hbb:=beats_bd bu
 have hml:(xs.map iR).length=xs.length:=List.length_map ..
 refine Ei [0,2,3,5] Y ?_
 dsimp only
 refine Ey (Et (Ea Y (Ee Y (Ej Y Y Y (Ev Y Y (c_173 _) (u_lss Y Y (Ea Y (Ft Y ?_ ?_))))))))
 intro h4
 refine Ee Y (Ec Y (Ej Y Y Y (Eg Y Y (Em [0,2,3,5,55,56,57] Y (s_condB Y ?_ ?_)))))
 intro h5
 refine z_s [0,2,3,5,55,56] Y (Ey (Fh (s_rgH [0] Y (h_op (o_faC Y) Y (h_op (o_ldC Y Y Y) Y (h_op (o_mv Y) Y (h_op (o_mv Y) Y (h_op (o_faC Y) Y (h_op (o_ldC Y Y Y) Y (h_call Y Y (c_201 _) Y (h_op (o_mn Y) Y (h_op (o_faC Y) Y (h_op (o_ldC Y Y Y) Y (h_call Y Y (c_201 _) Y (h_op (o_bs Y Y Y Y) Y (h_callG [0] [7] Y Y Y Y Y Y (by simp) Y (cg_234 _ hc _ _ hi _ _ Y (by simp) (by simp)) (words_iR _ _ Y) ?_))))))))))))))))
 rintro u L1 ⟨⟨w0,rfl,hw0⟩,i,h,hi,rfl⟩
 refine⟨Y,_,_,_,_,Y,Y,Y,Y,?_⟩
 simp only[List.mem_cons,List.not_mem_nil,or_false] at hw0
 refine h_callG [0] [] Y Y Y Y Y Y (by simp) Y (cg_228 _ hc _ _ hi _) (by simp) ?_
 rintro u L1 ⟨⟨v,rfl,hv⟩,i,h,hi,rfl⟩
 refine⟨Y,_,_,_,_,Y,Y,Y,Y,?_⟩
 refine h_op (o_bs Y Y Y Y) Y (h_bar Y (Ek (is:=[0,2,3,5,55,56,61,74]) Y ?_))
 refine Fa (o_appL Y Y Y Y Y Y Y (by simp [roomy];omega)) ?_
 refine Ee Y (Eo (o_stC Y Y Y Y Y Y) (Ez (Fb (Eu (Ei [0,2,3,5,55,56] Y (Fs (Ea Y (Fa (Fn Y Y (by omega)) (Ea Y (Ez (Fp ?_)))))))))))
 ·refine⟨(n+1,xs++[v],bu,i,h),⟨by simp only;omega,by simp only[List.length_append,List.length_cons,List.length_nil];omega,by simp only;omega,hi⟩,by simp only;omega,hasOf ⟨rfl,trivial⟩ ?_⟩
  simp only[List.map_append];rfl
 intro h5
 refine s_exit (q_seqX (q_loopX (q_blkH (Eu (Ei [2,3] Y (Et (En Y Y Y (Eo (Er Y Y Y Y Y Y Y) (Em [2] Y (Eh ?_))))))))))
 rotate_left
 intro h4
 refine Eb Y (Eb Y (Ed Y Y (Em [0,2,3,5,55,56,57] Y (Fi Y (s_exit (q_seqX (q_loopX (q_blkH (Eu (Ei [2,3] Y (Et (En Y Y Y (Eo (Er Y Y Y Y Y Y Y) (Em [2] Y (Eh ?_)))))))))))))))
 rotate_left
 all_goals
  refine retF_leaf (.inr Y) Y Y (by simp) Y ?_
  exact⟨⟨⟨wr,_,z,bu,lk,xs⟩,Y,by simp only;omega⟩,_,_,(by omega),Y⟩
theorem cgo_241 (code:List Int) (hc:code.length≤1048576) (i h:Int) (hi:0≤i∧i≤code.length):GV prg 241 [cur code i h] [.cp 0 0] (fun u L1=>∃ (x:Req) (i h:Int),u=.agg [.w (.bool x.write),.w (.int .i64 x.addr),.w (.int .i64 x.size),.w (.int .i64 x.burst),.w (.bool x.lock),.ls 1 x.data.length]∧x.data.length≤8∧(0≤i∧i≤code.length)∧L1=[cur code i h,.arr 1 (x.data.map iR)]):=by
 refine gv_in g241 (Ei [0] Y (Et (Fu Y Y (z_q [0,2] Y (Ea Y (Fg [0] Y Y Y Y (by simp) (.inl Y) (cg_233 _ hc _ _ hi _) ?_))))))
 rintro u L1 ⟨⟨wr,rfl⟩,i,h,hi,rfl⟩
 refine⟨_,_,Y,Y,?_⟩
 refine Ea Y (Fa (o_bs Y Y Y Y) (Fg [0,2] Y Y Y Y (by simp) (.inl Y) (cg_234 _ hc _ _ hi _ _ Y (by simp) (by simp)) ?_))
 rintro u L1 ⟨⟨z,rfl,hz⟩,i,h,hi,rfl⟩
 refine⟨_,_,Y,Y,?_⟩
 simp only[List.mem_cons,List.not_mem_nil,or_false] at hz
 have hbz:=req5 hz
 have hlz:=limit_pos hz
 refine Ea Y (Fa (o_bs Y Y Y Y) (Fg [0,3] Y Y Y Y (by simp) (.inl Y) (cg_234 _ hc _ _ hi _ _ Y (by simp) (by simp)) ?_))
 rintro u L1 ⟨⟨bu,rfl,hbu⟩,i,h,hi,rfl⟩
 refine⟨_,_,Y,Y,?_⟩
 simp only[List.mem_cons,List.not_mem_nil,or_false] at hbu
 refine Ea Y (Fg [0] Y Y Y Y (by simp) (.inl Y) (cg_233 _ hc _ _ hi _) ?_)
 rintro u L1 ⟨⟨lk,rfl⟩,i,h,hi,rfl⟩
 refine⟨_,_,Y,Y,?_⟩
 refine u_bd Y Y (Fu Y Y (Eo (Er Y Y Y Y Y Y Y) (z_q [0,2,3] Y (Ee Y (Ej Y Y Y (Ev Y Y (c_183 _) (Ea Y (z_q [0,2,3,4] Y (Ea Y (Ea Y (Fg [0] Y Y Y Y (by simp) (.inl Y) (cg_228 _ hc _ _ hi _) ?_)))))))))))
 rintro u L1 ⟨⟨a1,rfl,ha1⟩,i,h,hi,rfl⟩
 refine⟨_,_,Y,Y,?_⟩
 refine Ea Y (Fg [0] Y Y Y Y (by simp) (.inl Y) (cg_228 _ hc _ _ hi _) ?_)
 rintro u L1 ⟨⟨a2,rfl,ha2⟩,i,h,hi,rfl⟩
 refine⟨_,_,Y,Y,?_⟩
 refine Ea Y (Fg [0] Y Y Y Y (by simp) (.inl Y) (cg_228 _ hc _ _ hi _) ?_)
 rintro u L1 ⟨⟨a3,rfl,ha3⟩,i,h,hi,rfl⟩
 refine⟨_,_,Y,Y,?_⟩
 refine Fa (Fn Y Y (by omega)) (Ea Y (Fg [0] Y Y Y Y (by simp) (.inl Y) (cg_228 _ hc _ _ hi _) ?_))
 rintro u L1 ⟨⟨a4,rfl,ha4⟩,i,h,hi,rfl⟩
 refine⟨_,_,Y,Y,?_⟩
 refine Fa (Fn Y Y (by omega)) (Ea Y (Fg [0] Y Y Y Y (by simp) (.inl Y) (cg_228 _ hc _ _ hi _) ?_))
 rintro u L1 ⟨⟨a5,rfl,ha5⟩,i,h,hi,rfl⟩
 refine⟨_,_,Y,Y,?_⟩
 refine Fa (o_bs Y Y Y Y) (Ek (is:=[0,2,3,4,20,33]) Y (Fg [0,5] Y Y Y Y (by simp) (.inl Y) (cg_234 _ hc _ _ hi _ _ Y (by simp) (by simp)) ?_))
 rintro u L1 ⟨⟨av,rfl,hav⟩,i,h,hi,rfl⟩
 refine⟨_,_,Y,Y,?_⟩
 simp only[List.mem_cons,List.not_mem_nil,or_false] at hav
 refine Ea Y (u_quo Y Y (by omega) (Ea Y (u_mul Y Y (Ee Y (Eo (o_stC Y Y Y Y Y Y) (Em [0,2,3] Y (Ey (Et (Ee Y (Ej Y Y Y (Ee Y (Ej Y Y Y (Ee Y (Ej Y Y Y (Ev Y Y (c_180 _ _ _) (Fk Y (Em [0,2,3,47] Y (s_condNB Y ?_ ?_))))))))))))))))))
 intro h1
 refine Fs (Ee Y (Eo (o_stC Y Y Y Y Y Y) (Em [0,2,3] Y (Ey (Et (Ea Y (Ez (Eu ?_))))))))
 refine Ei [0,2,3,5] Y (Fh (s_nilC 4 5 1 Y Y Y Y Y (S_loop (ι:=(Int×List Int×Int×Int×Int)) (fun p=>0≤p.1∧(p.2.1.length:Int)=p.1∧p.1≤8∧0≤p.2.2.2.1∧p.2.2.2.1≤code.length) (fun p=>[(5,.w (.int .i64 p.1))]) (fun p=>[cur code p.2.2.2.1 p.2.2.2.2,.cell [.w (.bool false),.w (.int .i64 0),.w (.int .i64 0),.w (.int .i64 0),.w (.bool false),.w (.slice none 0 0)],.arr 1 [[.w (.int .i64 2)],[.w (.int .i64 2)],[.w (.int .i64 2)],[.w (.int .i64 0)],[.w (.int .i64 1)]],.arr 1 [[.w (.int .i64 0)],[.w (.int .i64 0)],[.w (.int .i64 1)],[.w (.int .i64 2)],[.w (.int .i64 3)]],.cell [.w (.bool wr),.w (.int .i64 (IntKind.wrap .i64 (IntKind.wrap .i64 (av.tdiv (bytes z)) * bytes z))),.w (.int .i64 z),.w (.int .i64 p.2.2.1),.w (.bool lk),.ls 6 (p.2.1.map iR).length],.arr 1 [[.w (.int .i64 a1)],[.w (.int .i64 a2)],[.w (.int .i64 (128+a3))],[.w (.int .i64 (192+a4))],[.w (.int .i64 a5)]],.arr 1 (p.2.1.map iR)]) (fun p=>(8-p.1).toNat) 7 (0,[],_,i,h) ⟨by simp only;omega,rfl,by simp only;omega,hi⟩ Y (hasOf ⟨Y,trivial⟩ Y) Y (fun _ _=>Y) (fun _ _=>⟨Y,Y⟩) ?_)))
 rintro⟨n,xs,bu,i,h⟩ hp
 obtain⟨hn0,hn1,hn2,hi⟩:=hp
 simp only at hn0 hn1 hn2 hi
 have hbb:=beats_bd bu
 have hml:(xs.map iR).length=xs.length:=List.length_map ..
 refine Ei [0,2,3,5] Y ?_
 dsimp only
 refine Ey (Et (Ea Y (Ee Y (Ej Y Y Y (Ev Y Y (c_173 _) (u_lss Y Y (Ea Y (Ft Y ?_ ?_))))))))
 intro h2
 refine Ee Y (Ec Y (Ej Y Y Y (Eg Y Y (Em [0,2,3,5,55,56,57] Y (s_condB Y ?_ ?_)))))
 intro h3
 refine z_s [0,2,3,5,55,56] Y (Ey (Fh (s_rgH [0] Y (h_op (o_faC Y) Y (h_op (o_ldC Y Y Y) Y (h_op (o_mv Y) Y (h_op (o_mv Y) Y (h_op (o_faC Y) Y (h_op (o_ldC Y Y Y) Y (h_call Y Y (c_201 _) Y (h_op (o_mn Y) Y (h_op (o_faC Y) Y (h_op (o_ldC Y Y Y) Y (h_call Y Y (c_201 _) Y (h_op (o_bs Y Y Y Y) Y (h_callG [0] [7] Y Y Y Y Y Y (by simp) Y (cg_234 _ hc _ _ hi _ _ Y (by simp) (by simp)) (words_iR _ _ Y) ?_))))))))))))))))
 rintro u L1 ⟨⟨w0,rfl,hw0⟩,i,h,hi,rfl⟩
 refine⟨Y,_,_,_,_,Y,Y,Y,Y,?_⟩
 simp only[List.mem_cons,List.not_mem_nil,or_false] at hw0
 refine h_callG [0] [] Y Y Y Y Y Y (by simp) Y (cg_228 _ hc _ _ hi _) (by simp) ?_
 rintro u L1 ⟨⟨v,rfl,hv⟩,i,h,hi,rfl⟩
 refine⟨Y,_,_,_,_,Y,Y,Y,Y,?_⟩
 refine h_op (o_bs Y Y Y Y) Y (h_bar Y (Ek (is:=[0,2,3,5,55,56,61,74]) Y ?_))
 refine Fa (o_appL Y Y Y Y Y Y Y (by simp [roomy];omega)) ?_
 refine Ee Y (Eo (o_stC Y Y Y Y Y Y) (Ez (Fb (Eu (Ei [0,2,3,5,55,56] Y (Fs (Ea Y (Fa (Fn Y Y (by omega)) (Ea Y (Ez (Fp ?_)))))))))))
 ·refine⟨(n+1,xs++[v],bu,i,h),⟨by simp only;omega,by simp only[List.length_append,List.length_cons,List.length_nil];omega,by simp only;omega,hi⟩,by simp only;omega,hasOf ⟨rfl,trivial⟩ ?_⟩
  simp only[List.map_append];rfl
 intro h3
 refine s_exit (q_seqX (q_loopX (q_blkH (Eu (Ei [2,3] Y (Et (En Y Y Y (Eo (Er Y Y Y Y Y Y Y) (Em [2] Y (Eh ?_))))))))))
 rotate_left
 intro h2
 refine Eb Y (Eb Y (Ed Y Y (Em [0,2,3,5,55,56,57] Y (Fi Y (s_exit (q_seqX (q_loopX (q_blkH (Eu (Ei [2,3] Y (Et (En Y Y Y (Eo (Er Y Y Y Y Y Y Y) (Em [2] Y (Eh ?_)))))))))))))))
 rotate_left
 intro h1
 refine z_s [0,2,3] Y (Ey (Et (Ea Y (Em [0,2,3,5] Y (Fh (s_nilC 4 5 1 Y Y Y Y Y ?_))))))
 refine S_loop (ι:=(Int×List Int×Int×Int×Int)) (fun p=>0≤p.1∧(p.2.1.length:Int)=p.1∧p.1≤8∧0≤p.2.2.2.1∧p.2.2.2.1≤code.length) (fun p=>[(5,.w (.int .i64 p.1))]) (fun p=>[cur code p.2.2.2.1 p.2.2.2.2,.cell [.w (.bool false),.w (.int .i64 0),.w (.int .i64 0),.w (.int .i64 0),.w (.bool false),.w (.slice none 0 0)],.arr 1 [[.w (.int .i64 2)],[.w (.int .i64 2)],[.w (.int .i64 2)],[.w (.int .i64 0)],[.w (.int .i64 1)]],.arr 1 [[.w (.int .i64 0)],[.w (.int .i64 0)],[.w (.int .i64 1)],[.w (.int .i64 2)],[.w (.int .i64 3)]],.cell [.w (.bool wr),.w (.int .i64 (IntKind.wrap .i64 (IntKind.wrap .i64 (av.tdiv (bytes z)) * bytes z))),.w (.int .i64 z),.w (.int .i64 p.2.2.1),.w (.bool lk),.ls 6 (p.2.1.map iR).length],.arr 1 [[.w (.int .i64 a1)],[.w (.int .i64 a2)],[.w (.int .i64 (128+a3))],[.w (.int .i64 (192+a4))],[.w (.int .i64 a5)]],.arr 1 (p.2.1.map iR)]) (fun p=>(8-p.1).toNat) 7 (0,[],_,i,h) ⟨by simp only;omega,rfl,by simp only;omega,hi⟩ Y (hasOf ⟨Y,trivial⟩ Y) Y (fun _ _=>Y) (fun _ _=>⟨Y,Y⟩) ?_
 rintro⟨n,xs,bu,i,h⟩ hp
 obtain⟨hn0,hn1,hn2,hi⟩:=hp
 simp only at hn0 hn1 hn2 hi
 have hbb:=beats_bd bu
 have hml:(xs.map iR).length=xs.length:=List.length_map ..
 refine Ei [0,2,3,5] Y ?_
 dsimp only
 refine Ey (Et (Ea Y (Ee Y (Ej Y Y Y (Ev Y Y (c_173 _) (u_lss Y Y (Ea Y (Ft Y ?_ ?_))))))))
 intro h4
 refine Ee Y (Ec Y (Ej Y Y Y (Eg Y Y (Em [0,2,3,5,55,56,57] Y (s_condB Y ?_ ?_)))))
 intro h5
 refine z_s [0,2,3,5,55,56] Y (Ey (Fh (s_rgH [0] Y (h_op (o_faC Y) Y (h_op (o_ldC Y Y Y) Y (h_op (o_mv Y) Y (h_op (o_mv Y) Y (h_op (o_faC Y) Y (h_op (o_ldC Y Y Y) Y (h_call Y Y (c_201 _) Y (h_op (o_mn Y) Y (h_op (o_faC Y) Y (h_op (o_ldC Y Y Y) Y (h_call Y Y (c_201 _) Y (h_op (o_bs Y Y Y Y) Y (h_callG [0] [7] Y Y Y Y Y Y (by simp) Y (cg_234 _ hc _ _ hi _ _ Y (by simp) (by simp)) (words_iR _ _ Y) ?_))))))))))))))))
 rintro u L1 ⟨⟨w0,rfl,hw0⟩,i,h,hi,rfl⟩
 refine⟨Y,_,_,_,_,Y,Y,Y,Y,?_⟩
 simp only[List.mem_cons,List.not_mem_nil,or_false] at hw0
 refine h_callG [0] [] Y Y Y Y Y Y (by simp) Y (cg_228 _ hc _ _ hi _) (by simp) ?_
 rintro u L1 ⟨⟨v,rfl,hv⟩,i,h,hi,rfl⟩
 refine⟨Y,_,_,_,_,Y,Y,Y,Y,?_⟩
 refine h_op (o_bs Y Y Y Y) Y (h_bar Y (Ek (is:=[0,2,3,5,55,56,61,74]) Y ?_))
 refine Fa (o_appL Y Y Y Y Y Y Y (by simp [roomy];omega)) ?_
 refine Ee Y (Eo (o_stC Y Y Y Y Y Y) (Ez (Fb (Eu (Ei [0,2,3,5,55,56] Y (Fs (Ea Y (Fa (Fn Y Y (by omega)) (Ea Y (Ez (Fp ?_)))))))))))
 ·refine⟨(n+1,xs++[v],bu,i,h),⟨by simp only;omega,by simp only[List.length_append,List.length_cons,List.length_nil];omega,by simp only;omega,hi⟩,by simp only;omega,hasOf ⟨rfl,trivial⟩ ?_⟩
  simp only[List.map_append];rfl
 intro h5
 refine s_exit (q_seqX (q_loopX (q_blkH (Eu (Ei [2,3] Y (Et (En Y Y Y (Eo (Er Y Y Y Y Y Y Y) (Em [2] Y (Eh ?_))))))))))
 rotate_left
 intro h4
 refine Eb Y (Eb Y (Ed Y Y (Em [0,2,3,5,55,56,57] Y (Fi Y (s_exit (q_seqX (q_loopX (q_blkH (Eu (Ei [2,3] Y (Et (En Y Y Y (Eo (Er Y Y Y Y Y Y Y) (Em [2] Y (Eh ?_)))))))))))))))
 rotate_left
 all_goals
  refine Fv [6] (.inr Y) Y Y Y Y (show(List.range 1++[6]).Nodup by decide) ?_
  exact⟨⟨wr,IntKind.wrap .i64 (IntKind.wrap .i64 (av.tdiv (bytes z)) * bytes z),z,bu,lk,xs⟩,_,_,(by simp),(by simp only;omega),(by omega),Y⟩
theorem cg_239 (code:List Int) (hc:code.length≤1048576) (i h:Int) (hi:0≤i∧i≤code.length):GV prg 239 [cur code i h] [.cp 0 0] (fun u L1=>(∃ x:Req,u=.agg x.r∧x.data.length≤16)∧∃ (i h:Int),(0≤i∧i≤code.length)∧L1=[cur code i h]):=by
 refine gv_inF g239 (Ei [0] Y (Et (Fu Y Y (z_q [0,2] Y (Ea Y (Fg [0] Y Y Y Y (by simp) (.inl Y) (cgo_241 _ hc _ _ hi) ?_))))))
 rintro u L1 ⟨z,i,h,rfl,hz,hi,rfl⟩
 refine⟨_,_,Y,Y,?_⟩
 refine Fu Y Y (Eo (Er Y Y Y Y Y Y Y) (Em [0,2,3] Y (Ey (Et (Ea Y (Fg [0] Y Y Y Y (by simp) (.inl Y) (cg_228 _ hc _ _ hi _) ?_))))))
 rintro u L1 ⟨⟨x,rfl,hx⟩,i,h,hi,rfl⟩
 refine⟨_,_,Y,Y,?_⟩
 refine Em [0,2,3,7] Y (Fh (Et (Fm Y Y (Ea Y (Em [0,2,3,7,8] Y (Ew Y ?_ ?_))))))
 intro h1
 refine Fs (Ea Y (Fa (o_bs Y Y Y Y) (Fg [0,4] Y Y Y Y (by simp) (.inl Y) (cg_234 _ hc _ _ hi _ _ Y (by simp) (by simp)) ?_)))
 rintro u L1 ⟨⟨x,rfl,hx⟩,i,h,hi,rfl⟩
 refine⟨_,_,Y,Y,?_⟩
 simp only[List.mem_cons,List.not_mem_nil,or_false] at hx
 refine Ee Y (Eo (o_stC Y Y Y Y Y Y) (Ez (Fb (Eu (Ei [2,3] Y (Et (En Y Y Y (Eo (Er Y Y Y Y Y Y Y) (Em [2] Y (Eh ?_))))))))))
 rotate_left
 intro h1
 refine Et (Fm Y Y (Ea Y (Em [0,2,3,7,14] Y (Ew Y ?_ ?_))))
 intro h2
 refine Fs (Ee Y (Ej Y Y Y (Fk Y (Ee Y (Eo (o_stC Y Y Y Y Y Y) (Ez (Fb (Eu (Ei [2,3] Y (Et (En Y Y Y (Eo (Er Y Y Y Y Y Y Y) (Em [2] Y (Eh ?_))))))))))))))
 rotate_left
 intro h2
 refine Et (Fm Y Y (Ea Y (Em [0,2,3,7,20] Y (Ew Y ?_ ?_))))
 intro h3
 refine Fs (Ea Y (Fg [0] Y Y Y Y (by simp) (.inl Y) (cg_237 _ hc _ _ hi) ?_))
 rintro u L1 ⟨⟨x,rfl,hx⟩,i,h,hi,rfl⟩
 refine⟨_,_,Y,Y,?_⟩
 refine Ee Y (Eo (o_stC Y Y Y Y Y Y) (Ez (Fb (Eu (Ei [2,3] Y (Et (En Y Y Y (Eo (Er Y Y Y Y Y Y Y) (Em [2] Y (Eh ?_))))))))))
 rotate_left
 intro h3
 refine Et (Fm Y Y (Ea Y (Em [0,2,3,7,25] Y (Ew Y ?_ ?_))))
 intro h4
 refine Fs (Ea Y (Fg [0] Y Y Y Y (by simp) (.inl Y) (cg_237 _ hc _ _ hi) ?_))
 rintro u L1 ⟨⟨x,rfl,hx⟩,i,h,hi,rfl⟩
 refine⟨_,_,Y,Y,?_⟩
 refine Ee Y (Eo (o_stC Y Y Y Y Y Y) (Ez (Fb (Eu (Ei [2,3] Y (Et (En Y Y Y (Eo (Er Y Y Y Y Y Y Y) (Em [2] Y (Eh ?_))))))))))
 rotate_left
 intro h4
 refine Et (Fm Y Y (Ea Y (Em [2,3,30] Y (Ew Y ?_ ?_))))
 intro h5
 refine Fs (Ee Y (Ej Y Y Y (Fa (o_bs Y Y Y Y) ?_)))
 refine Fa (o_appL Y Y (by simp) Y Y Y Y (by simp [roomy];omega)) ?_
 refine Ee Y (Eo (o_stC Y Y Y Y Y Y) (Ez (Fb (Eu (Ei [2,3] Y (Et (En Y Y Y (Eo (Er Y Y Y Y Y Y Y) (Em [2] Y (Eh ?_))))))))))
 rotate_left
 intro h5
 refine Fr (Fb (Eu (Ei [2,3] Y (Et (En Y Y Y (Eo (Er Y Y Y Y Y Y Y) (Em [2] Y (Eh ?_))))))))
 rotate_left
 all_goals
  refine retF_leaf (.inr Y) Y Y (by simp) Y ?_
  first|exact⟨⟨⟨z.write,z.addr,z.size,z.burst,z.lock,z.data⟩,Y,by simp only;omega⟩,_,_,(by omega),Y⟩|exact⟨⟨⟨z.write,x,z.size,z.burst,z.lock,z.data⟩,Y,by simp only;omega⟩,_,_,(by omega),Y⟩|exact⟨⟨⟨(!z.write),z.addr,z.size,z.burst,z.lock,z.data⟩,Y,by simp only;omega⟩,_,_,(by omega),Y⟩|exact⟨⟨⟨z.write,z.addr,x,z.burst,z.lock,z.data⟩,Y,by simp only;omega⟩,_,_,(by omega),Y⟩|exact⟨⟨⟨z.write,z.addr,z.size,x,z.lock,z.data⟩,Y,by simp only;omega⟩,_,_,(by omega),Y⟩|exact⟨⟨⟨z.write,z.addr,z.size,z.burst,z.lock,z.data++[1]⟩,(by simp only[Req.r,List.map_append];rfl),by simp only[List.length_append,List.length_cons,List.length_nil];omega⟩,_,_,(by omega),Y⟩
theorem cg_248 (code:List Int) (hc:code.length≤1048576) (i h:Int) (hi:0≤i∧i≤code.length) (most:Int) (hm:most≤16):GV prg 248 [cur code i h] [.cp 0 0,.w (.int .i64 most)] (fun u L1=>(∃ l:List Int,u=.sl 1 (l.map iR)∧l.length≤6∧∀ y,y∈l→0≤y∧y≤16)∧∃ (i h:Int),(0≤i∧i≤code.length)∧L1=[cur code i h]):=by
 refine gv_inF g248 (Ei [0,1] Y (Et (Ea Y (z_q [0,1] Y (Fa (o_bs Y Y Y Y) (Ea Y (Em [0,1,5] Y (Ey (Et (Ea Y (Fg [0] Y Y Y Y (by simp) (.inl Y) (cg_228 _ hc _ _ hi _) ?_)))))))))))
 rintro u L1 ⟨⟨n0,rfl,hn0⟩,i,h,hi,rfl⟩
 refine⟨_,_,Y,Y,?_⟩
 refine Ea Y (Em [0,1,5,6] Y (Fh (S_loop (ι:=(Int×List Int×Int×Int)) (fun p=>0≤p.1∧(p.2.1.length:Int)+p.1≤6∧(∀ y,y∈p.2.1→0≤y∧y≤16)∧0≤p.2.2.1∧p.2.2.1≤code.length) (fun p=>[(6,.w (.int .i64 p.1)),(5,.ls 1 (p.2.1.map iR).length)]) (fun p=>[cur code p.2.2.1 p.2.2.2,.arr 1 (p.2.1.map iR)]) (fun p=>p.1.toNat) 2 (n0,[],i,h) ⟨by simp only;omega,by simp only[List.length_nil];omega,(fun y hy=>nomatch hy),hi⟩ Y (hasOf ⟨Y,Y,trivial⟩ Y) Y (fun _ _=>Y) (fun _ _=>⟨Y,Y⟩) ?_)))
 rintro⟨n,l,i,h⟩ hp
 obtain⟨hn0,hn1,hn2,hi⟩:=hp
 simp only at hn0 hn1 hn2 hi
 have hml:(l.map iR).length=l.length:=List.length_map ..
 refine Ei [0,1,5,6] Y ?_
 dsimp only
 refine Ey (Et (Ea Y (u_gtr Y Y (Em [0,1,5,6,11] Y (Ew Y ?_ ?_)))))
 intro h1
 refine z_s [0,1,5,6] Y (Ey (Fh (Fs (Ea Y (Ea Y (Ea Y (Fg [0] Y Y Y Y (by simp) (.inl Y) (cg_228 _ hc _ _ hi _) ?_)))))))
 rintro u L1 ⟨⟨v,rfl,hv⟩,i,h,hi,rfl⟩
 refine⟨_,_,Y,Y,?_⟩
 refine Fa (o_bs Y Y Y Y) ?_
 refine Fa (o_appL Y Y Y Y Y Y Y (by simp [roomy];omega)) ?_
 refine Ea Y (Ez (Fb (Eu (Ei [0,1,5,6] Y (Fs (Ea Y (Fa (o_subn Y Y (by omega)) (Ea Y (Ez (Fp ?_))))))))))
 ·refine⟨(n-1,l++[v],i,h),⟨by simp only;omega,by simp only[List.length_append,List.length_cons,List.length_nil];omega,?_,hi⟩,by simp only;omega,hasOf ⟨rfl,?_,trivial⟩ ?_⟩
  ·intro y hy
   rcases List.mem_append.1 hy with h|h
   ·exact hn2 y h
   ·rw[List.mem_singleton.1 h];omega
  ·simp only[List.map_append];rfl
  ·simp only[List.map_append];rfl
 intro h1
 refine s_exit (q_seqX (q_loopX (q_blkH (Eu (Ei [5] Y (Et (Ea Y (Ea Y (Em [4] Y (Eh ?_))))))))))
 ·refine retF_leaf (.inr Y) Y Y (by simp) Y ?_
  exact⟨⟨l,Y,by omega,hn2⟩,_,_,(by omega),Y⟩
def Script.fit (s:Script):Prop:=s.posts.length≤6∧(∀ p,p∈s.posts→p.req.data.length≤16)∧(s.waits.length≤6∧∀ y,y∈s.waits→0≤y∧y≤16)∧s.says.length≤6∧∀ y,y∈s.says→0≤y∧y≤16
theorem fit_set {s:Script} (h:s.fit) {k:Nat} {p:Post} (hp:p.req.data.length≤16):Script.fit ⟨s.posts.set k p,s.waits,s.says⟩:=by
 obtain⟨h1,h2,h3,h4⟩:=h
 refine⟨by simp only[List.length_set];exact h1,fun q hq=>?_,h3,h4⟩
 rcases List.mem_or_eq_of_mem_set hq with hq|rfl
 ·exact h2 q hq
 ·exact hp
theorem cg_249 (code:List Int) (hc:code.length≤1048576) (i h:Int) (hi:0≤i∧i≤code.length) (x:Conf):GV prg 249 [cur code i h] [.cp 0 0,.agg x.r] (fun u L1=>∃ (s:Script) (i h:Int),u=.agg [.ls 1 s.posts.length,.sl 1 (s.waits.map iR),.sl 1 (s.says.map iR)]∧s.fit∧(0≤i∧i≤code.length)∧L1=[cur code i h,.arr 8 (s.posts.map Post.r)]):=by
 refine gv_in g249 (Ei [0,1] Y (Et (u_box Y Y Y (Fu Y Y (z_q [0,3,4] Y (Ea Y (Fg [0] Y Y Y Y (by simp) (.inl Y) (cg_248 _ hc _ _ hi _ (by omega)) ?_)))))))
 rintro u L1 ⟨⟨wl,rfl,hwl2⟩,i,h,hi,rfl⟩
 refine⟨_,_,Y,Y,?_⟩
 refine Ea Y (Fg [0] Y Y Y Y (by simp) (.inl Y) (cg_248 _ hc _ _ hi _ (by omega)) ?_)
 rintro u L1 ⟨⟨sa,rfl,hsa2⟩,i,h,hi,rfl⟩
 refine⟨_,_,Y,Y,?_⟩
 refine u_bd Y Y (Fu Y Y (Eo (Er Y Y Y Y Y Y Y) (z_q [0,3,4,5] Y (Ea Y (Em [0,3,4,5,6] Y (Ey (Et (Ea Y (Fg [0] Y Y Y Y (by simp) (.inl Y) (cg_228 _ hc _ _ hi _) ?_)))))))))
 rintro u L1 ⟨⟨n0,rfl,hn0⟩,i,h,hi,rfl⟩
 refine⟨_,_,Y,Y,?_⟩
 refine Ea Y (Em [0,3,4,5,6,7] Y (Fh (s_nilC 3 0 8 Y Y Y Y Y (S_loop (ι:=(Int×Int×List Post×Int×Int)) (fun p=>p.1≤6∧0≤p.1∧(p.2.2.1.length:Int)+p.1≤6∧(∀ y,y∈p.2.2.1→y.req.data.length≤16)∧0≤p.2.2.2.1∧p.2.2.2.1≤code.length) (fun p=>[(6,.w (.int .i64 p.2.1)),(7,.w (.int .i64 p.1))]) (fun p=>[cur code p.2.2.2.1 p.2.2.2.2,.cell x.r,.cell [.w (.slice none 0 0),.w (.slice none 0 0),.w (.slice none 0 0)],.cell [.ls 4 (p.2.2.1.map Post.r).length,.sl 1 (wl.map iR),.sl 1 (sa.map iR)],.arr 8 (p.2.2.1.map Post.r)]) (fun p=>p.1.toNat) 5 (n0,0,[],i,h) ⟨by simp only;omega,by simp only;omega,by simp only[List.length_nil];omega,(fun y hy=>nomatch hy),hi⟩ Y (hasOf ⟨Y,Y,trivial⟩ Y) Y (fun _ _=>Y) (fun _ _=>⟨Y,Y⟩) ?_))))
 rintro⟨n,pt,ps,i,h⟩ hp
 obtain⟨hn3,hn0,hn1,hn2,hi⟩:=hp
 simp only at hn3 hn0 hn1 hn2 hi
 have hml:(ps.map Post.r).length=ps.length:=List.length_map ..
 refine Ei [0,3,4,5,6,7] Y ?_
 dsimp only
 refine Ey (Et (Ea Y (u_gtr Y Y (Ea Y (Ft Y ?_ ?_)))))
 intro h1
 refine Ee Y (Ec Y (Ej Y Y Y (Ec Y (Fw Y (Ec Y (u_gtr Y Y (Eg Y Y (Em [0,3,4,5,6,7,18,19,20,21,22] Y (Ew Y ?_ ?_)))))))))
 intro h2
 refine z_s [0,3,4,5,6,7,18,19,20,21] Y (Ey (Fh (Et (Ea Y (Ea Y (Fa (o_bs Y Y Y Y) (Fg [0,5] Y Y Y Y (by simp) (.inl Y) (cg_234 _ hc _ _ hi _ _ Y (by simp) (by simp)) ?_)))))))
 rintro u L1 ⟨⟨pv,rfl,hpv⟩,i,h,hi,rfl⟩
 refine⟨_,_,Y,Y,?_⟩
 simp only[List.mem_cons,List.not_mem_nil,or_false] at hpv
 refine u_add Y Y (Ea Y (Em [0,3,4,5,6,7,18,19,20,21] Y (s_rgH [0] Y (h_op (o_faC Y) Y (h_op (o_ldC Y Y Y) Y (h_op (o_mv Y) Y (h_op (o_mv Y) Y (h_op (o_faC Y) Y (h_op (o_ldC Y Y Y) Y (h_op (o_lenM Y) Y (h_callG [0] [] Y Y Y Y Y Y (by simp) Y (cg_228 _ hc _ _ hi _) (by simp) ?_)))))))))))
 rintro u L1 ⟨⟨who,rfl,hwho⟩,i,h,hi,rfl⟩
 refine⟨Y,_,_,_,_,Y,Y,Y,Y,?_⟩
 refine h_op (o_mv Y) Y (h_callG [0] [] Y Y Y Y Y Y (by simp) Y (cg_241 _ hc _ _ hi) (by simp) ?_)
 rintro u L1 ⟨⟨rq,rfl,hrq⟩,i,h,hi,rfl⟩
 refine⟨Y,_,_,_,_,Y,Y,Y,Y,?_⟩
 refine h_op (o_bd Y Y) Y (h_op (o_bs Y Y Y Y) Y (h_bar Y ?_))
 refine Fa (o_appL Y Y (by simp) Y Y Y Y (by simp [roomy];omega)) ?_
 refine Ee Y (Eo (o_stC Y Y Y Y Y Y) (Ez (Fb (Eu (Ei [0,3,4,5,6,7,18,19,20,21] Y (Fs (Ea Y (Fa (o_subn Y Y (by omega)) (Ea Y (Ez (Fp ?_)))))))))))
 ·refine⟨(n-1,IntKind.wrap .i64 (pt+pv),ps++[⟨IntKind.wrap .i64 (pt+pv),who,rq⟩],i,h),⟨by simp only;omega,by simp only;omega,by simp only[List.length_append,List.length_cons,List.length_nil];omega,?_,hi⟩,by simp only;omega,hasOf ⟨rfl,rfl,trivial⟩ ?_⟩
  ·intro y hy
   rcases List.mem_append.1 hy with h|h
   ·exact hn2 y h
   ·rw[List.mem_singleton.1 h];simp only;omega
  ·simp only[List.map_append];rfl
 intro h2
 refine s_exit (q_seqX (q_loopX (q_blkH (Eu (Ei [4,5] Y (Et (En Y Y Y (Eo (Er Y Y Y Y Y Y Y) (Em [4] Y (Eh ?_))))))))))
 rotate_left
 intro h1
 refine Eb Y (Eb Y (Eb Y (Eb Y (Ed Y Y (Em [0,3,4,5,6,7,18,19,20,21,22] Y (Fi Y (s_exit (q_seqX (q_loopX (q_blkH (Eu (Ei [4,5] Y (Et (En Y Y Y (Eo (Er Y Y Y Y Y Y Y) (Em [4] Y (Eh ?_)))))))))))))))))
 rotate_left
 all_goals
  refine Fv [4] (.inr Y) Y Y Y Y (show(List.range 1++[4]).Nodup by decide) ?_
  exact⟨⟨ps,wl,sa⟩,_,_,(by simp),⟨by simp only;omega,hn2,hwl2,hsa2⟩,(by omega),Y⟩
theorem cg_246 (code:List Int) (hc:code.length≤1048576) (i h:Int) (hi:0≤i∧i≤code.length) (x:Conf):GV prg 246 [cur code i h] [.cp 0 0,.agg x.r] (fun u L1=>(∃ s:Script,u=.agg s.r∧s.fit)∧∃ (i h:Int),(0≤i∧i≤code.length)∧L1=[cur code i h]):=by
 refine gv_inF g246 (Ei [0,1] Y (Et (u_box Y Y Y (Fu Y Y (z_q [0,3,4] Y (Ea Y (En Y Y Y (Fg [0] Y Y Y Y (by simp) (.inl Y) (cg_249 _ hc _ _ hi _) ?_))))))))
 rintro u L1 ⟨z,i,h,rfl,hz,hi,rfl⟩
 refine⟨_,_,Y,Y,?_⟩
 have hz1:=hz.1
 refine Fu Y Y (Eo (Er Y Y Y Y Y Y Y) (Em [0,4,5] Y (Ey (Et (Ee Y (Ej Y Y Y (u_lenL Y Y (by simp) (Fm Y Y (Em [0,4,5,13] Y (Ew Y ?_ ?_))))))))))
 intro h1
 refine Et (En Y Y Y (Eo (Er Y Y Y Y Y Y Y) (Em [4] Y (Eh (Ep ?_)))))
 rotate_left
 intro h1
 refine z_s [0,4,5] Y (Et (Ea Y (Ee Y (Ej Y Y Y (u_lenL Y Y (by simp) (Fg [0] Y Y Y Y (by simp) (.inl Y) (cg_228 _ hc _ _ hi _) ?_))))))
 rintro u L1 ⟨⟨k,rfl,hk⟩,i,h,hi,rfl⟩
 refine⟨_,_,Y,Y,?_⟩
 have hk1:=hk.1 (by omega)
 obtain⟨m,hm⟩:=get_ex (xs:=z.posts) hk1.1 hk1.2
 refine Ea Y (Em [0,4,5,6] Y (Ey (Et (Ea Y (Fg [0] Y Y Y Y (by simp) (.inl Y) (cg_228 _ hc _ _ hi _) ?_)))))
 rintro u L1 ⟨⟨x,rfl,hx⟩,i,h,hi,rfl⟩
 refine⟨_,_,Y,Y,?_⟩
 refine Em [0,4,5,6,21] Y (Fh (Et (Fm Y Y (Ea Y (Em [0,4,5,6,21,22] Y (Ew Y ?_ ?_))))))
 intro h2
 refine s_rgH [0] Y (h_op (o_faC Y) Y (h_op (o_ldC Y Y Y) Y (h_op (o_mv Y) Y (h_op (o_mv Y) Y (h_op (o_bs Y Y Y Y) Y (h_callG [0] [5] Y Y Y Y Y Y (by simp) Y (cg_234 _ hc _ _ hi _ _ Y (by simp) (by simp)) (words_iR _ _ Y) ?_))))))
 rintro u L1 ⟨⟨mv,rfl,hmv⟩,i,h,hi,rfl⟩
 refine⟨Y,_,_,_,_,Y,Y,Y,Y,?_⟩
 simp only[List.mem_cons,List.not_mem_nil,or_false] at hmv
 refine h_bar Y (Fa (o_iaL Y Y (by simp) Y (by omega)) (u_faA Y Y (by simp) (Eo (o_stA Y Y Y Y (by simp) (by exact get_map hm) Y Y) (Ez (Fb (Eu (Ei [4,5] Y (Et (En Y Y Y (Eo (Er Y Y Y Y Y Y Y) (Em [4] Y (Eh ?_))))))))))))
 rotate_left
 intro h2
 refine Et (Fm Y Y (Ea Y (Em [0,4,5,6,21,32] Y (Ew Y ?_ ?_))))
 intro h4
 refine s_rgH [0] Y (h_op (o_faC Y) Y (h_op (o_ldC Y Y Y) Y (h_op (o_mv Y) Y (h_op (o_mv Y) Y (h_callG [0] [] Y Y Y Y Y Y (by simp) Y (cg_228 _ hc _ _ hi _) (by simp) ?_)))))
 rintro u L1 ⟨⟨wv,rfl,hwv⟩,i,h,hi,rfl⟩
 refine⟨Y,_,_,_,_,Y,Y,Y,Y,?_⟩
 refine h_op (o_subn Y Y (by omega)) Y (h_bar Y (Fa (o_iaL Y Y (by simp) Y (by omega)) (u_faA Y Y (by simp) (Eo (o_stA Y Y Y Y (by simp) (by exact get_map hm) Y Y) (Ez (Fb (Eu (Ei [4,5] Y (Et (En Y Y Y (Eo (Er Y Y Y Y Y Y Y) (Em [4] Y (Eh ?_)))))))))))))
 rotate_left
 intro h4
 refine Et (Fm Y Y (Ea Y (Em [0,4,5,6,42] Y (Ew Y ?_ ?_))))
 intro h6
 refine s_rgH [0] Y (h_op (o_faC Y) Y (h_op (o_ldC Y Y Y) Y (h_op (o_mv Y) Y (h_op (o_mv Y) Y (h_callG [0] [] Y Y Y Y Y Y (by simp) Y (cg_239 _ hc _ _ hi) (by simp) ?_)))))
 rintro u L1 ⟨⟨rq,rfl,hrq⟩,i,h,hi,rfl⟩
 refine⟨Y,_,_,_,_,Y,Y,Y,Y,?_⟩
 refine h_bar Y (Fa (o_iaL Y Y (by simp) Y (by omega)) (u_faA Y Y (by simp) (Eo (o_stnA Y Y Y Y Y (by simp) (by exact get_map hm) Y Y) (Ez (Fb (Eu (Ei [4,5] Y (Et (En Y Y Y (Eo (Er Y Y Y Y Y Y Y) (Em [4] Y (Eh ?_))))))))))))
 rotate_left
 intro h6
 refine Fr (Fb (Eu (Ei [4,5] Y (Et (En Y Y Y (Eo (Er Y Y Y Y Y Y Y) (Em [4] Y (Eh ?_))))))))
 rotate_left
 all_goals
  refine retF_leaf (.inr Y) Y Y (by simp) Y ?_
  first|exact⟨⟨z,Y,hz⟩,_,_,(by omega),Y⟩|exact⟨⟨⟨z.posts.set k.toNat ⟨mv,m.who,m.req⟩,z.waits,z.says⟩,(by simp only[Script.r,List.map_set];rfl),fit_set hz (by exact hz.2.1 m (List.mem_of_getElem? hm))⟩,_,_,(by omega),Y⟩|exact⟨⟨⟨z.posts.set k.toNat ⟨m.moment,wv-1,m.req⟩,z.waits,z.says⟩,(by simp only[Script.r,List.map_set];rfl),fit_set hz (by exact hz.2.1 m (List.mem_of_getElem? hm))⟩,_,_,(by omega),Y⟩|exact⟨⟨⟨z.posts.set k.toNat ⟨m.moment,m.who,rq⟩,z.waits,z.says⟩,(by simp only[Script.r,List.map_set];rfl),fit_set hz (by exact hrq)⟩,_,_,(by omega),Y⟩
theorem cg_247 (code:List Int) (hc:code.length≤1048576) (i h:Int) (hi:0≤i∧i≤code.length):GV prg 247 [cur code i h] [.cp 0 0] (fun u L1=>(∃ (x:Conf) (s:Script),u=.tup [.agg x.r,.agg s.r]∧x.masters.length≤4∧s.fit)∧∃ (i h:Int),(0≤i∧i≤code.length)∧L1=[cur code i h]):=by
 refine gv_inF g247 (Ei [0] Y (Et (Fu Y Y (Fu Y Y (z_q [0,2,3] Y (Ea Y (Fg [0] Y Y Y Y (by simp) (.inl Y) (cg_243 _ hc _ _ hi) ?_)))))))
 rintro u L1 ⟨⟨y,rfl,hy⟩,i,h,hi,rfl⟩
 refine⟨_,_,Y,Y,?_⟩
 refine Fu Y Y (Eo (Er Y Y Y Y Y Y Y) (Em [0,2,3,4] Y (Ey (Et (Ea Y (Fg [0] Y Y Y Y (by simp) (.inl Y) (cg_233 _ hc _ _ hi _) ?_))))))
 rintro u L1 ⟨⟨ob,rfl⟩,i,h,hi,rfl⟩
 refine⟨_,_,Y,Y,?_⟩
 refine Em [0,2,3,4,8] Y (s_condB Y ?_ ?_)
 intro h1
 refine Fs (Ea Y (Fg [0] Y Y Y Y (by simp) (.inl Y) (cg_242 _ hc _ _ hi) ?_))
 rintro u L1 ⟨⟨y,rfl,hy⟩,i,h,hi,rfl⟩
 refine⟨_,_,Y,Y,?_⟩
 refine Eo (Er Y Y Y Y Y Y Y) (Em [0,2,3,4] Y (Ey (s_rgH [0] Y (h_op (o_ldnC Y Y Y) Y (h_op (o_mv Y) Y (h_op (o_ldnC Y Y Y) Y (h_callG [0] [] Y Y Y Y Y Y (by simp) Y (cg_246 _ hc _ _ hi _) (by simp) ?_)))))))
 rintro u L1 ⟨⟨s,rfl,hs⟩,i,h,hi,rfl⟩
 refine⟨Y,_,_,_,_,Y,Y,Y,Y,?_⟩
 refine h_bar Y (Eo (Er Y Y Y Y Y Y Y) (Eo (Er Y Y Y Y Y Y Y) (Em [2,3] Y (Eh ?_))))
 rotate_left
 intro h1
 refine z_s [0,2,3,4] Y (Ey (s_rgH [0] Y (h_op (o_ldnC Y Y Y) Y (h_op (o_mv Y) Y (h_op (o_ldnC Y Y Y) Y (h_callG [0] [] Y Y Y Y Y Y (by simp) Y (cg_246 _ hc _ _ hi _) (by simp) ?_))))))
 rintro u L1 ⟨⟨s,rfl,hs⟩,i,h,hi,rfl⟩
 refine⟨Y,_,_,_,_,Y,Y,Y,Y,?_⟩
 refine h_bar Y (Eo (Er Y Y Y Y Y Y Y) (Eo (Er Y Y Y Y Y Y Y) (Em [2,3] Y (Eh ?_))))
 rotate_left
 all_goals
  refine retF_leaf (.inr Y) Y Y (by simp) Y ?_
  exact⟨⟨y,s,Y,by omega,hs⟩,_,_,(by omega),Y⟩
def saidOf (n:Int):Int:=if n=2∨n=3 then n else 0
def Conf.waitAt (c:Conf) (s:Script) (k:Int):Int:=max 0 (min (elem s.waits k) c.maxWait)
theorem c_80 (x:Conf) (s:Script) (k:Int):CV prg 80 [.agg x.r,.agg s.r,.w (.int .i64 k)] (fun res=>res=.w (.int .i64 (x.waitAt s k))):=by
 refine cv_in g80 (Ei [0,1,2] Y (Et (u_box Y Y Y (u_box Y Y Y (Ea Y (z_q [2,3,4] Y (Ee Y (Ej Y Y Y (Ea Y (Ev Y Y (c_85 _ _) (Ee Y (Ej Y Y Y (u_mn Y (Fa (o_mx Y) (Ea Y (Em [6] Y (Eh (Fe Y Y ?_))))))))))))))))))
 rotate_left
 all_goals
  unfold Conf.waitAt;simp only[minL2,maxL2];done
theorem c_68 (s:Script) (k:Int):CV prg 68 [.agg s.r,.w (.int .i64 k)] (fun res=>res=.w (.int .i64 (saidOf (elem s.says k)))):=by
 refine cv_in g68 (Ei [0,1] Y (Et (u_box Y Y Y (Ea Y (Em [1,2] Y (Ey (Et (Ee Y (Ej Y Y Y (Ea Y (Ev Y Y (c_85 _ _) (Ea Y (z_q [5] Y (Ea Y (Fm Y Y (Ea Y (s_gDF Y ?_ ?_)))))))))))))))))
 intro h1
 refine Ea Y (Ec Y (Fm Y Y (Ed Y Y (Em [5,15] Y (Ew Y ?_ ?_)))))
 intro h2
 refine Et (Ea Y (Ea Y (Em [4] Y (Eh (Ep (Fe Y Y ?_))))))
 rotate_left
 intro h2
 refine z_s [] Y (Et (Ea Y (Em [4] Y (Eh (Fe Y Y ?_)))))
 rotate_left
 intro h1
 refine Eb Y (Eb Y (Eg Y Y (Em [5,15] Y (Fd Y (Et (Ea Y (Ea Y (Em [4] Y (Eh (Ep (Fe Y Y ?_)))))))))))
 rotate_left
 all_goals
  first|(unfold saidOf;rw[if_pos (.inl (by assumption))];done)|(unfold saidOf;rw[if_pos (.inr (by assumption))];done)|(unfold saidOf;rw[if_neg (by omega)])
def flt {α:Type} (p:α→Bool) (xs:List α) (j:Nat):List α:=(xs.take j).filter (fun y=>!p y)
def dlT {α:Type} (p:α→Bool) (xs:List α) (j:Nat):List α:=flt p xs j++xs.drop (flt p xs j).length
theorem flt_le {α:Type} (p:α→Bool) (xs:List α) (j:Nat):(flt p xs j).length≤j∧(flt p xs j).length≤xs.length:=by
 have h:=List.length_filter_le (fun y=>!p y) (xs.take j)
 rw[List.length_take] at h
 unfold flt
 omega
theorem dl_len {α:Type} (p:α→Bool) (xs:List α) (j:Nat):(dlT p xs j).length=xs.length:=by
 have:=(flt_le p xs j).2
 simp [dlT];omega
theorem dl_at {α:Type} (p:α→Bool) {xs:List α} {j:Nat} {y:α} (r:α→List V) (h:xs[j]?=some y):((dlT p xs j).map r)[j]?=some (r y):=by
 have:=(flt_le p xs j).1
 rw[List.getElem?_map,dlT,List.getElem?_append_right this,List.getElem?_drop,show(flt p xs j).length+(j-(flt p xs j).length)=j by omega,h]
 rfl
theorem dl_at2 {α:Type} (p:α→Bool) {xs:List α} {j:Nat} {y:α} (r:α→List V) (h:xs[(flt p xs j).length]?=some y):((dlT p xs j).map r)[(flt p xs j).length]?=some (r y):=by
 rw[List.getElem?_map,dlT,List.getElem?_append_right (Nat.le_refl _),List.getElem?_drop,Nat.sub_self,Nat.add_zero,h]
 rfl
theorem flt_keep {α:Type} {p:α→Bool} {xs:List α} {j:Nat} {y:α} (h:xs[j]?=some y) (hp:p y=false):flt p xs (j+1)=flt p xs j++[y]:=by
 unfold flt;rw[take_get h,List.filter_append];simp [hp]
theorem flt_skip {α:Type} {p:α→Bool} {xs:List α} {j:Nat} {y:α} (h:xs[j]?=some y) (hp:p y=true):flt p xs (j+1)=flt p xs j:=by
 unfold flt;rw[take_get h,List.filter_append];simp [hp]
theorem dl_keep {α:Type} {p:α→Bool} {xs:List α} {j:Nat} {y:α} (r:α→List V) (h:xs[j]?=some y) (hp:p y=false):((dlT p xs j).map r).set (flt p xs j).length (r y)=(dlT p xs (j+1)).map r:=by
 have h1:=(flt_le p xs j).1
 have h2:=(List.getElem?_eq_some_iff.1 h).1
 rw[←List.map_set]
 congr 1
 unfold dlT
 rw[flt_keep h hp,List.set_append_right _ _ (Nat.le_refl _),Nat.sub_self,List.append_assoc,List.length_append,List.length_singleton]
 congr 1
 rw[List.drop_eq_getElem_cons (show(flt p xs j).length<xs.length by omega),List.set_cons_zero]
 rfl
theorem dl_skip {α:Type} {p:α→Bool} {xs:List α} {j:Nat} {y:α} (h:xs[j]?=some y) (hp:p y=true):dlT p xs j=dlT p xs (j+1):=by
 unfold dlT;rw[flt_skip h hp]
theorem flt_end {α:Type} (p:α→Bool) {xs:List α} {j:Nat} (h:xs.length≤j):flt p xs j=xs.filter (fun y=>!p y):=by
 unfold flt;rw[List.take_of_length_le h]
theorem idx_cases {α:Type} (p:α→Bool) (xs:List α):(idxOf p xs=-1∧xs.any p=false)∨∃ i:Nat,idxOf p xs=i∧i<xs.length∧flt p xs (i+1)=xs.take i:=by
 cases e:xs.findIdx? p with
 | none =>
   left
   refine⟨by simp [idxOf,e],?_⟩
   rw[List.findIdx?_eq_none_iff] at e
   rw[List.any_eq_false]
   intro x hx;simp [e x hx]
 | some i =>
   right
   refine⟨i,by simp [idxOf,e],?_⟩
   rw[List.findIdx?_eq_some_iff_getElem] at e
   obtain⟨h,h1,h2⟩:=e
   have h3:xs[i]?=some xs[i]:=List.getElem?_eq_getElem h
   refine⟨h,?_⟩
   rw[flt_skip h3 h1,flt,List.filter_eq_self]
   intro x hx
   rw[List.mem_take_iff_getElem] at hx
   obtain⟨j,hj,rfl⟩:=hx
   have:=h2 j (by omega)
   simpa using this
theorem dl_start {α:Type} {p:α→Bool} {xs:List α} {i:Nat} (hi:i<xs.length) (h:flt p xs (i+1)=xs.take i):dlT p xs (i+1)=xs:=by
 unfold dlT
 rw[h,List.length_take,Nat.min_eq_left (by omega),List.take_append_drop]
theorem dl_fin {α:Type} (p:α→Bool) {xs:List α} {j:Nat} (r:α→List V) (zs:List (List V)):(((dlT p xs j).map r).take (flt p xs j).length++zs).take (flt p xs j).length=(flt p xs j).map r:=by
 have h:((dlT p xs j).map r).take (flt p xs j).length=(flt p xs j).map r:=by
  rw[←List.map_take];congr 1;unfold dlT;simp
 rw[h]
 have h2:((flt p xs j).map r).length=(flt p xs j).length:=by simp
 rw[List.take_append_of_le_length (by omega),List.take_of_length_le (by omega)]
theorem cg_255 (xs:List Done) (hl:xs.length≤1048576):GV prg 255 [] [.sl 7 (xs.map Done.r)] (fun u L1=>u=.ls 0 xs.length∧L1=[.arr 7 (xs.map Done.r)]):=by
 refine gv_in g255 (Ei [0] Y (Et (Ea Y (Em [0] Y (Ey (Et (Ea Y (s_eqnilS Y ?_ ?_))))))))
 refine Em [0,4] Y (Fi Y (z_s [0] Y (Et (Fa (o_bs Y Y Y Y) (Ea Y ?_)))))
 refine Fa (o_app Y Y Y Y Y (by simp [roomy];omega)) ?_
 refine Ea Y (Em [2] Y (Eh ?_))
 rotate_left
 intro hnil
 refine Em [0,4] Y (Fd Y (Et (Ea Y (Em [2] Y (s_nil 2 7 Y ⟨Y,Y⟩ Y (Eh (Ep ?_)))))))
 rotate_left
 all_goals
  refine Fv [0] (.inr Y) Y Y Y Y (show(List.range 0++[0]).Nodup by decide) ?_
  first|(have:xs=[]:=List.map_eq_nil_iff.1 hnil
         subst this;exact⟨Y,Y⟩)|exact⟨by simp,rfl⟩
def byteB (v:Int):Bool:=inB v 0 255
def wordB (v:Int):Bool:=inB v 0 (limit 2-1)
def Dev.ok (d:Dev):Bool:=decide ((d.regs.length:Int)=4) && decide ((d.fifo.length:Int)≤4) && d.regs.all wordB && d.fifo.all wordB && wordB d.timer
def Model.ok (m:Model):Bool:=decide ((m.ram.length:Int)=192) && m.ram.all byteB && m.dev.ok
def fitsB (xs:List Int) (a z:Int):Bool:=decide ((xs.length:Int)≤512) && xs.all byteB && aligned a z && decide (a≤xs.length-bytes z)
theorem any_not {p:Int→Bool} (xs:List Int):(!xs.any (fun v=>!p v))=xs.all p:=by
 induction xs with
 | nil=>rfl
 | cons m xs ih=>simp only[List.any_cons,List.all_cons,Bool.not_or,Bool.not_not,ih]
theorem any_not' {p:Int→Bool} (xs:List Int):xs.any (fun v=>!p v) = !xs.all p:=by rw[←any_not,Bool.not_not]
theorem fits0 {xs:List Int} (h:(xs.length:Int)=192):fitsB xs 0 0=xs.all byteB:=by
 have h1:aligned 0 0=true:=by decide
 have h2:bytes 0=1:=by decide
 unfold fitsB
 rw[h1,h2,h]
 simp
theorem c_87 (n:Int):CV prg 87 [.w (.int .i64 n)] (fun res=>res=.w (.bool (!byteB n))):=by
 refine cv_in g87 (Ei [0] Y (Et (Ea Y (z_q [0] Y (Ea Y (Ev Y Y (c_103 ..) (Fk Y (Ea Y (Em [2] Y (Eh (Ef Y Y ?_)))))))))))
 rotate_left
 all_goals
  rfl
theorem c_41 (n:Int):CV prg 41 [.w (.int .i64 n)] (fun res=>res=.w (.bool (!wordB n))):=by
 refine cv_in g41 (Ei [0] Y (Et (Ea Y (z_q [0] Y (Ea Y (Ev Y Y (c_92 ..) (Fk Y (Ea Y (Em [2] Y (Eh (Ef Y Y ?_)))))))))))
 rotate_left
 all_goals
  rfl
theorem c_86 (xs:List Int) (a z:Int) (hl:xs.length≤1048576):CV prg 86 [.sl 1 (xs.map iR),.w (.int .i64 a),.w (.int .i64 z)] (fun res=>res=.w (.bool (fitsB xs a z))):=by
 have hz:=bytes_z (x:=z)
 refine cv_in g86 (Ei [0,1,2] Y (Et (Ea Y (z_q [0,1,2] Y (Ea Y (Fw Y (u_leq Y Y (Ea Y (Ft Y ?_ ?_)))))))))
 intro h1
 refine Ea Y (Ec Y (Ev Y Y (c_257 _ (by omega) _ _ Y (fun v=>!byteB v) (fun y _=>c_87 y)) (Ec Y (Fk Y (Eg Y Y (Ea Y (s_gNT Y ?_ ?_)))))))
 intro h2
 refine Ea Y (Ec Y (Ea Y (Ec Y (Ev Y Y (c_21 ..) (Eg Y Y (Ea Y (Ek (is:=[0,1,2,20]) Y (s_gB Y ?_ ?_))))))))
 intro h3
 refine Ea Y (Ec Y (Ea Y (Ec Y (Fw Y (Ec Y (Ea Y (Ec Y (Ev Y Y (c_33 ..) (Ec Y (Fa (o_subn Y Y (by omega)) (Ec Y (u_leq Y Y (Eg Y Y (Ea Y (Em [6] Y (Eh (Ef Y Y ?_)))))))))))))))))
 rotate_left
 intro h3
 iterate 7 refine Eb rfl ?_
 refine Ed Y Y (Ea Y (Em [6] Y (Eh (Ef Y Y ?_))))
 rotate_left
 intro h2
 refine Eb Y (Eb Y (Eb Y (Ed Y Y (Ea Y (Ek (is:=[0,1,2,20]) Y ?_)))))
 iterate 7 refine Eb rfl ?_
 refine Ed Y Y (Ea Y (Em [6] Y (Eh (Ef Y Y ?_))))
 rotate_left
 intro h1
 refine Eb Y (Eb Y (Eb Y (Ed Y Y (Ea Y (Eb Y (Eb Y (Eb Y (Ed Y Y (Ea Y (Ek (is:=[0,1,2,20]) Y ?_))))))))))
 iterate 7 refine Eb rfl ?_
 refine Ed Y Y (Ea Y (Em [6] Y (Eh (Ef Y Y ?_))))
 rotate_left
 all_goals
  (try simp only[any_not'] at *);unfold fitsB;generalize xs.all byteB=p at *;generalize (xs.length:Int)=n1 at *;first|(simp_all;done)|(simp_all;intros;omega)
theorem c_40 (d:Dev) (hs:d.small):CV prg 40 [.agg d.r] (fun res=>res=.w (.bool d.ok)):=by
 have h1:=hs.1
 have h2:=hs.2
 refine cv_in g40 (Ei [0] Y (Et (u_box Y Y Y (Ea Y (z_q [1] Y (Ea Y (z_q [1,3] Y (Ee Y (Ej Y Y Y (Fw Y (Fm Y Y (Ea Y (Ft Y ?_ ?_)))))))))))))
 intro h1
 refine Ee Y (Ec Y (Ej Y Y Y (Ec Y (Fw Y (Ec Y (u_leq Y Y (Eg Y Y (Ea Y (Ft Y ?_ ?_)))))))))
 intro h2
 refine Ee Y (Ec Y (Ej Y Y Y (Ec Y (Ea Y (Ek (is:=[1,3,14,16,17]) Y (Ec Y (Ev Y Y (c_257 _ (by omega) _ _ Y (fun v=>!wordB v) (fun y _=>c_41 y)) (Ec Y (Fk Y (Eg Y Y (Ea Y (s_gNT Y ?_ ?_))))))))))))
 intro h3
 refine Ee Y (Ec Y (Ej Y Y Y (Ec Y (Ea Y (Ec Y (Ev Y Y (c_257 _ (by omega) _ _ Y (fun v=>!wordB v) (fun y _=>c_41 y)) (Ec Y (Fk Y (Eg Y Y (Ea Y (s_gNT Y ?_ ?_)))))))))))
 intro h4
 refine Ee Y (Ec Y (Ej Y Y Y (Ec Y (Ev Y Y (c_92 ..) (Ek (is:=[28,31]) Y (Eg Y Y (Ea Y (Em [2] Y (Eh (Ef Y Y ?_))))))))))
 rotate_left
 intro h4
 refine Eb Y (Eb Y (Eb Y (Ek (is:=[28,31]) Y (Ed Y Y (Ea Y (Em [2] Y (Eh (Ef Y Y ?_))))))))
 rotate_left
 intro h3
 refine Eb Y (Eb Y (Eb Y (Eb Y (Eb Y (Ed Y Y (Ea Y (Eb Y (Eb Y (Eb Y (Ek (is:=[28,31]) Y (Ed Y Y (Ea Y (Em [2] Y (Eh (Ef Y Y ?_)))))))))))))))
 rotate_left
 intro h2
 refine Eb Y (Eb Y (Eb Y (Ek (is:=[1,3,14,16,17]) Y (Eb Y (Eb Y (Ed Y Y (Ea Y (Eb Y (Eb Y (Eb Y (Eb Y (Eb Y (Ed Y Y (Ea Y (Eb Y (Eb Y (Eb Y (Ek (is:=[28,31]) Y (Ed Y Y (Ea Y (Em [2] Y (Eh (Ef Y Y ?_)))))))))))))))))))))))
 rotate_left
 intro h1
 refine Eb Y (Eb Y (Eb Y (Eb Y (Ed Y Y (Ea Y (Eb Y (Eb Y (Eb Y (Ek (is:=[1,3,14,16,17]) Y (Eb Y (Eb Y (Ed Y Y (Ea Y (Eb Y (Eb Y (Eb Y (Eb Y (Eb Y (Ed Y Y (Ea Y (Eb Y (Eb Y (Eb Y (Ek (is:=[28,31]) Y (Ed Y Y (Ea Y (Em [2] Y (Eh (Ef Y Y ?_)))))))))))))))))))))))))))))
 rotate_left
 all_goals
  clear hs;(try simp only[any_not'] at *);(try rw[show inB d.timer 0 (limit 2-1)=wordB d.timer from rfl] at *);unfold Dev.ok;generalize d.regs.all wordB=p at *;generalize d.fifo.all wordB=q at *;generalize wordB d.timer=w at *;generalize (d.regs.length:Int)=n1 at *;generalize (d.fifo.length:Int)=n2 at *;first|(simp_all;done)|(simp_all;intros;omega)
theorem c_53 (m:Model) (hs:m.small):CV prg 53 [.agg m.r] (fun res=>res=.w (.bool m.ok)):=by
 have h1:=hs.1
 have h2:=hs.2
 refine cv_in g53 (Ei [0] Y (Et (u_box Y Y Y (Ea Y (z_q [1] Y (Ee Y (Ej Y Y Y (Fw Y (Fm Y Y (Ea Y (Ft Y ?_ ?_)))))))))))
 intro h1
 refine Ee Y (Ec Y (Ej Y Y Y (Ec Y (Ev Y Y (c_86 _ _ _ (by omega)) (Eg Y Y (Ea Y (s_gB Y ?_ ?_)))))))
 intro h2
 refine Ee Y (Ec Y (En Y Y Y (Ec Y (Ev Y Y (c_40 m.dev hs.2) (Eg Y Y (Ea Y (Em [2] Y (Eh (Ef Y Y ?_)))))))))
 rotate_left
 intro h2
 refine Eb Y (Eb Y (Eb Y (Ed Y Y (Ea Y (Em [2] Y (Eh (Ef Y Y ?_)))))))
 rotate_left
 intro h1
 refine Eb Y (Eb Y (Eb Y (Ed Y Y (Ea Y (Eb Y (Eb Y (Eb Y (Ed Y Y (Ea Y (Em [2] Y (Eh (Ef Y Y ?_))))))))))))
 rotate_left
 all_goals
  clear hs;unfold Model.ok;first|(simp only[fits0 (by assumption)] at *;generalize m.ram.all byteB=p at *;simp_all;done)|(generalize m.ram.all byteB=p at *;simp_all;done)
theorem rall_succ {p:Nat→Bool} {i:Nat} (h:(List.range i).all p=true) (h2:p i=true):(List.range (i+1)).all p=true:=by
 rw[List.range_succ,List.all_append,h];simp [h2]
theorem rall_no {p:Nat→Bool} {i n:Nat} (hi:i<n) (h:p i=false):(List.range n).all p=false:=by
 rw[List.all_eq_false];exact⟨i,List.mem_range.2 hi,by simp [h]⟩
theorem rall_end {p:Nat→Bool} {i n:Nat} (h:(List.range i).all p=true) (h1:i≤n) (h2:n≤i):(List.range n).all p=true:=by
 rwa [show i=n by omega] at h
def Mst.locks (m:Mst):Bool:=match m.queue[0]? with|some r=>r.lock && !m.broken|none=>false
theorem Mst.locks_at {m:Mst} {r:Req} (h:m.queue[0]?=some r):m.locks=(r.lock && !m.broken):=by unfold Mst.locks;rw[h]
theorem Mst.locks_nil {m:Mst} (h:m.queue.length=0):m.locks=false:=by unfold Mst.locks;rw[List.getElem?_eq_none (by omega)]
def mAt (b:Bus) (k:Int):Mst:=(b.ms[k.toNat]?).getD ⟨[],0,0,0,false,false⟩
def sAt (b:Bus) (k:Int):Int:=(b.splits[k.toNat]?).getD 0
theorem mAt_of {b:Bus} {k:Int} {m:Mst} (h:b.ms[k.toNat]?=some m):mAt b k=m:=by unfold mAt;rw[h];rfl
theorem sAt_of {b:Bus} {k:Int} {s:Int} (h:b.splits[k.toNat]?=some s):sAt b k=s:=by unfold sAt;rw[h];rfl
def heldAt (b:Bus) (i:Nat):Bool:=!(decide (0<(mAt b i).beat) && (mAt b i).locks && decide (b.holder≠i))
def heldE (b:Bus):Bool:=if b.holder=-1 then decide (b.kept=0) else inB b.holder 0 (b.ms.length-1) && (mAt b b.holder).locks && decide (sAt b b.holder=0) && inB b.kept 0 b.conf.lockMost
def heldB (b:Bus):Bool:=(List.range b.ms.length).all (heldAt b) && heldE b
structure Bus.even (b:Bus):Prop where
 ms:b.ms.length=b.conf.masters.length
 buckets:b.buckets.length=b.conf.masters.length
 splits:b.splits.length=b.conf.masters.length
theorem c_93 (m:Mst):CV prg 93 [.agg m.r] (fun res=>res=.w (.bool m.locks)):=by
 refine cv_in g93 (Ei [0] Y (Et (u_box Y Y Y (Ea Y (z_q [1] Y (Ee Y (Ej Y Y Y (Fw Y (u_gtr Y Y (Ea Y (Ft Y ?_ ?_)))))))))))
 intro h1
 refine Ee Y (Ec Y (Ej Y Y Y (Ec Y (s_iaM Y Y (by omega) ?_))))
 intro y2 e2
 simp only[Int.toNat_zero] at e2;have e2l:=Mst.locks_at e2
 refine Ec Y (u_fa Y (Ec Y (u_ld Y Y (Eg Y Y (Ea Y (s_gB Y ?_ ?_))))))
 intro h3
 refine Ee Y (Ec Y (Ej Y Y Y (Ek (is:=[14,16]) Y (Ec Y (Fk Y (Eg Y Y (Ea Y (Em [2] Y (Eh (Ef Y Y ?_))))))))))
 rotate_left
 intro h3
 refine Eb Y (Eb Y (Ek (is:=[14,16]) Y (Eb Y (Ed Y Y (Ea Y (Em [2] Y (Eh (Ef Y Y ?_))))))))
 rotate_left
 intro h1
 refine Eb Y (Eb Y (Eb Y (Eb Y (Eb Y (Ed Y Y (Ea Y (Eb Y (Eb Y (Ek (is:=[14,16]) Y (Eb Y (Ed Y Y (Ea Y (Em [2] Y (Eh (Ef Y Y ?_)))))))))))))))
 rotate_left
 all_goals
  first|exact(Mst.locks_nil (by omega)).symm|(simp_all;done)
theorem c_9 (b:Bus) (hs:b.small) (he:b.even):CV prg 9 [.rp b.r 0] (fun res=>res=.w (.bool (heldB b))):=by
 have hml:b.ms.length≤1048576:=hs.2.1
 have he1:=he.ms
 have he3:=he.splits
 have hcl:b.conf.masters.length≤1048576:=by omega
 refine cv_in g9 (Ei [0] Y (Et (Ea Y (Em [0] Y (Ey (Et (Ea Y (Fo Y (u_fa Y (u_ld Y Y (Fw Y (Ea Y (Em [0,8,9,10] Y (Fh (S_loop0 (ι:=Nat) (fun i=>i≤b.ms.length∧(List.range i).all (heldAt b)=true) (fun i=>[(10,.w (.int .i64 (i:Int)))]) (fun i=>b.ms.length-i) 0 (by simp) Y ⟨Y,trivial⟩ (fun _ _=>Y) Y ?_)))))))))))))))
 intro i hi
 refine Ei [0,8,9,10] Y (Et (u_lss Y Y (Em [0,8,9,10,11] Y (Ey (Ew Y ?_ ?_)))))
 intro h1
 refine z_s [0,8,9,10] Y (Ey (Fh (Et (Ea Y (s_iaM Y Y (by omega) ?_)))))
 intro y2 e2
 (have e2m:=mAt_of e2);(skip);(simp only[Int.toNat_natCast,Int.toNat_zero] at e2)
 refine u_ldn Y Y (Fu Y Y (Ea Y (Eo (Er Y Y Y Y Y Y Y) (z_q [0,3,4,8,9,10] Y (Ee Y (Ej Y Y Y (u_gtr Y Y (Ea Y (Ft Y ?_ ?_)))))))))
 intro h3
 refine En Y Y Y (Ec Y (Ev Y Y (c_93 _) (Eg Y Y (Ea Y (s_gB Y ?_ ?_)))))
 intro h4
 refine Ea Y (Ec Y (Fo Y (Ec Y (u_fa Y (Ec Y (u_ld Y Y (Ec Y (Ea Y (Ec Y (u_neq Y Y (Eg Y Y (Em [0,8,9,10,19,20,23,24,25,26,27,28,29] Y (Ew Y ?_ ?_)))))))))))))
 intro h5
 refine Et (Ea Y (Em [2] Y (Eh (Fc (Ep (q_loopR (Fc (Ep (Ef Y Y ?_)))))))))
 rotate_left
 intro h5
 rw[nnp] at h5
 refine Fr (Fb (Eu (Ei [0,8,9,10,19,20,23,24,25,26,27,28] Y (Fs (Fa (Fn Y Y (by omega)) (Ea Y (Ez (Fp ?_))))))))
 ·exact⟨i+1,⟨by omega,rall_succ hi.2 (by clear hs hi;simp_all [heldAt])⟩,by omega,hasOf ⟨rfl,trivial⟩ rfl⟩
 intro h4
 iterate 6 refine Eb rfl ?_
 refine Ed Y Y (Em [0,8,9,10,19,20,23,24,25,26,27,28,29] Y (Fi Y (Fr (Fb (Eu (Ei [0,8,9,10,19,20,23,24,25,26,27,28] Y (Fs (Fa (Fn Y Y (by omega)) (Ea Y (Ez (Fp ?_)))))))))))
 ·exact⟨i+1,⟨by omega,rall_succ hi.2 (by clear hs hi;simp_all [heldAt])⟩,by omega,hasOf ⟨rfl,trivial⟩ rfl⟩
 intro h3
 refine Eb Y (Eb Y (Ed Y Y (Ea Y ?_)))
 iterate 6 refine Eb rfl ?_
 refine Ed Y Y (Em [0,8,9,10,19,20,23,24,25,26,27,28,29] Y (Fi Y (Fr (Fb (Eu (Ei [0,8,9,10,19,20,23,24,25,26,27,28] Y (Fs (Fa (Fn Y Y (by omega)) (Ea Y (Ez (Fp ?_)))))))))))
 ·exact⟨i+1,⟨by omega,rall_succ hi.2 (by clear hs hi;simp_all [heldAt])⟩,by omega,hasOf ⟨rfl,trivial⟩ rfl⟩
 intro h1
 refine s_exit (q_seqX (q_loopX (q_blkH (Eu (Ei [0] Y (Ey (Et (Ea Y (Fo Y (u_fa Y (u_ld Y Y (Fm Y Y (Em [0,35] Y (Ew Y ?_ ?_))))))))))))))
 intro h6
 refine Et (Ea Y (Fo Y (u_fa Y (u_ld Y Y (Fm Y Y (Ea Y (Em [2] Y (Eh (Ep (Ef Y Y ?_))))))))))
 rotate_left
 intro h6
 refine z_s [0] Y (Et (Ea Y (Fo Y (u_fa Y (u_ldn Y Y (Ea Y (Fo Y (u_fa Y (u_ld Y Y (Ev Y Y (c_91 b.conf b.holder hcl) (Ea Y (s_gB Y ?_ ?_))))))))))))
 intro h7
 have h7':=inB_t h7
 refine Ea Y (Ec Y (Fo Y (Ec Y (u_fa Y (Ec Y (u_ld Y Y (Ek (is:=[0,50,54]) Y (Ec Y (Ea Y (Ec Y (Fo Y (Ec Y (u_fa Y (Ec Y (u_ld Y Y (Ec Y (s_iaM Y Y (by omega) ?_)))))))))))))))))
 intro y8 e8
 (have e8m:=mAt_of e8);(skip);(skip)
 refine Ec Y (u_ldn Y Y (Ec Y (Ev Y Y (c_93 _) (Eg Y Y (Ea Y (s_gB Y ?_ ?_))))))
 intro h9
 refine Ea Y (Ec Y (Fo Y (Ec Y (u_fa Y (Ec Y (u_ld Y Y (Ec Y (Ea Y (Ek (is:=[0,63,67,68]) Y (Ec Y (Fo Y (Ec Y (u_fa Y (Ec Y (u_ld Y Y (Ec Y (s_iaM Y Y (by omega) ?_)))))))))))))))))
 intro y10 e10
 (skip);(have e10s:=sAt_of e10);(skip)
 refine Ec Y (u_ld Y Y (Ec Y (Fm Y Y (Eg Y Y (Ea Y (Ft Y ?_ ?_))))))
 intro h11
 refine Ea Y (Ec Y (Fo Y (Ec Y (u_fa Y (Ec Y (u_ld Y Y (Ec Y (Ea Y (Ec Y (Fo Y (Ek (is:=[76,80,82]) Y (Ec Y (u_fa Y (Ec Y (u_fa Y (Ec Y (u_ld Y Y (Ec Y (Ev Y Y (c_103 ..) (Eg Y Y (Ea Y (Em [2] Y (Eh (Ef Y Y ?_))))))))))))))))))))))))
 rotate_left
 intro h11
 iterate 6 refine Eb rfl ?_
 refine Ek (is:=[76,80,82]) Y (Eb Y (Eb Y (Eb Y (Eb Y (Ed Y Y (Ea Y (Em [2] Y (Eh (Ef Y Y ?_)))))))))
 rotate_left
 intro h9
 refine Eb Y (Eb Y (Eb Y (Eb Y (Eb Y (Ek (is:=[0,63,67,68]) Y ?_)))))
 iterate 6 refine Eb rfl ?_
 refine Ed Y Y (Ea Y ?_)
 iterate 6 refine Eb rfl ?_
 refine Ek (is:=[76,80,82]) Y (Eb Y (Eb Y (Eb Y (Eb Y (Ed Y Y (Ea Y (Em [2] Y (Eh (Ef Y Y ?_)))))))))
 rotate_left
 intro h7
 refine Eb Y (Eb Y (Eb Y (Eb Y (Ek (is:=[0,50,54]) Y ?_))))
 iterate 7 refine Eb rfl ?_
 refine Ed Y Y (Ea Y (Eb Y (Eb Y (Eb Y (Eb Y (Eb Y (Ek (is:=[0,63,67,68]) Y ?_)))))))
 iterate 6 refine Eb rfl ?_
 refine Ed Y Y (Ea Y ?_)
 iterate 6 refine Eb rfl ?_
 refine Ek (is:=[76,80,82]) Y (Eb Y (Eb Y (Eb Y (Eb Y (Ed Y Y (Ea Y (Em [2] Y (Eh (Ef Y Y ?_)))))))))
 rotate_left
 all_goals
  first|(have hr:=rall_end hi.2 hi.1 (by omega);clear hi hs;simp_all [heldB,heldE];done)|(unfold heldB;rw[rall_no (p:=heldAt b) (by omega:i<b.ms.length) (by simp_all [heldAt])];rfl)
def bAt (b:Bus) (k:Int):Bucket:=(b.buckets[k.toNat]?).getD ⟨0,0⟩
def cAt (b:Bus) (k:Int):MConf:=(b.conf.masters[k.toNat]?).getD ⟨0,false,0,0⟩
theorem bAt_of {b:Bus} {k:Int} {m:Bucket} (h:b.buckets[k.toNat]?=some m):bAt b k=m:=by unfold bAt;rw[h];rfl
theorem cAt_of {b:Bus} {k:Int} {m:MConf} (h:b.conf.masters[k.toNat]?=some m):cAt b k=m:=by unfold cAt;rw[h];rfl
def mOkAt (b:Bus) (i:Nat):Bool:=(mAt b i).right && decide ((mAt b i).tries≤b.conf.maxRetry) && (bAt b i).ok (cAt b i) && inB (sAt b i) 0 b.conf.maxSplit
def evenB (b:Bus):Bool:=decide ((b.ms.length:Int)=b.conf.masters.length) && decide ((b.buckets.length:Int)=b.conf.masters.length) && decide ((b.splits.length:Int)=b.conf.masters.length)
def mastersB (b:Bus):Bool:=evenB b && (List.range b.ms.length).all (mOkAt b)
theorem evenB_of {b:Bus} (h:evenB b=true):b.even:=by
 simp only[evenB,Bool.and_eq_true,decide_eq_true_eq] at h
 exact⟨by omega,by omega,by omega⟩
theorem c_3 (b:Bus) (hs:b.small):CV prg 3 [.rp b.r 0] (fun res=>res=.w (.bool (mastersB b))):=by
 have hml:b.ms.length≤1048576:=hs.2.1
 have hms:=hs.2.2.1
 refine cv_in g3 (Ei [0] Y (Et (Ea Y (z_q [0] Y (Ea Y (Fo Y (u_fa Y (u_fa Y (u_ld Y Y (Fw Y (Ea Y (Em [0,3] Y (Ey (Et (Ea Y (Fo Y (u_fa Y (u_ld Y Y (Fw Y (Ea Y (u_neq Y Y (Ea Y (s_gDF Y ?_ ?_)))))))))))))))))))))))
 intro h1
 rw[nnp] at h1
 refine Ea Y (Ec Y (Fo Y (Ec Y (u_fa Y (Ec Y (u_ld Y Y (Ec Y (Fw Y (Ec Y (Ea Y (Ek (is:=[0,3,19,24,25]) Y (Ec Y (u_neq Y Y (Ed Y Y (Ea Y (s_gDF Y ?_ ?_))))))))))))))))
 intro h2
 rw[nnp] at h2
 refine Ea Y (Ec Y (Fo Y (Ec Y (u_fa Y (Ec Y (u_ld Y Y (Ec Y (Fw Y (Ec Y (Ea Y (Ec Y (u_neq Y Y (Ed Y Y (Em [0,36] Y (Ew Y ?_ ?_)))))))))))))))
 intro h3
 refine Et (Ea Y (Em [2] Y (Eh (Ep (Ef Y Y ?_)))))
 rotate_left
 intro h3
 rw[nnp] at h3
 refine z_s [0] Y (Ey (Et (Ea Y (Fo Y (u_fa Y (u_ld Y Y (Fw Y (Ea Y (Em [0,40,41,42] Y (Fh (S_loop0 (ι:=Nat) (fun i=>i≤b.ms.length∧(List.range i).all (mOkAt b)=true) (fun i=>[(42,.w (.int .i64 (i:Int)))]) (fun i=>b.ms.length-i) 0 (by simp) Y ⟨Y,trivial⟩ (fun _ _=>Y) Y ?_)))))))))))
 intro i hi
 refine Ei [0,40,41,42] Y (Et (u_lss Y Y (Em [0,40,41,42,43] Y (Ey (Ew Y ?_ ?_)))))
 intro h4
 refine z_s [0,40,41,42] Y (Ey (Fh (Et (Ea Y (s_iaM Y Y (by omega) ?_)))))
 intro y5 e5
 (have e5m:=mAt_of e5);(skip);(skip);(skip);(have e5sm:=hms _ (List.mem_of_getElem? e5));(simp only[Int.toNat_natCast,Int.toNat_zero] at e5)
 refine u_ldn Y Y (Fu Y Y (Ea Y (Eo (Er Y Y Y Y Y Y Y) (z_q [0,4,5,40,41,42] Y (En Y Y Y (Ev Y Y (c_88 _ (by assumption)) (Fk Y (Ea Y (s_gNF Y ?_ ?_)))))))))
 intro h6
 refine Ee Y (Ec Y (Ej Y Y Y (Ec Y (Ea Y (Ec Y (Fo Y (Ec Y (u_fa Y (Ec Y (u_fa Y (Ec Y (u_ld Y Y (Ec Y (u_gtr Y Y (Ed Y Y (Ea Y (Ek (is:=[0,4,40,41,42,51,52,53,54,55,56,57,58,60]) Y (s_gDF Y ?_ ?_))))))))))))))))))
 intro h7
 refine Ea Y (Ec Y (Fo Y (Ec Y (u_fa Y (Ec Y (u_ld Y Y (Ec Y (Ea Y (Ec Y (s_iaM Y Y (by omega) ?_))))))))))
 intro y8 e8
 (skip);(skip);(have e8b:=bAt_of e8);(skip);(skip);(simp only[Int.toNat_natCast,Int.toNat_zero] at e8)
 refine Ec Y (u_ldn Y Y (Ec Y (Ea Y (Ec Y (Fo Y (Ec Y (u_fa Y (Ec Y (u_fa Y (Ec Y (u_ld Y Y (Ec Y (Ea Y (Ec Y (s_iaM Y Y (by omega) ?_)))))))))))))))
 intro y9 e9
 (skip);(skip);(skip);(have e9c:=cAt_of e9);(skip);(simp only[Int.toNat_natCast,Int.toNat_zero] at e9)
 refine Ek (is:=[0,4,40,41,42,51,52,53,54,55,56,57,58,60,61,62,63,64,65,66,67,68,69,70,71,72,73,74]) Y (Ec Y (u_ldn Y Y (Ec Y (Ev Y Y (c_26 _ _) (Ec Y (Fk Y (Ed Y Y (Ea Y (s_gNF Y ?_ ?_)))))))))
 intro h10
 refine Ea Y (Ec Y (Fo Y (Ec Y (u_fa Y (Ec Y (u_ld Y Y (Ec Y (Ea Y (Ec Y (s_iaM Y Y (by omega) ?_))))))))))
 intro y11 e11
 (skip);(have e11s:=sAt_of e11);(skip);(skip);(skip);(simp only[Int.toNat_natCast,Int.toNat_zero] at e11)
 refine Ec Y (u_ld Y Y (Ec Y (Ea Y (Ec Y (Fo Y (Ek (is:=[0,40,41,42,51,52,53,54,55,56,57,58,61,62,63,64,65,66,67,68,69,70,71,72,73,74,75,76,77,79,80,81,82,83,84,85,86,87,88]) Y (Ec Y (u_fa Y (Ec Y (u_fa Y (Ec Y (u_ld Y Y (Ec Y (Ev Y Y (c_103 ..) (Ec Y (Fk Y (Ed Y Y (Em [0,40,41,42,51,52,53,54,55,56,57,58,61,62,63,64,65,66,67,68,69,70,71,72,73,74,75,76,77,80,81,82,83,84,85,86,87,88,89,90,91,92,93,94] Y (s_condNB Y ?_ ?_)))))))))))))))))))
 intro h12
 refine Et (Ea Y (Em [2] Y (Eh (Fc (Ep (q_loopR (Fc (Ep (Ef Y Y ?_)))))))))
 rotate_left
 intro h12
 refine Fr (Fb (Eu (Ei [0,40,41,42,51,52,53,54,55,56,57,58,61,62,63,64,65,66,67,68,69,70,71,72,73,74,75,76,77,80,81,82,83,84,85,86,87,88,89,90,91,92,93] Y (Fs (Fa (Fn Y Y (by omega)) (Ea Y (Ez (Fp ?_))))))))
 ·exact⟨i+1,⟨by omega,rall_succ hi.2 (by clear hs hi;simp_all [mOkAt])⟩,by omega,hasOf ⟨rfl,trivial⟩ rfl⟩
 intro h10
 iterate 9 refine Eb rfl ?_
 refine Ek (is:=[0,40,41,42,51,52,53,54,55,56,57,58,61,62,63,64,65,66,67,68,69,70,71,72,73,74,75,76,77,79,80,81,82,83,84,85,86,87,88]) Y (Eb Y (Eb Y (Eb Y (Eb Y (Eb Y (Eg Y Y (Em [0,40,41,42,51,52,53,54,55,56,57,58,61,62,63,64,65,66,67,68,69,70,71,72,73,74,75,76,77,80,81,82,83,84,85,86,87,88,89,90,91,92,93,94] Y (Fd Y (Et (Ea Y (Em [2] Y (Eh (Fc (Ep (q_loopR (Fc (Ep (Ef Y Y ?_))))))))))))))))))
 rotate_left
 intro h7
 iterate 14 refine Eb rfl ?_
 refine Ek (is:=[0,4,40,41,42,51,52,53,54,55,56,57,58,60,61,62,63,64,65,66,67,68,69,70,71,72,73,74]) Y (Eb Y (Eb Y (Eb Y (Eg Y Y (Ea Y ?_)))))
 iterate 9 refine Eb rfl ?_
 refine Ek (is:=[0,40,41,42,51,52,53,54,55,56,57,58,61,62,63,64,65,66,67,68,69,70,71,72,73,74,75,76,77,79,80,81,82,83,84,85,86,87,88]) Y (Eb Y (Eb Y (Eb Y (Eb Y (Eb Y (Eg Y Y (Em [0,40,41,42,51,52,53,54,55,56,57,58,61,62,63,64,65,66,67,68,69,70,71,72,73,74,75,76,77,80,81,82,83,84,85,86,87,88,89,90,91,92,93,94] Y (Fd Y (Et (Ea Y (Em [2] Y (Eh (Fc (Ep (q_loopR (Fc (Ep (Ef Y Y ?_))))))))))))))))))
 rotate_left
 intro h6
 iterate 8 refine Eb rfl ?_
 refine Eg Y Y (Ea Y (Ek (is:=[0,4,40,41,42,51,52,53,54,55,56,57,58,60]) Y ?_))
 iterate 14 refine Eb rfl ?_
 refine Ek (is:=[0,4,40,41,42,51,52,53,54,55,56,57,58,60,61,62,63,64,65,66,67,68,69,70,71,72,73,74]) Y (Eb Y (Eb Y (Eb Y (Eg Y Y (Ea Y ?_)))))
 iterate 9 refine Eb rfl ?_
 refine Ek (is:=[0,40,41,42,51,52,53,54,55,56,57,58,61,62,63,64,65,66,67,68,69,70,71,72,73,74,75,76,77,79,80,81,82,83,84,85,86,87,88]) Y (Eb Y (Eb Y (Eb Y (Eb Y (Eb Y (Eg Y Y (Em [0,40,41,42,51,52,53,54,55,56,57,58,61,62,63,64,65,66,67,68,69,70,71,72,73,74,75,76,77,80,81,82,83,84,85,86,87,88,89,90,91,92,93,94] Y (Fd Y (Et (Ea Y (Em [2] Y (Eh (Fc (Ep (q_loopR (Fc (Ep (Ef Y Y ?_))))))))))))))))))
 rotate_left
 intro h4
 refine s_exit (q_seqX (q_loopX (q_blkH (Eu (Ei [] Y (Et (Ea Y (Em [2] Y (Eh (Ef Y Y ?_))))))))))
 rotate_left
 intro h2
 iterate 7 refine Eb rfl ?_
 refine Eg Y Y (Em [0,36] Y (Fd Y (Et (Ea Y (Em [2] Y (Eh (Ep (Ef Y Y ?_))))))))
 rotate_left
 intro h1
 iterate 6 refine Eb rfl ?_
 refine Ek (is:=[0,3,19,24,25]) Y (Eb Y (Eg Y Y (Ea Y ?_)))
 iterate 7 refine Eb rfl ?_
 refine Eg Y Y (Em [0,36] Y (Fd Y (Et (Ea Y (Em [2] Y (Eh (Ep (Ef Y Y ?_))))))))
 rotate_left
 all_goals
  first|(have hr:=rall_end hi.2 hi.1 (by omega);clear hi hs;simp_all [mastersB,evenB];done)|(unfold mastersB;rw[rall_no (p:=mOkAt b) (by omega:i<b.ms.length) (by clear hs hi;simp_all [mOkAt];try omega),Bool.and_false];done)|(clear hs;simp_all [mastersB,evenB];done)
theorem c_267 (xs:List Beat) (hl:xs.length≤140737488355328) (f:Nat) (caps:List V) (hc:caps.all (V.fzV 5)=true) (p:Beat→Bool) (h:∀ y,y∈xs→CV prg f (.agg (Beat.r y)::caps) (fun v=>v=.w (.bool (p y)))):CV prg 267 [.sl 8 (xs.map Beat.r),.fn f caps] (fun res=>res=.w (.int .i64 (idxOf p xs))):=by
 refine cv_in g267 (Ei [0,1] Y (Et (Ea Y (Em [0,1] Y (Ey (Et (Ea Y (Fw Y (Ea Y (Em [0,1,7,8] Y (Fh (S_loop0 (ι:=Nat) (fun i=>i≤xs.length∧(xs.take i).any p=false) (fun i=>[(8,.w (.int .i64 (i:Int)))]) (fun i=>xs.length-i) 0 (by simp) Y ⟨Y,trivial⟩ (fun _ _=>Y) Y ?_))))))))))))
 intro i hi
 refine Ei [0,1,7,8] Y (Et (u_lss Y Y (Em [0,1,7,8,9] Y (Ey (Ew Y ?_ ?_)))))
 intro h1
 refine z_s [0,1,7,8] Y (Ey (Fh (Et (Ea Y (Ea Y (Em [0,1,5,7,8] Y ?_))))))
 refine Et (Ea Y (Ea Y (Ea Y (s_iaM Y Y (by simp at *;omega) ?_))))
 intro y2 e2
 simp only[Int.toNat_natCast,Int.toNat_zero] at e2
 refine u_ldn Y Y (s_calli Y Y (fz1 Y hc) (h _ (List.mem_of_getElem? (by assumption))) (Em [0,1,5,7,8,16] Y (s_condB Y ?_ ?_)))
 intro h3
 refine Et (Ea Y (Ea Y (Em [4] Y (Eh (Fc (Ep (q_loopR (Fc (Ep (Fe Y Y ?_))))))))))
 rotate_left
 intro h3
 refine Fr (Fb (Eu (Ei [0,1,7,8] Y (Fs (Fa (Fn Y Y (by omega)) (Ea Y (Ez (Fp ?_))))))))
 ·exact⟨i+1,⟨by omega,any_take (by assumption) hi.2 (by assumption)⟩,by omega,hasOf ⟨rfl,trivial⟩ rfl⟩
 intro h1
 refine s_exit (q_seqX (q_loopX (q_blkH (Eu (Ei [] Y (Et (Ea Y (Em [4] Y (Eh (Fe Y Y ?_))))))))))
 rotate_left
 all_goals
  first|exact(idxOf_at (by assumption) hi.2 (by assumption)).symm|exact(idxOf_no (any_end hi.2 (by omega))).symm
theorem cg_261 (xs:List Beat) (hl:xs.length≤1048576) (f:Nat) (p:Beat→Bool) (h:∀ y,y∈xs→CV prg f [.agg (Beat.r y)] (fun v=>v=.w (.bool (p y)))):GV prg 261 [.arr 8 (xs.map Beat.r)] [.ls 0 xs.length,.fn f []] (fun u L1=>(u=.ls 0 xs.length∧L1=[.arr 8 (xs.map Beat.r)]∧xs.any p=false)∨(u=.ls 1 (xs.filter (fun y=>!p y)).length∧L1=[.dead,.arr 8 ((xs.filter (fun y=>!p y)).map Beat.r)])):=by
 have hix:-1≤idxOf p xs∧idxOf p xs<xs.length:=by rcases idx_cases p xs with⟨h1,_⟩|⟨i,h1,h2,_⟩ <;> omega
 refine gv_in g261 (Ei [0,1] Y (Et (Ea Y (z_q [0,1] Y (Ea Y (Ea Y (s_callL Y Y (by simp) (c_267 _ (by omega) _ [] Y _ h) Y (Ea Y (Em [0,1,5] Y (Ey (Et (Ea Y (Fm Y Y (Em [0,1,5,12] Y (Ew Y ?_ ?_)))))))))))))))
 intro h1
 refine Et (Ea Y (Ea Y (Em [4] Y (Eh (Ep ?_)))))
 ·refine Fv [] (.inr Y) Y Y Y Y (show(List.range 1++[]).Nodup by decide) (.inl ⟨Y,Y,?_⟩);rcases idx_cases p xs with⟨_,h1⟩|⟨i,h1,_⟩;exact h1;exfalso;omega
 intro h1
 refine z_s [0,1,5] Y (Ey (Et (Ea Y (Fa (Fn Y Y (by omega)) (Ea Y (Em [0,1,5,6] Y (Fh ?_)))))))
 obtain⟨i0,e0,e1,e2⟩:∃ i0:Nat,idxOf p xs=i0∧i0<xs.length∧flt p xs (i0+1)=xs.take i0:=by
  rcases idx_cases p xs with⟨h1,_⟩|h1
  ·exact absurd h1 (by assumption)
  ·exact h1
 refine S_loop (ι:=Nat) (fun j=>j≤xs.length) (fun j=>[(5,.w (.int .i64 ((flt p xs j).length:Int))),(6,.w (.int .i64 (j:Int)))]) (fun j=>[.arr 8 ((dlT p xs j).map Beat.r)]) (fun j=>xs.length-j) 1 (i0+1) (by omega) Y (hasOf ⟨congrArg (fun b=>some (V.w (.int .i64 b))) (by rw[e0,e2,List.length_take,Nat.min_eq_left (by omega)]),congrArg (fun b=>some (V.w (.int .i64 b))) (by omega),trivial⟩ (by rw[dl_start e1 e2];rfl)) Y (fun _ _=>Y) (fun _ _=>⟨Y,Y⟩) ?_
 intro j hj
 have hfl:=flt_le p xs j
 obtain⟨y,hy⟩:∃ y,j<xs.length→xs[j]?=some y:=by
  by_cases h:j<xs.length
  ·exact⟨xs[j],fun _=>List.getElem?_eq_getElem h⟩
  ·exact⟨⟨false,0,0,false,0,0,0,false⟩,fun h2=>absurd h2 h⟩
 obtain⟨y2,hy2⟩:∃ y,j<xs.length→xs[(flt p xs j).length]?=some y:=by
  by_cases h:j<xs.length
  ·exact⟨xs[(flt p xs j).length],fun _=>List.getElem?_eq_getElem (by omega)⟩
  ·exact⟨⟨false,0,0,false,0,0,0,false⟩,fun h2=>absurd h2 h⟩
 refine Ei [0,1,5,6] Y (Ey (Et (Ea Y (Ea Y (u_lenL Y Y (by simp [dl_len];skip) (u_lss Y Y (Em [0,1,5,6,19] Y ?_)))))))
 refine Ew Y ?_ ?_
 intro h2
 refine z_s [0,1,5,6] Y (Ey (Fh (Et (Ea Y (Ea Y (Fa (o_iaL Y Y (by simp [dl_len];skip) Y (by omega)) (u_ldnA Y Y (by simp [dl_len];skip) (by rw[Int.toNat_natCast];exact dl_at _ _ (hy (by omega))) Y (Fu Y Y ?_))))))))
 refine Eo (Er Y Y Y Y Y Y Y) (z_q [0,1,5,6,7] Y (Ea Y (En Y Y Y (s_calliL Y Y Y (by simp) (h _ (List.mem_of_getElem? (hy (by omega)))) Y (Fk Y (Em [0,1,5,6,7,29] Y (s_condNB Y ?_ ?_)))))))
 intro h4
 refine Et (Ea Y (Ea Y (En Y Y Y (Fa (o_iaL Y Y (by simp [dl_len];skip) Y (by omega)) (Eo (o_stnA Y Y Y Y Y (by simp [dl_len];skip) (by rw[Int.toNat_natCast];exact dl_at2 _ _ (hy2 (by omega))) Y Y) (Em [0,1,5,6] Y (Fs (Ea Y ?_))))))))
 refine Fa (Fn Y Y (by omega)) (Ea Y (Ez (Fb (Eu (Ei [0,1,5,6] Y (Fs (Ea Y (Fa (Fn Y Y (by omega)) (Ea Y (Ez (Fp ?_)))))))))))
 rotate_left
 intro h4
 refine Fr (Fb (Eu (Ei [0,1,5,6] Y (Fs (Ea Y (Fa (Fn Y Y (by omega)) (Ea Y (Ez (Fp ?_)))))))))
 rotate_left
 intro h2
 refine s_exit (q_seqX (q_loopX (q_blkH (Eu (Ei [0,5] Y (Et (Ea Y (Ea Y (s_clrS (t:=0) Y Y (by simp [dl_len];skip) Y (by simp [dl_len];omega) Y Y Y Y (Ez ?_))))))))))
 refine Eu (Ei [0,5] Y (Et (Ea Y (Ea Y (s_cut Y Y (by simp [dl_len];omega) Y Y (by simp [dl_len];omega) Y Y (Ea Y (Em [4] Y (Eh ?_))))))))
 ·refine Fv [1] (.inr Y) Y Y Y Y (show(List.range 1++[1]).Nodup by decide) (.inr ⟨?_,?_⟩) <;> simp only[Int.toNat_natCast,Int.toNat_zero,List.drop_zero,dl_fin] <;> simp only[flt_end p (show xs.length≤j by omega),List.length_map] <;> rfl
 all_goals
  first|(refine⟨j+1,by omega,by omega,hasOf ⟨congrArg (fun b=>some (V.w (.int .i64 b))) (by rw[flt_skip (hy (by omega)) (by assumption)]),rfl,trivial⟩ ?_⟩;rw[←dl_skip (hy (by omega)) (by assumption)];rfl)|(refine⟨j+1,by omega,by omega,hasOf ⟨congrArg (fun b=>some (V.w (.int .i64 b))) (by rw[flt_keep (hy (by omega)) (by assumption)];simp),rfl,trivial⟩ ?_⟩;simp only[Int.toNat_natCast];rw[←dl_keep Beat.r (hy (by omega)) (by assumption)];rfl)
def liveL (b:Bus):List Beat:=[b.addr,b.data].filter (fun x=>x.live)
theorem liveL_del (b:Bus):[b.addr,b.data].filter (fun x=>!(!x.live))=liveL b:=by unfold liveL;congr 1;funext x;simp
theorem liveL_none {b:Bus} (h:[b.addr,b.data].any (fun x=>!x.live)=false):liveL b=[b.addr,b.data]:=by
 unfold liveL
 rw[List.filter_eq_self]
 intro x hx
 rw[List.any_eq_false] at h
 simpa using h x hx
theorem liveL_le (b:Bus):(liveL b).length≤2:=List.length_filter_le ..
theorem c_14 (x:Beat):CV prg 14 [.agg x.r] (fun res=>res=.w (.bool (!x.live))):=by
 refine cv_in g14 (Ei [0] Y (Et (u_box Y Y Y (Ea Y (z_q [1] Y (Ee Y (Ej Y Y Y (Fk Y (Ea Y (Em [2] Y (Eh (Ef Y Y ?_))))))))))))
 rotate_left
 all_goals
  rfl
theorem c_13 (b:Bus):CV prg 13 [.rp b.r 0] (fun res=>res=.sl 8 ((liveL b).map Beat.r)):=by
 refine cv_in g13 (Ei [0] Y (Et (Ea Y (z_q [0] Y (Ea Y (Fo Y (u_fa Y (u_ldn Y Y (Ea Y (Fo Y (u_fa Y (u_ldn Y Y (Fa (o_bs Y Y Y Y) (Fg [0] Y Y Y Y (by simp) (.inl Y) (cg_261 [b.addr,b.data] (by simp) 14 _ (fun y _=>c_14 y)) ?_))))))))))))))
 rintro u L1 (⟨rfl,rfl,hany⟩|⟨rfl,rfl⟩)
 refine⟨_,_,Y,Y,?_⟩
 refine Ea Y (Em [2] Y (Eh ?_))
 rotate_left
 refine⟨_,_,Y,Y,?_⟩
 refine Ea Y (Em [2] Y (Eh ?_))
 rotate_left
 all_goals
  refine ret_leafA (.inr Y) Y Y (by simp) ?_
  first|(rw[liveL_none hany];done)|(rw[←liveL_del];done)
def Beat.none:Beat:=⟨false,0,0,false,0,0,0,false⟩
def flyOk (b:Bus) (x:Beat):Bool:=inB x.who 0 (b.ms.length-1) && inB x.via 1 3 && decide (sAt b x.who=0)
def ways (b:Bus) (i:Int):Int:=(if b.addr.live && decide (b.addr.who=i) then 1 else 0)+(if b.data.live && decide (b.data.who=i) then 1 else 0)
def wOkAt (b:Bus) (i:Nat):Bool:=decide (IntKind.wrap .i64 ((mAt b i).beat-(mAt b i).done)=ways b i)
def beatA (b:Bus):Bool:=if b.addr.live then flyOk b b.addr && decide (b.addr.num=IntKind.wrap .i64 ((mAt b b.addr.who).beat-1)) && decide (b.addr.left=0) && decide (b.addr.resp=0) && !b.addr.second else decide (b.addr=Beat.none)
def beatD (b:Bus):Bool:=if b.data.live then flyOk b b.data && decide (b.data.num=(mAt b b.data.who).done) && inB b.data.left 0 (IntKind.wrap .i64 (b.conf.maxWait+2)) && inB b.data.resp 0 3 && !(decide (b.data.resp=2) && decide (b.conf.maxRetry≤(mAt b b.data.who).tries)) && !(decide (b.data.resp=3) && ((mAt b b.data.who).parted || decide (b.data.who=b.holder))) && (!b.data.second || (decide (b.data.left=0) && decide (b.data.resp≠0) && !b.addr.live)) else decide (b.data=Beat.none)
def beatsB (b:Bus):Bool:=(List.range b.ms.length).all (wOkAt b) && beatD b && beatA b
def cntW (l:List Beat) (i:Nat):Int:=((l.filter (fun x:Beat=>decide (x.who=(i:Int)))).length:Int)
def fl (b:Bus) (j:Nat):List (List V):=(List.range b.ms.length).map (fun i=>iR (cntW ((liveL b).take j) i))
theorem fl_len (b:Bus) (j:Nat):(fl b j).length=b.ms.length:=by simp [fl]
theorem fl_zero (b:Bus):List.replicate b.ms.length (iR 0)=fl b 0:=by
 unfold fl
 apply List.ext_getElem?
 intro i
 rw[List.getElem?_replicate,List.getElem?_map]
 by_cases h:i<b.ms.length
 ·rw[if_pos h,List.getElem?_range h];rfl
 ·rw[if_neg h,List.getElem?_eq_none (by simp;omega)];rfl
theorem fl_at (b:Bus) (j:Nat) {i:Nat} (h:i<b.ms.length):(fl b j)[i]?=some (iR (cntW ((liveL b).take j) i)):=by
 unfold fl;rw[List.getElem?_map,List.getElem?_range h];rfl
theorem fl_step {b:Bus} {j:Nat} {x:Beat} (h:(liveL b)[j]?=some x) (h0:0≤x.who) (h1:x.who<b.ms.length):(fl b j).set x.who.toNat (iR (cntW ((liveL b).take j) x.who.toNat+1))=fl b (j+1):=by
 apply List.ext_getElem?
 intro i
 rw[List.getElem?_set,fl_len]
 by_cases hi:i<b.ms.length
 ·rw[fl_at b (j+1) hi]
  by_cases e:x.who.toNat=i
  ·rw[if_pos e,if_pos (by omega)]
   obtain⟨k,hk⟩:∃ k:Nat,x.who=(k:Int):=⟨x.who.toNat,by omega⟩
   have hik:i=k:=by omega
   subst hik
   rw[e]
   unfold cntW
   rw[take_get h,List.filter_append]
   have:decide (x.who=(i:Int))=true:=by simp [hk]
   simp only[List.filter_cons,this,if_true,List.filter_nil,List.length_append,List.length_cons,List.length_nil,Int.natCast_add]
   rfl
  ·rw[if_neg e,fl_at b j hi]
   unfold cntW
   rw[take_get h,List.filter_append]
   have:decide (x.who=(i:Int))=false:=by simp;omega
   simp [this]
 ·rw[if_neg (by omega),List.getElem?_eq_none (by rw[fl_len];omega),List.getElem?_eq_none (by rw[fl_len];omega)]
theorem cnt_ways (b:Bus) (i:Nat):cntW ((liveL b).take (liveL b).length) i=ways b i:=by
 rw[List.take_length]
 unfold cntW liveL ways
 cases h1:b.addr.live <;> cases h2:b.data.live <;> by_cases h3:b.addr.who=i <;> by_cases h4:b.data.who=i <;> simp [h1,h2,h3,h4]
theorem cntW_le (b:Bus) (j i:Nat):0≤cntW ((liveL b).take j) i∧cntW ((liveL b).take j) i≤2:=by
 have h1:=List.length_filter_le (fun x:Beat=>decide (x.who=(i:Int))) ((liveL b).take j)
 rw[List.length_take] at h1
 have:=liveL_le b
 unfold cntW
 omega
theorem cntW_add {z:Int} (h:0≤z∧z≤2):-9223372036854775808≤z+1∧z+1≤9223372036854775807:=by omega
theorem fly_A {b:Bus} (h:(liveL b).all (flyOk b)=true) (hl:b.addr.live=true):flyOk b b.addr=true:=
 List.all_eq_true.1 h _ (by simp [liveL,hl])
theorem fly_D {b:Bus} (h:(liveL b).all (flyOk b)=true) (hl:b.data.live=true):flyOk b b.data=true:=
 List.all_eq_true.1 h _ (by simp [liveL,hl])
theorem fly_bd {b:Bus} {x:Beat} (h:flyOk b x=true):0≤x.who∧x.who<b.ms.length:=by
 simp only[flyOk,Bool.and_eq_true] at h
 have:=inB_t h.1.1
 omega
theorem fly_no {b:Bus} {j:Nat} {x:Beat} (h:(liveL b)[j]?=some x) (hx:flyOk b x=false):beatsB b=false:=by
 have hm:=List.mem_of_getElem? h
 simp only[liveL,List.mem_filter,List.mem_cons,List.not_mem_nil,or_false] at hm
 obtain⟨h1,h2⟩:=hm
 unfold beatsB
 rcases h1 with rfl|rfl
 ·have:beatA b=false:=by unfold beatA;rw[if_pos h2,hx];rfl
  rw[this,Bool.and_false]
 ·have:beatD b=false:=by unfold beatD;rw[if_pos h2,hx];rfl
  rw[this,Bool.and_false,Bool.false_and]
theorem ways_no {b:Bus} {i:Nat} (hi:i<b.ms.length) (h:wOkAt b i=false):beatsB b=false:=by
 unfold beatsB;rw[rall_no hi h];rfl
theorem beats_all {b:Bus} (h:(List.range b.ms.length).all (wOkAt b)=true):beatsB b=(beatD b && beatA b):=by unfold beatsB;rw[h];rfl
end Go.Proofs.YtoppcdecolponaaGreat.AL
