/- What functions do with plain data,each by the form of its code. Printed by program. -/
import Derived.Test.YtoppcdecolponaaGreatCGoesFirst4
namespace Go.Proofs.YtoppcdecolponaaGreat.AL
open Go
set_option linter.unusedVariables false
set_option linter.unusedSimpArgs false
set_option maxRecDepth 4096
def wbus (b:Bus):List V:=[.sl 4 (b.conf.masters.map MConf.r),.w (.int .i64 b.conf.quantum),.w (.int .i64 b.conf.maxWait),.w (.int .i64 b.conf.maxRetry),.w (.int .i64 b.conf.maxSplit),.w (.int .i64 b.conf.lockMost),.w (.int .i64 b.now),.ls 1 b.ms.length,.w (.int .i64 b.arb.pos),.w (.int .i64 b.arb.credit),.ls 2 b.buckets.length,.ls 3 b.splits.length,.w (.int .i64 b.holder),.w (.int .i64 b.kept),.w (.int .i64 b.last),.w (.bool b.addr.live),.w (.int .i64 b.addr.who),.w (.int .i64 b.addr.num),.w (.bool b.addr.first),.w (.int .i64 b.addr.via),.w (.int .i64 b.addr.left),.w (.int .i64 b.addr.resp),.w (.bool b.addr.second),.w (.bool b.data.live),.w (.int .i64 b.data.who),.w (.int .i64 b.data.num),.w (.bool b.data.first),.w (.int .i64 b.data.via),.w (.int .i64 b.data.left),.w (.int .i64 b.data.resp),.w (.bool b.data.second),.sl 1 (b.model.ram.map iR),.sl 1 (b.model.dev.regs.map iR),.w (.int .i64 b.model.dev.timer),.sl 1 (b.model.dev.fifo.map iR),.w (.int .i64 b.picks),.ls 4 b.log.length]
def LBus (b:Bus):List LB:=[.cell (wbus b),.arr 6 (b.ms.map Mst.r),.arr 2 (b.buckets.map Bucket.r),.arr 1 (b.splits.map iR),.arr 7 (b.log.map Done.r)]
def Bus.freed (b:Bus):Bus:={ b with holder:=-1,kept:=0 }
theorem cb_7 (b:Bus):GB prg 7 [.cell [.sl 4 (b.conf.masters.map MConf.r),.w (.int .i64 b.conf.quantum),.w (.int .i64 b.conf.maxWait),.w (.int .i64 b.conf.maxRetry),.w (.int .i64 b.conf.maxSplit),.w (.int .i64 b.conf.lockMost),.w (.int .i64 b.now),.ls 1 b.ms.length,.w (.int .i64 b.arb.pos),.w (.int .i64 b.arb.credit),.ls 2 b.buckets.length,.ls 3 b.splits.length,.w (.int .i64 b.holder),.w (.int .i64 b.kept),.w (.int .i64 b.last),.w (.bool b.addr.live),.w (.int .i64 b.addr.who),.w (.int .i64 b.addr.num),.w (.bool b.addr.first),.w (.int .i64 b.addr.via),.w (.int .i64 b.addr.left),.w (.int .i64 b.addr.resp),.w (.bool b.addr.second),.w (.bool b.data.live),.w (.int .i64 b.data.who),.w (.int .i64 b.data.num),.w (.bool b.data.first),.w (.int .i64 b.data.via),.w (.int .i64 b.data.left),.w (.int .i64 b.data.resp),.w (.bool b.data.second),.sl 1 (b.model.ram.map iR),.sl 1 (b.model.dev.regs.map iR),.w (.int .i64 b.model.dev.timer),.sl 1 (b.model.dev.fifo.map iR),.w (.int .i64 b.picks),.ls 4 b.log.length],.arr 6 (b.ms.map Mst.r),.arr 2 (b.buckets.map Bucket.r),.arr 1 (b.splits.map iR),.arr 7 (b.log.map Done.r)] [.cp 0 0] (fun u L1=>u=.tup []∧L1=LBus b.freed):=by
 refine gb_in g7 (Ei [0] Y (Et (Ea Y (Fj Y (Ee Y (Eo (o_stC Y Y Y Y Y Y) (Em [0] Y (Fs (Ea Y (Fj Y (Ee Y (Eo (o_stC Y Y Y Y Y Y) (Ez ?_)))))))))))))
 ·refine retB_leaf [] (.inl Y) Y Y Y Y (show(List.range 5++[]).Nodup by decide) ?_
  exact⟨Y,Y⟩
def reqAt (m:Mst):Req:=(m.queue[0]?).getD ⟨false,0,0,0,false,[]⟩
def numAt (r:Req) (k:Int):Int:=if r.write=true then(r.data[k.toNat]?).getD 0 else 0
theorem numAt_t {r:Req} {k y:Int} (h:r.write=true) (hy:r.data[k.toNat]?=some y):y=numAt r k:=by rw[numAt,if_pos h,hy];rfl
theorem numAt_f {r:Req} {k:Int} (h:r.write=false):0=numAt r k:=by rw[numAt,if_neg (by rw[h];decide)]
def Script.postsAt (s:Script) (t:Int):List Post:=s.posts.filter fun p=>decide (p.moment=t)
theorem pat_yes {xs:List Post} {t:Int} {i:Nat} {p:Post} (h:xs[i]?=some p) (e:p.moment=t):(xs.take (i+1)).filter (fun p=>decide (p.moment=t))=(xs.take i).filter (fun p=>decide (p.moment=t))++[p]:=by
 rw[take_get h,List.filter_append];simp [e]
theorem pat_no {xs:List Post} {t:Int} {i:Nat} {p:Post} (h:xs[i]?=some p) (e:¬ p.moment=t):(xs.take (i+1)).filter (fun p=>decide (p.moment=t))=(xs.take i).filter (fun p=>decide (p.moment=t)):=by
 rw[take_get h,List.filter_append];simp [e]
def Bus.did (b:Bus) (x:Beat):Model×Int×Int:=modelDo b.model (reqAt (mAt b x.who)).write ((mAt b x.who).addrAt x.num) (reqAt (mAt b x.who)).size (numAt (reqAt (mAt b x.who)) x.num)
theorem c_19 (m:Mst) (r:Req) (h0:m.queue[0]?=some r) (k:Int) (hk:r.write=true→0≤k∧k<r.data.length):CV prg 19 [.rp m.r 0,.w (.int .i64 k)] (fun res=>res=.w (.int .i64 (numAt r k))):=by
 refine cv_in g19 (Ei [0,1] Y (Et (Ea Y (Em [0,1] Y (Ey (Et (Ea Y (Fo Y (u_fa Y (u_ld Y Y ?_))))))))))
 refine s_iaM Y Y (by have h9:=(List.getElem?_eq_some_iff.1 h0).1;omega) ?_
 intro y1 e1
 have hQ:=h0.symm.trans e1;cases hQ
 refine u_ldn Y Y (Fu Y Y (Eo (Er Y Y Y Y Y Y Y) (z_q [1,5] Y (Ee Y (Ej Y Y Y (Em [1,5,13] Y (s_condB Y ?_ ?_)))))))
 intro h2
 refine Et (Ee Y (Ej Y Y Y (Ea Y (s_iaM Y Y (by exact hk (by assumption)) ?_))))
 intro y3 e3
 refine u_ld Y Y (Ea Y (Em [4] Y (Eh (Ep (Fe Y Y ?_)))))
 rotate_left
 intro h2
 refine z_s [] Y (Et (Ea Y (Em [4] Y (Eh (Fe Y Y ?_)))))
 rotate_left
 all_goals
  first|exact numAt_t (by assumption) (by assumption)|exact numAt_f (by assumption)
theorem c_61 (s:Script) (hs:s.small) (t:Int):CV prg 61 [.agg s.r,.w (.int .i64 t)] (fun res=>res=.sl 8 ((s.postsAt t).map Post.r)):=by
 obtain⟨hl1,hl2,_⟩:=id hs
 refine cv_in g61 (Ei [0,1] Y (Et (u_box Y Y Y (Ea Y (z_q [1,2] Y (Fa (o_bs Y Y Y Y) (Ea Y (Em [1,2,5] Y (Ey (Et (Ee Y (Ej Y Y Y (Fw Y (Ea Y (Em [1,5,10,11,12] Y (Fh (S_loop (ι:=Nat) (fun i=>i≤s.posts.length) (fun i=>[(5,.ls 1 (((s.posts.take i).filter fun p=>decide (p.moment=t)).map Post.r).length),(12,.w (.int .i64 (i:Int)))]) (fun i=>[.cell s.r,.arr 8 (((s.posts.take i).filter fun p=>decide (p.moment=t)).map Post.r)]) (fun i=>s.posts.length-i) 2 0 (by simp) Y (hasOf ⟨Y,Y,trivial⟩ Y) Y (fun _ _=>Y) (fun _ _=>⟨Y,Y⟩) ?_)))))))))))))))))
 intro i hi
 have hfl:(((s.posts.take i).filter fun p=>decide (p.moment=t)).map Post.r).length≤i:=by
  rw[List.length_map];exact Nat.le_trans (List.length_filter_le _ _) (by rw[List.length_take];omega)
 refine Ei [1,5,10,11,12] Y (Et (u_lss Y Y (Em [1,5,10,11,12,13] Y (Ey (Ew Y ?_ ?_)))))
 intro h1
 refine z_s [1,5,10,11,12] Y (Ey (Fh (Et (s_iaM Y Y (by omega) ?_))))
 intro y2 e2
 simp only[Int.toNat_natCast] at e2
 refine u_ldn Y Y (Fu Y Y (Eo (Er Y Y Y Y Y Y Y) (z_q [1,5,7,10,11,12] Y (Ee Y (Ej Y Y Y (Ea Y (Fm Y Y (Em [1,5,7,10,11,12,19] Y (Ew Y ?_ ?_)))))))))
 intro h3
 refine Et (Ee Y (En Y Y Y (Ev Y Y (c_100 _ (hl2 _ (List.mem_of_getElem? (by assumption)))) (Ee Y (Eo (Er Y Y Y Y Y Y Y) (Em [1,5,7,10,11,12] Y (Fs (Ea Y (En Y Y Y (Fa (o_bs Y Y Y Y) ?_))))))))))
 refine Fa (o_appL Y Y Y Y Y Y Y (by simp [roomy] at *;omega)) ?_
 refine Ea Y (Ez (Fb (Eu (Ei [1,5,10,11,12] Y (Fs (Fa (Fn Y Y (by omega)) (Ea Y (Ez (Fp ?_)))))))))
 rotate_left
 intro h3
 refine Fr (Fb (Eu (Ei [1,5,10,11,12] Y (Fs (Fa (Fn Y Y (by omega)) (Ea Y (Ez (Fp ?_))))))))
 rotate_left
 intro h1
 refine s_exit (q_seqX (q_loopX (q_blkH (Eu (Ei [5] Y (Et (Ea Y (Ea Y (Em [4] Y (Eh ?_))))))))))
 ·refine ret_leafA (.inr Y) Y Y Y ?_
  rw[List.take_of_length_le (show s.posts.length≤i by omega)];rfl
 all_goals
  first|(refine⟨i+1,by omega,by omega,hasOf ⟨?_,rfl,trivial⟩ ?_⟩ <;> rw[pat_no (by assumption) (by assumption)] <;> rfl)|(refine⟨i+1,by omega,by omega,hasOf ⟨?_,rfl,trivial⟩ ?_⟩ <;> rw[pat_yes (by assumption) (by assumption),List.map_append] <;> rfl)
theorem reqAt_of {m:Mst} {r:Req} (h:m.queue[0]?=some r):reqAt m=r:=by rw[reqAt,h];rfl
theorem did_of {b:Bus} {x:Beat} {r:Req} (h:(mAt b x.who).queue[0]?=some r):b.did x=modelDo b.model r.write ((mAt b x.who).addrAt x.num) r.size (numAt r x.num):=by rw[Bus.did,reqAt_of h]
theorem mAt_small {b:Bus} (hs:b.small) (k:Int):(mAt b k).small:=by
 unfold mAt
 cases h:b.ms[k.toNat]? with
 | none=>exact⟨by simp,by simp⟩
 | some m=>exact hs.2.2.1 m (List.mem_of_getElem? h)
theorem addrAt_some {m:Mst} {k:Int} (h:m.addrAt k≠-1):m.right=true∧0≤k∧k<m.beats:=by
 unfold Mst.addrAt at h
 split at h
 ·rename_i hc
  simp only[Bool.and_eq_true] at hc
  have:=inB_t hc.2
  exact⟨hc.1,this.1,by omega⟩
 ·exact absurd Y h
theorem right_data {m:Mst} {r:Req} {k:Int} (h:m.right=true) (hq:m.queue[0]?=some r) (hk:0≤k∧k<m.beats):r.write=true→0≤k∧k<r.data.length:=by
 intro hw
 unfold Mst.right at h
 simp only[Bool.and_eq_true,List.all_eq_true] at h
 have hr:=h.1.2 r (List.mem_of_getElem? hq)
 simp only[Req.ok,Bool.and_eq_true,decide_eq_true_eq,hw,if_true] at hr
 unfold Mst.beats at hk
 rw[hq] at hk
 simp only at hk
 have:=hr.1.2
 omega
theorem right_queue {m:Mst} {k:Int} (hk:0≤k∧k<m.beats):∃ r,m.queue[0]?=some r:=by
 unfold Mst.beats at hk
 cases h:m.queue[0]? with
 | some r=>exact⟨r,rfl⟩
 | none=>rw[h] at hk;simp only at hk;omega
theorem cg_5 (b:Bus) (x:Beat) (r:Req) (hs:b.small) (hw:0≤x.who∧x.who<b.ms.length) (h0:(mAt b x.who).queue[0]?=some r) (hk:r.write=true→0≤x.num∧x.num<r.data.length):GV prg 5 [] [.rp b.r 0,.agg x.r] (fun u L1=>u=.tup [.agg [.ls 0 (b.did x).1.ram.length,.ls 1 (b.did x).1.dev.regs.length,.w (.int .i64 (b.did x).1.dev.timer),.ls 2 (b.did x).1.dev.fifo.length],.w (.int .i64 (b.did x).2.1),.w (.int .i64 (b.did x).2.2)]∧L1=[.arr 1 ((b.did x).1.ram.map iR),.arr 1 ((b.did x).1.dev.regs.map iR),.arr 1 ((b.did x).1.dev.fifo.map iR)]):=by
 have hms:=mAt_small hs x.who
 have hmo:b.model.small:=hs.2.2.2.2.2.1
 refine gv_in g5 (Ei [0,1] Y (Et (u_box Y Y Y (Fu Y Y (Ea Y (Ea Y (z_q [0,3,4] Y (Ea Y (Fo Y (u_fa Y (u_ld Y Y (Ee Y (Ej Y Y Y (s_iaM Y Y (by omega) ?_))))))))))))))
 intro y1 e1
 have hMy:=mAt_of e1;subst hMy
 refine u_ldn Y Y (Fu Y Y (Eo (Er Y Y Y Y Y Y Y) (z_q [0,3,4,7] Y (Ee Y (Ej Y Y Y ?_)))))
 refine s_iaM Y Y (by have h9:=(List.getElem?_eq_some_iff.1 h0).1;omega) ?_
 intro y2 e2
 have hQ:=h0.symm.trans e2;cases hQ
 refine u_ldn Y Y (Fu Y Y (Eo (Er Y Y Y Y Y Y Y) (z_q [0,3,4,7,8] Y (Ea Y (Fo Y (u_fa Y (u_ldn Y Y (Ee Y (Ej Y Y Y (En Y Y Y (Ee Y (Ej Y Y Y (Ev Y Y (c_54 _ _ hms) (Ee Y (Ej Y Y Y (Ee Y (Ej Y Y Y (Ek (is:=[4,7,24,26,30,32,34]) Y (s_callL Y Y (by simp) (c_19 (mAt b x.who) r h0 x.num hk) Y (Fg [] Y Y Y Y (by simp) (.inl Y) (cg_52 b.model r.write _ r.size (numAt r x.num) hmo) ?_))))))))))))))))))))
 rintro u L1 ⟨rfl,rfl⟩
 refine⟨_,_,Y,Y,?_⟩
 refine u_ext Y Y (u_ext Y Y (u_ext Y Y (Eo (Er Y Y Y Y Y Y Y) (Ea Y (Ea Y (Em [4,5,6] Y (Eh ?_)))))))
 ·refine Fv [4,5,6] (.inr Y) Y Y Y Y (show(List.range 0++[4,5,6]).Nodup by decide) ?_
  rw[did_of h0];exact⟨Y,Y⟩
def Bus.answer (b:Bus) (s:Script) (x:Beat):Int×Int:=
 if(mAt b x.who).broken=true∨slaveOf ((mAt b x.who).addrAt x.num)=0 then(1,0) else
 (if saidOf (elem s.says b.picks)=2∧¬ slaveOf ((mAt b x.who).addrAt x.num)=3∧(mAt b x.who).tries<b.conf.maxRetry then 2 else if saidOf (elem s.says b.picks)=3∧slaveOf ((mAt b x.who).addrAt x.num)=2∧(mAt b x.who).parted=false∧¬ x.who=b.holder then 3 else(b.did x).2.2,
  if slaveOf ((mAt b x.who).addrAt x.num)=3 then b.conf.waitAt s b.picks+2 else b.conf.waitAt s b.picks)
theorem slave_ne {a:Int} (h:¬ slaveOf a=0):a≠-1:=by
 intro e;subst e;exact h (by decide)
theorem waitAt_bd {c:Conf} {s:Script} {k:Int} (h:c.maxWait≤1000000):0≤c.waitAt s k∧c.waitAt s k≤1000000:=by
 unfold Conf.waitAt;omega
theorem c_1 (b:Bus) (s:Script) (x:Beat) (hs:b.small) (hw:0≤x.who∧x.who<b.ms.length) (hc:b.conf.maxWait≤1000000):CV prg 1 [.rp b.r 0,.agg s.r,.agg x.r] (fun res=>res=.tup [.w (.int .i64 (b.answer s x).1),.w (.int .i64 (b.answer s x).2)]):=by
 have hms:=mAt_small hs x.who
 have hwt:=waitAt_bd (s:=s) (k:=b.picks) hc
 refine cv_in g1 (Ei [0,1,2] Y (Et (u_box Y Y Y (u_box Y Y Y (Ea Y (Ea Y (z_q [0,4,5] Y (Ea Y (Fo Y (u_fa Y (u_ld Y Y (Ee Y (Ej Y Y Y (s_iaM Y Y (by omega) ?_))))))))))))))
 intro y1 e1
 have hMy:=mAt_of e1;subst hMy
 refine u_ldn Y Y (Fu Y Y (Eo (Er Y Y Y Y Y Y Y) (z_q [0,4,5,8] Y (En Y Y Y (Ee Y (Ej Y Y Y (Ev Y Y (c_54 _ _ hms) (Ev Y Y (c_73 _) (Ea Y (Em [0,4,5,8,9] Y (Ey (Et (Ee Y (Ej Y Y Y (Ea Y (s_gB Y ?_ ?_))))))))))))))))
 intro h2
 refine Ea Y (Ec Y (Fm Y Y (Ed Y Y (Em [0,4,5,8,9,33] Y (Ew Y ?_ ?_)))))
 intro h3
 refine Et (Ea Y (Ea Y (Em [6,7] Y (Eh (Ep (Fq Y Y ?_))))))
 rotate_left
 intro h3
 have hsl:¬ slaveOf ((mAt b x.who).addrAt x.num)=0:=h3;obtain⟨hri,hrk⟩:=addrAt_some (slave_ne hsl);obtain⟨r,h0⟩:=right_queue hrk;have hrd:=right_data hri h0 hrk
 refine z_s [0,4,5,8,9] Y (Et (Ea Y (En Y Y Y (Fg [] Y Y Y Y (by simp) (.inl Y) (cg_5 b x r hs hw h0 hrd) ?_))))
 rintro u L1 ⟨rfl,rfl⟩
 refine⟨_,_,Y,Y,?_⟩
 refine Ea Y (u_ext Y Y (u_ext Y Y (u_ext Y Y (Fu Y Y (Eo (Er Y Y Y Y Y Y Y) (Ea Y (Ea Y (z_q [0,4,5,8,9,12] Y (Ea Y (Fo Y (u_fa Y (u_ldn Y Y (En Y Y Y (Ea Y (Fo Y (u_fa Y (u_ld Y Y (Ev Y Y (c_80 _ _ _) (Ea Y (Em [0,4,5,8,9,12,13] Y (Ey (Et (Ea Y (Fm Y Y (Em [0,4,5,8,9,12,13,52] Y (Ew Y ?_ ?_))))))))))))))))))))))))))
 intro h4
 refine Fs (Ea Y (Fa (Fn Y Y (by omega)) (Ea Y (Em [0,4,5,8,9,12,13] Y (Ey (Et (En Y Y Y (Ea Y (Fo Y (u_fa Y (u_ld Y Y (Ev Y Y (c_68 _ _) (Ea Y (Em [0,5,8,9,12,13,14] Y (Fh (Et (Ea Y (Fm Y Y (Ea Y (Ft Y ?_ ?_))))))))))))))))))))
 intro h5
 refine Ea Y (Ec Y (u_neq Y Y (Eg Y Y (Ea Y (Ft Y ?_ ?_)))))
 intro h6
 refine Ee Y (Ec Y (Ej Y Y Y (Ec Y (Ea Y (Ec Y (Fo Y (Ec Y (u_fa Y (Ec Y (u_fa Y (Ec Y (u_ld Y Y (Ek (is:=[0,5,8,9,12,13,14,68,70,75]) Y (Ec Y (u_lss Y Y (Eg Y Y (Ea Y (Em [0,5,8,9,12,13,14,61] Y (Ew Y ?_ ?_)))))))))))))))))))
 intro h7
 refine Fs (Ea Y (Ez (Fb (Eu (Ei [12,13] Y (Et (Ea Y (Ea Y (Ea Y (Ea Y (Em [6,7] Y (Eh (Fq Y Y ?_)))))))))))))
 rotate_left
 intro h7
 refine Et (Ea Y (Fm Y Y (Ea Y (Ft Y ?_ ?_))))
 intro h8
 refine Ea Y (Ec Y (Fm Y Y (Eg Y Y (Ea Y (Ft Y ?_ ?_)))))
 intro h9
 refine Ee Y (Ec Y (Ej Y Y Y (Ec Y (Fk Y (Eg Y Y (Ea Y (s_gNT Y ?_ ?_)))))))
 intro h10
 refine Ee Y (Ec Y (Ej Y Y Y (Ek (is:=[0,12,13,90,92]) Y (Ec Y (Ea Y (Ec Y (Fo Y (Ec Y (u_fa Y (Ec Y (u_ld Y Y (Ec Y (u_neq Y Y (Eg Y Y (Ea Y (Em [12,13,78] Y (Ew Y ?_ ?_)))))))))))))))))
 intro h11
 refine Fs (Ea Y (Ez (Fb (Eu (Ei [12,13] Y (Et (Ea Y (Ea Y (Ea Y (Ea Y (Em [6,7] Y (Eh (Fq Y Y ?_)))))))))))))
 rotate_left
 intro h11
 rw[nnp] at h11
 refine Fr (Fb (Eu (Ei [12,13] Y (Et (Ea Y (Ea Y (Ea Y (Ea Y (Em [6,7] Y (Eh (Fq Y Y ?_)))))))))))
 rotate_left
 intro h10
 refine Eb Y (Eb Y (Ek (is:=[0,12,13,90,92]) Y (Eb Y (Eb Y (Eb Y (Eb Y (Eb Y (Ed Y Y (Ea Y (Em [12,13,78] Y (Fi Y (Fr (Fb (Eu (Ei [12,13] Y (Et (Ea Y (Ea Y (Ea Y (Ea Y (Em [6,7] Y (Eh (Fq Y Y ?_)))))))))))))))))))))))
 rotate_left
 intro h9
 refine Eb Y (Eb Y (Eb Y (Ed Y Y (Ea Y (Eb Y (Eb Y (Ek (is:=[0,12,13,90,92]) Y (Eb Y (Eb Y (Eb Y (Eb Y (Eb Y (Ed Y Y (Ea Y (Em [12,13,78] Y (Fi Y (Fr (Fb (Eu (Ei [12,13] Y (Et (Ea Y (Ea Y (Ea Y (Ea Y (Em [6,7] Y (Eh (Fq Y Y ?_))))))))))))))))))))))))))))
 rotate_left
 intro h8
 refine Eb Y (Eb Y (Ed Y Y (Ea Y (Eb Y (Eb Y (Eb Y (Ed Y Y (Ea Y (Eb Y (Eb Y (Ek (is:=[0,12,13,90,92]) Y (Eb Y (Eb Y (Eb Y (Eb Y (Eb Y (Ed Y Y (Ea Y (Em [12,13,78] Y (Fi Y (Fr (Fb (Eu (Ei [12,13] Y (Et (Ea Y (Ea Y (Ea Y (Ea Y (Em [6,7] Y (Eh (Fq Y Y ?_))))))))))))))))))))))))))))))))
 rotate_left
 intro h6
 rw[nnp] at h6
 iterate 7 refine Eb rfl ?_
 refine Ek (is:=[0,5,8,9,12,13,14,68,70,75]) Y (Eb Y (Ed Y Y (Ea Y (Em [0,5,8,9,12,13,14,61] Y (Fi Y (Et (Ea Y (Fm Y Y (Ea Y (Ft Y ?_ ?_))))))))))
 intro h12
 refine Ea Y (Ec Y (Fm Y Y (Eg Y Y (Ea Y (Ft Y ?_ ?_)))))
 intro h13
 refine Ee Y (Ec Y (Ej Y Y Y (Ec Y (Fk Y (Eg Y Y (Ea Y (s_gNT Y ?_ ?_)))))))
 intro h14
 refine Ee Y (Ec Y (Ej Y Y Y (Ek (is:=[0,12,13,90,92]) Y (Ec Y (Ea Y (Ec Y (Fo Y (Ec Y (u_fa Y (Ec Y (u_ld Y Y (Ec Y (u_neq Y Y (Eg Y Y (Ea Y (Em [12,13,78] Y (Ew Y ?_ ?_)))))))))))))))))
 intro h15
 refine Fs (Ea Y (Ez (Fb (Eu (Ei [12,13] Y (Et (Ea Y (Ea Y (Ea Y (Ea Y (Em [6,7] Y (Eh (Fq Y Y ?_)))))))))))))
 rotate_left
 intro h15
 rw[nnp] at h15
 refine Fr (Fb (Eu (Ei [12,13] Y (Et (Ea Y (Ea Y (Ea Y (Ea Y (Em [6,7] Y (Eh (Fq Y Y ?_)))))))))))
 rotate_left
 intro h14
 refine Eb Y (Eb Y (Ek (is:=[0,12,13,90,92]) Y (Eb Y (Eb Y (Eb Y (Eb Y (Eb Y (Ed Y Y (Ea Y (Em [12,13,78] Y (Fi Y (Fr (Fb (Eu (Ei [12,13] Y (Et (Ea Y (Ea Y (Ea Y (Ea Y (Em [6,7] Y (Eh (Fq Y Y ?_)))))))))))))))))))))))
 rotate_left
 intro h13
 refine Eb Y (Eb Y (Eb Y (Ed Y Y (Ea Y (Eb Y (Eb Y (Ek (is:=[0,12,13,90,92]) Y (Eb Y (Eb Y (Eb Y (Eb Y (Eb Y (Ed Y Y (Ea Y (Em [12,13,78] Y (Fi Y (Fr (Fb (Eu (Ei [12,13] Y (Et (Ea Y (Ea Y (Ea Y (Ea Y (Em [6,7] Y (Eh (Fq Y Y ?_))))))))))))))))))))))))))))
 rotate_left
 intro h12
 refine Eb Y (Eb Y (Ed Y Y (Ea Y (Eb Y (Eb Y (Eb Y (Ed Y Y (Ea Y (Eb Y (Eb Y (Ek (is:=[0,12,13,90,92]) Y (Eb Y (Eb Y (Eb Y (Eb Y (Eb Y (Ed Y Y (Ea Y (Em [12,13,78] Y (Fi Y (Fr (Fb (Eu (Ei [12,13] Y (Et (Ea Y (Ea Y (Ea Y (Ea Y (Em [6,7] Y (Eh (Fq Y Y ?_))))))))))))))))))))))))))))))))
 rotate_left
 intro h5
 refine Eb Y (Eb Y (Ed Y Y (Ea Y ?_)))
 iterate 7 refine Eb rfl ?_
 refine Ek (is:=[0,5,8,9,12,13,14,68,70,75]) Y (Eb Y (Ed Y Y (Ea Y (Em [0,5,8,9,12,13,14,61] Y (Fi Y (Et (Ea Y (Fm Y Y (Ea Y (Ft Y ?_ ?_))))))))))
 intro h16
 refine Ea Y (Ec Y (Fm Y Y (Eg Y Y (Ea Y (Ft Y ?_ ?_)))))
 intro h17
 refine Ee Y (Ec Y (Ej Y Y Y (Ec Y (Fk Y (Eg Y Y (Ea Y (s_gNT Y ?_ ?_)))))))
 intro h18
 refine Ee Y (Ec Y (Ej Y Y Y (Ek (is:=[0,12,13,90,92]) Y (Ec Y (Ea Y (Ec Y (Fo Y (Ec Y (u_fa Y (Ec Y (u_ld Y Y (Ec Y (u_neq Y Y (Eg Y Y (Ea Y (Em [12,13,78] Y (Ew Y ?_ ?_)))))))))))))))))
 intro h19
 refine Fs (Ea Y (Ez (Fb (Eu (Ei [12,13] Y (Et (Ea Y (Ea Y (Ea Y (Ea Y (Em [6,7] Y (Eh (Fq Y Y ?_)))))))))))))
 rotate_left
 intro h19
 rw[nnp] at h19
 refine Fr (Fb (Eu (Ei [12,13] Y (Et (Ea Y (Ea Y (Ea Y (Ea Y (Em [6,7] Y (Eh (Fq Y Y ?_)))))))))))
 rotate_left
 intro h18
 refine Eb Y (Eb Y (Ek (is:=[0,12,13,90,92]) Y (Eb Y (Eb Y (Eb Y (Eb Y (Eb Y (Ed Y Y (Ea Y (Em [12,13,78] Y (Fi Y (Fr (Fb (Eu (Ei [12,13] Y (Et (Ea Y (Ea Y (Ea Y (Ea Y (Em [6,7] Y (Eh (Fq Y Y ?_)))))))))))))))))))))))
 rotate_left
 intro h17
 refine Eb Y (Eb Y (Eb Y (Ed Y Y (Ea Y (Eb Y (Eb Y (Ek (is:=[0,12,13,90,92]) Y (Eb Y (Eb Y (Eb Y (Eb Y (Eb Y (Ed Y Y (Ea Y (Em [12,13,78] Y (Fi Y (Fr (Fb (Eu (Ei [12,13] Y (Et (Ea Y (Ea Y (Ea Y (Ea Y (Em [6,7] Y (Eh (Fq Y Y ?_))))))))))))))))))))))))))))
 rotate_left
 intro h16
 refine Eb Y (Eb Y (Ed Y Y (Ea Y (Eb Y (Eb Y (Eb Y (Ed Y Y (Ea Y (Eb Y (Eb Y (Ek (is:=[0,12,13,90,92]) Y (Eb Y (Eb Y (Eb Y (Eb Y (Eb Y (Ed Y Y (Ea Y (Em [12,13,78] Y (Fi Y (Fr (Fb (Eu (Ei [12,13] Y (Et (Ea Y (Ea Y (Ea Y (Ea Y (Em [6,7] Y (Eh (Fq Y Y ?_))))))))))))))))))))))))))))))))
 rotate_left
 intro h4
 refine z_s [0,4,5,8,9,12,13] Y (Ey (Et (En Y Y Y (Ea Y (Fo Y (u_fa Y (u_ld Y Y (Ev Y Y (c_68 _ _) (Ea Y (Em [0,5,8,9,12,13,14] Y (Fh (Et (Ea Y (Fm Y Y (Ea Y (Ft Y ?_ ?_))))))))))))))))
 intro h20
 refine Ea Y (Ec Y (u_neq Y Y (Eg Y Y (Ea Y (Ft Y ?_ ?_)))))
 intro h21
 refine Ee Y (Ec Y (Ej Y Y Y (Ec Y (Ea Y (Ec Y (Fo Y (Ec Y (u_fa Y (Ec Y (u_fa Y (Ec Y (u_ld Y Y (Ek (is:=[0,5,8,9,12,13,14,68,70,75]) Y (Ec Y (u_lss Y Y (Eg Y Y (Ea Y (Em [0,5,8,9,12,13,14,61] Y (Ew Y ?_ ?_)))))))))))))))))))
 intro h22
 refine Fs (Ea Y (Ez (Fb (Eu (Ei [12,13] Y (Et (Ea Y (Ea Y (Ea Y (Ea Y (Em [6,7] Y (Eh (Fq Y Y ?_)))))))))))))
 rotate_left
 intro h22
 refine Et (Ea Y (Fm Y Y (Ea Y (Ft Y ?_ ?_))))
 intro h23
 refine Ea Y (Ec Y (Fm Y Y (Eg Y Y (Ea Y (Ft Y ?_ ?_)))))
 intro h24
 refine Ee Y (Ec Y (Ej Y Y Y (Ec Y (Fk Y (Eg Y Y (Ea Y (s_gNT Y ?_ ?_)))))))
 intro h25
 refine Ee Y (Ec Y (Ej Y Y Y (Ek (is:=[0,12,13,90,92]) Y (Ec Y (Ea Y (Ec Y (Fo Y (Ec Y (u_fa Y (Ec Y (u_ld Y Y (Ec Y (u_neq Y Y (Eg Y Y (Ea Y (Em [12,13,78] Y (Ew Y ?_ ?_)))))))))))))))))
 intro h26
 refine Fs (Ea Y (Ez (Fb (Eu (Ei [12,13] Y (Et (Ea Y (Ea Y (Ea Y (Ea Y (Em [6,7] Y (Eh (Fq Y Y ?_)))))))))))))
 rotate_left
 intro h26
 rw[nnp] at h26
 refine Fr (Fb (Eu (Ei [12,13] Y (Et (Ea Y (Ea Y (Ea Y (Ea Y (Em [6,7] Y (Eh (Fq Y Y ?_)))))))))))
 rotate_left
 intro h25
 refine Eb Y (Eb Y (Ek (is:=[0,12,13,90,92]) Y (Eb Y (Eb Y (Eb Y (Eb Y (Eb Y (Ed Y Y (Ea Y (Em [12,13,78] Y (Fi Y (Fr (Fb (Eu (Ei [12,13] Y (Et (Ea Y (Ea Y (Ea Y (Ea Y (Em [6,7] Y (Eh (Fq Y Y ?_)))))))))))))))))))))))
 rotate_left
 intro h24
 refine Eb Y (Eb Y (Eb Y (Ed Y Y (Ea Y (Eb Y (Eb Y (Ek (is:=[0,12,13,90,92]) Y (Eb Y (Eb Y (Eb Y (Eb Y (Eb Y (Ed Y Y (Ea Y (Em [12,13,78] Y (Fi Y (Fr (Fb (Eu (Ei [12,13] Y (Et (Ea Y (Ea Y (Ea Y (Ea Y (Em [6,7] Y (Eh (Fq Y Y ?_))))))))))))))))))))))))))))
 rotate_left
 intro h23
 refine Eb Y (Eb Y (Ed Y Y (Ea Y (Eb Y (Eb Y (Eb Y (Ed Y Y (Ea Y (Eb Y (Eb Y (Ek (is:=[0,12,13,90,92]) Y (Eb Y (Eb Y (Eb Y (Eb Y (Eb Y (Ed Y Y (Ea Y (Em [12,13,78] Y (Fi Y (Fr (Fb (Eu (Ei [12,13] Y (Et (Ea Y (Ea Y (Ea Y (Ea Y (Em [6,7] Y (Eh (Fq Y Y ?_))))))))))))))))))))))))))))))))
 rotate_left
 intro h21
 rw[nnp] at h21
 iterate 7 refine Eb rfl ?_
 refine Ek (is:=[0,5,8,9,12,13,14,68,70,75]) Y (Eb Y (Ed Y Y (Ea Y (Em [0,5,8,9,12,13,14,61] Y (Fi Y (Et (Ea Y (Fm Y Y (Ea Y (Ft Y ?_ ?_))))))))))
 intro h27
 refine Ea Y (Ec Y (Fm Y Y (Eg Y Y (Ea Y (Ft Y ?_ ?_)))))
 intro h28
 refine Ee Y (Ec Y (Ej Y Y Y (Ec Y (Fk Y (Eg Y Y (Ea Y (s_gNT Y ?_ ?_)))))))
 intro h29
 refine Ee Y (Ec Y (Ej Y Y Y (Ek (is:=[0,12,13,90,92]) Y (Ec Y (Ea Y (Ec Y (Fo Y (Ec Y (u_fa Y (Ec Y (u_ld Y Y (Ec Y (u_neq Y Y (Eg Y Y (Ea Y (Em [12,13,78] Y (Ew Y ?_ ?_)))))))))))))))))
 intro h30
 refine Fs (Ea Y (Ez (Fb (Eu (Ei [12,13] Y (Et (Ea Y (Ea Y (Ea Y (Ea Y (Em [6,7] Y (Eh (Fq Y Y ?_)))))))))))))
 rotate_left
 intro h30
 rw[nnp] at h30
 refine Fr (Fb (Eu (Ei [12,13] Y (Et (Ea Y (Ea Y (Ea Y (Ea Y (Em [6,7] Y (Eh (Fq Y Y ?_)))))))))))
 rotate_left
 intro h29
 refine Eb Y (Eb Y (Ek (is:=[0,12,13,90,92]) Y (Eb Y (Eb Y (Eb Y (Eb Y (Eb Y (Ed Y Y (Ea Y (Em [12,13,78] Y (Fi Y (Fr (Fb (Eu (Ei [12,13] Y (Et (Ea Y (Ea Y (Ea Y (Ea Y (Em [6,7] Y (Eh (Fq Y Y ?_)))))))))))))))))))))))
 rotate_left
 intro h28
 refine Eb Y (Eb Y (Eb Y (Ed Y Y (Ea Y (Eb Y (Eb Y (Ek (is:=[0,12,13,90,92]) Y (Eb Y (Eb Y (Eb Y (Eb Y (Eb Y (Ed Y Y (Ea Y (Em [12,13,78] Y (Fi Y (Fr (Fb (Eu (Ei [12,13] Y (Et (Ea Y (Ea Y (Ea Y (Ea Y (Em [6,7] Y (Eh (Fq Y Y ?_))))))))))))))))))))))))))))
 rotate_left
 intro h27
 refine Eb Y (Eb Y (Ed Y Y (Ea Y (Eb Y (Eb Y (Eb Y (Ed Y Y (Ea Y (Eb Y (Eb Y (Ek (is:=[0,12,13,90,92]) Y (Eb Y (Eb Y (Eb Y (Eb Y (Eb Y (Ed Y Y (Ea Y (Em [12,13,78] Y (Fi Y (Fr (Fb (Eu (Ei [12,13] Y (Et (Ea Y (Ea Y (Ea Y (Ea Y (Em [6,7] Y (Eh (Fq Y Y ?_))))))))))))))))))))))))))))))))
 rotate_left
 intro h20
 refine Eb Y (Eb Y (Ed Y Y (Ea Y ?_)))
 iterate 7 refine Eb rfl ?_
 refine Ek (is:=[0,5,8,9,12,13,14,68,70,75]) Y (Eb Y (Ed Y Y (Ea Y (Em [0,5,8,9,12,13,14,61] Y (Fi Y (Et (Ea Y (Fm Y Y (Ea Y (Ft Y ?_ ?_))))))))))
 intro h31
 refine Ea Y (Ec Y (Fm Y Y (Eg Y Y (Ea Y (Ft Y ?_ ?_)))))
 intro h32
 refine Ee Y (Ec Y (Ej Y Y Y (Ec Y (Fk Y (Eg Y Y (Ea Y (s_gNT Y ?_ ?_)))))))
 intro h33
 refine Ee Y (Ec Y (Ej Y Y Y (Ek (is:=[0,12,13,90,92]) Y (Ec Y (Ea Y (Ec Y (Fo Y (Ec Y (u_fa Y (Ec Y (u_ld Y Y (Ec Y (u_neq Y Y (Eg Y Y (Ea Y (Em [12,13,78] Y (Ew Y ?_ ?_)))))))))))))))))
 intro h34
 refine Fs (Ea Y (Ez (Fb (Eu (Ei [12,13] Y (Et (Ea Y (Ea Y (Ea Y (Ea Y (Em [6,7] Y (Eh (Fq Y Y ?_)))))))))))))
 rotate_left
 intro h34
 rw[nnp] at h34
 refine Fr (Fb (Eu (Ei [12,13] Y (Et (Ea Y (Ea Y (Ea Y (Ea Y (Em [6,7] Y (Eh (Fq Y Y ?_)))))))))))
 rotate_left
 intro h33
 refine Eb Y (Eb Y (Ek (is:=[0,12,13,90,92]) Y (Eb Y (Eb Y (Eb Y (Eb Y (Eb Y (Ed Y Y (Ea Y (Em [12,13,78] Y (Fi Y (Fr (Fb (Eu (Ei [12,13] Y (Et (Ea Y (Ea Y (Ea Y (Ea Y (Em [6,7] Y (Eh (Fq Y Y ?_)))))))))))))))))))))))
 rotate_left
 intro h32
 refine Eb Y (Eb Y (Eb Y (Ed Y Y (Ea Y (Eb Y (Eb Y (Ek (is:=[0,12,13,90,92]) Y (Eb Y (Eb Y (Eb Y (Eb Y (Eb Y (Ed Y Y (Ea Y (Em [12,13,78] Y (Fi Y (Fr (Fb (Eu (Ei [12,13] Y (Et (Ea Y (Ea Y (Ea Y (Ea Y (Em [6,7] Y (Eh (Fq Y Y ?_))))))))))))))))))))))))))))
 rotate_left
 intro h31
 refine Eb Y (Eb Y (Ed Y Y (Ea Y (Eb Y (Eb Y (Eb Y (Ed Y Y (Ea Y (Eb Y (Eb Y (Ek (is:=[0,12,13,90,92]) Y (Eb Y (Eb Y (Eb Y (Eb Y (Eb Y (Ed Y Y (Ea Y (Em [12,13,78] Y (Fi Y (Fr (Fb (Eu (Ei [12,13] Y (Et (Ea Y (Ea Y (Ea Y (Ea Y (Em [6,7] Y (Eh (Fq Y Y ?_))))))))))))))))))))))))))))))))
 rotate_left
 intro h2
 refine Eb Y (Eb Y (Eg Y Y (Em [0,4,5,8,9,33] Y (Fd Y (Et (Ea Y (Ea Y (Em [6,7] Y (Eh (Ep (Fq Y Y ?_)))))))))))
 rotate_left
 all_goals
  first|(exfalso;omega)|(unfold Bus.answer;simp_all;done)|(unfold Bus.answer;simp_all;intro h9;omega)
def MConf.mild (m:MConf):Prop:=0≤m.every∧m.every≤1000000∧0≤m.cap∧m.cap≤1000000∧(m.prio=true→1≤m.every)
theorem cm_28 (b:Bucket) (m:MConf) (ht:m.mild):CV prg 28 [.agg b.r,.agg m.r] (fun res=>res=.agg (b.tick m).r):=by
 have ht2:=ht
 unfold MConf.mild at ht2
 refine cv_in g28 (Ei [0,1] Y (Et (u_box Y Y Y (u_box Y Y Y (Fu Y Y (Em [2,3,4] Y (Ey (Et (En Y Y Y (En Y Y Y (Ev Y Y (c_90 _ _) (Fk Y (Em [2,3,4,8] Y (s_condNB Y ?_ ?_))))))))))))))
 intro h1
 have h1':=kept_f h1
 refine Et (En Y Y Y (Eo (Er Y Y Y Y Y Y Y) (Em [4] Y (Eh (Ep (Fq Y Y ?_))))))
 rotate_left
 intro h1
 have h1':=kept_t h1
 have h1':=bk_p (kept_t h1).1 (kept_t h1).2
 refine z_s [2,3,4] Y (Et (Ee Y (Ej Y Y Y (Fa (Fn Y Y (by omega)) (Ee Y (Eo (o_stC Y Y Y Y Y Y) (Em [2,3,4] Y (Ey (Et (Ee Y (Ej Y Y Y (Ee Y (Ej Y Y Y (Fm Y Y (Em [2,3,4,18] Y (Ew Y ?_ ?_))))))))))))))))
 intro h2
 refine Et (Ee Y (Eo (o_stC Y Y Y Y Y Y) (Em [2,3,4] Y (Fs (Ee Y (Ej Y Y Y (Fa (Fn Y Y (by omega)) (Ee Y (Ej Y Y Y (u_mn Y (Ee Y (Eo (o_stC Y Y Y Y Y Y) (z_q [2,4] Y (En Y Y Y (Eo (Er Y Y Y Y Y Y Y) (Em [4] Y (Eh (Fq Y Y ?_))))))))))))))))))
 rotate_left
 intro h2
 refine z_s [2,4] Y (Et (En Y Y Y (Eo (Er Y Y Y Y Y Y Y) (Em [4] Y (Eh (Fq Y Y ?_))))))
 rotate_left
 all_goals
  first|(rw[tick_no (by assumption)];rfl)|(rw[tick_turn (by exact(kept_t (by assumption)).1) (by exact(kept_t (by assumption)).2) (by omega)];simp only[Bucket.r,minL2];rw[min_sw];done)|(rw[tick_next (by exact(kept_t (by assumption)).1) (by exact(kept_t (by assumption)).2) (by omega)];rfl)
theorem cm_27 (b:Bucket) (m:MConf) (ht:m.mild):CV prg 27 [.agg b.r,.agg m.r] (fun res=>res=tupB (b.take m)):=by
 have ht2:=ht
 unfold MConf.mild at ht2
 refine cv_in g27 (Ei [0,1] Y (Et (u_box Y Y Y (u_box Y Y Y (Fu Y Y (Ea Y (Em [2,3,4] Y (Ey (Et (En Y Y Y (En Y Y Y (Ev Y Y (c_90 _ _) (Fk Y (Ea Y (s_gNF Y ?_ ?_)))))))))))))))
 intro h1
 have h1':=kept_t h1
 have h1':=bk_p (kept_t h1).1 (kept_t h1).2
 refine Ee Y (Ec Y (Ej Y Y Y (Ec Y (Fm Y Y (Ed Y Y (Em [2,4,14] Y (Ew Y ?_ ?_)))))))
 intro h2
 refine Et (En Y Y Y (Eo (Er Y Y Y Y Y Y Y) (Ea Y (Em [4,5] Y (Eh (Ep (Fq Y Y ?_)))))))
 rotate_left
 intro h2
 refine z_s [2,4] Y (Et (Ee Y (Ej Y Y Y (Fa (o_subn Y Y (by omega)) (Ee Y (Eo (o_stC Y Y Y Y Y Y) (z_q [2,4] Y (En Y Y Y (Eo (Er Y Y Y Y Y Y Y) (Ea Y (Em [4,5] Y (Eh (Fq Y Y ?_)))))))))))))
 rotate_left
 intro h1
 have h1':=kept_f h1
 refine Eb Y (Eb Y (Eb Y (Eg Y Y (Em [2,4,14] Y (Fd Y (Et (En Y Y Y (Eo (Er Y Y Y Y Y Y Y) (Ea Y (Em [4,5] Y (Eh (Ep (Fq Y Y ?_)))))))))))))
 rotate_left
 all_goals
  first|(rw[take_no (by first|exact .inr (.inr (by assumption))|exact(kept_f (by assumption)).imp id .inl)];rfl)|(rw[take_is (by exact(kept_t (by assumption)).1) (by exact(kept_t (by assumption)).2) (by assumption)];rfl)
theorem cm_24 (b:Bucket) (m:MConf) (ht:m.mild):CV prg 24 [.agg b.r,.agg m.r] (fun res=>res=.agg (b.back m).r):=by
 have ht2:=ht
 unfold MConf.mild at ht2
 refine cv_in g24 (Ei [0,1] Y (Et (u_box Y Y Y (u_box Y Y Y (Fu Y Y (Em [2,3,4] Y (Ey (Et (En Y Y Y (En Y Y Y (Ev Y Y (c_90 _ _) (Ea Y (s_gB Y ?_ ?_)))))))))))))
 intro h1
 have h1':=kept_t h1
 have h1':=bk_p (kept_t h1).1 (kept_t h1).2
 refine Ee Y (Ec Y (Ej Y Y Y (Ec Y (Ee Y (Ec Y (Ej Y Y Y (Ec Y (u_lss Y Y (Eg Y Y (Em [2,4,14] Y (Ew Y ?_ ?_)))))))))))
 intro h2
 refine Fs (Ee Y (Ej Y Y Y (Fa (Fn Y Y (by omega)) (Ee Y (Eo (o_stC Y Y Y Y Y Y) (z_q [2,4] Y (En Y Y Y (Eo (Er Y Y Y Y Y Y Y) (Em [4] Y (Eh (Fq Y Y ?_)))))))))))
 rotate_left
 intro h2
 refine z_s [2,4] Y (Et (En Y Y Y (Eo (Er Y Y Y Y Y Y Y) (Em [4] Y (Eh (Fq Y Y ?_))))))
 rotate_left
 intro h1
 have h1':=kept_f h1
 refine Eb Y (Eb Y (Eb Y (Eb Y (Eb Y (Ed Y Y (Em [2,4,14] Y (Fi Y (z_s [2,4] Y (Et (En Y Y Y (Eo (Er Y Y Y Y Y Y Y) (Em [4] Y (Eh (Fq Y Y ?_))))))))))))))
 rotate_left
 all_goals
  first|(rw[back_no (by first|exact .inr (.inr (by assumption))|exact(kept_f (by assumption)).imp id .inl)];rfl)|(rw[back_is (by exact(kept_t (by assumption)).1) (by exact(kept_t (by assumption)).2) (by assumption)];rfl)
structure Bus.fine (b:Bus):Prop where
 small:b.small
 cok:b.conf.ok=true
 tiny:∀ m,m∈b.conf.masters→m.mild
 lm:b.ms.length=b.conf.masters.length
 lb:b.buckets.length=b.conf.masters.length
 ls:b.splits.length=b.conf.masters.length
def Bus.revoke (b:Bus) (x:Beat):Bus:=
 if x.via=1 then { b with ms:=b.ms.set x.who.toNat (mAt b x.who).back.1,buckets:=b.buckets.set x.who.toNat ((bAt b x.who).back (cAt b x.who)) }
 else if x.via=2 then { b with ms:=b.ms.set x.who.toNat (mAt b x.who).back.1,arb:=b.arb.back b.conf x.who }
 else { b with ms:=b.ms.set x.who.toNat (mAt b x.who).back.1 }
theorem at_of {α:Type} {xs:List α} {k:Int} (h0:0≤k) (h1:k<xs.length):∃ y,xs[k.toNat]?=some y:=⟨_,List.getElem?_eq_getElem (show k.toNat<xs.length by omega)⟩
theorem cb_16 (b:Bus) (x:Beat) (hf:b.fine) (hw:0≤x.who∧x.who<b.ms.length):GB prg 16 [.cell [.sl 4 (b.conf.masters.map MConf.r),.w (.int .i64 b.conf.quantum),.w (.int .i64 b.conf.maxWait),.w (.int .i64 b.conf.maxRetry),.w (.int .i64 b.conf.maxSplit),.w (.int .i64 b.conf.lockMost),.w (.int .i64 b.now),.ls 1 b.ms.length,.w (.int .i64 b.arb.pos),.w (.int .i64 b.arb.credit),.ls 2 b.buckets.length,.ls 3 b.splits.length,.w (.int .i64 b.holder),.w (.int .i64 b.kept),.w (.int .i64 b.last),.w (.bool b.addr.live),.w (.int .i64 b.addr.who),.w (.int .i64 b.addr.num),.w (.bool b.addr.first),.w (.int .i64 b.addr.via),.w (.int .i64 b.addr.left),.w (.int .i64 b.addr.resp),.w (.bool b.addr.second),.w (.bool b.data.live),.w (.int .i64 b.data.who),.w (.int .i64 b.data.num),.w (.bool b.data.first),.w (.int .i64 b.data.via),.w (.int .i64 b.data.left),.w (.int .i64 b.data.resp),.w (.bool b.data.second),.sl 1 (b.model.ram.map iR),.sl 1 (b.model.dev.regs.map iR),.w (.int .i64 b.model.dev.timer),.sl 1 (b.model.dev.fifo.map iR),.w (.int .i64 b.picks),.ls 4 b.log.length],.arr 6 (b.ms.map Mst.r),.arr 2 (b.buckets.map Bucket.r),.arr 1 (b.splits.map iR),.arr 7 (b.log.map Done.r)] [.cp 0 0,.agg x.r] (fun u L1=>u=.tup []∧L1=LBus (b.revoke x)):=by
 obtain⟨m,hm⟩:=at_of hw.1 hw.2
 obtain⟨bk,hbk⟩:∃ y,b.buckets[x.who.toNat]?=some y:=at_of hw.1 (by have:=hf.lb;have:=hf.lm;omega)
 obtain⟨mc,hmc⟩:∃ y,b.conf.masters[x.who.toNat]?=some y:=at_of hw.1 (by have:=hf.lm;omega)
 have hms:m.small:=hf.small.2.2.1 m (List.mem_of_getElem? hm)
 have hmt:=hf.tiny mc (List.mem_of_getElem? hmc)
 have hcl:b.conf.masters.length≤1048576:=hf.small.1
 refine gb_in g16 (Ei [0,1] Y (Et (u_box Y Y Y (z_q [0,3] Y (Ea Y (Fj Y ?_))))))
 refine Ee Y (Ej Y Y Y (Ee Y (Ej Y Y Y (Ea Y (Fj Y (Ee Y (Ej Y Y Y (Ee Y (Ej Y Y Y (Fa (o_iaL Y Y (by simp) Y (by have:=hf.lb;have:=hf.lm;omega)) ?_))))))))))
 refine u_ldnA Y Y (by simp) (by rw[List.getElem?_map,hm];rfl) Y ?_
 refine Ek (is:=[0,3,8,10,18]) Y (Ev Y Y (c_55 _ hms) ?_)
 refine Ea Y (u_ext Y Y (u_ext Y Y (Fa (o_iaL Y Y (by simp) Y (by have:=hf.lb;have:=hf.lm;omega)) ?_)))
 refine Eo (o_stnA Y Y Y Y Y (by simp) (by rw[List.getElem?_map,hm];rfl) Y Y) ?_
 refine z_q [0,3] Y (Ee Y (Ej Y Y Y (Em [0,3,24] Y (Fh (Et (Fm Y Y (Ea Y (Em [0,3,24,25] Y (Ew Y ?_ ?_)))))))))
 intro h3
 refine Fs (Ea Y (Fj Y (Ee Y (Ej Y Y Y (Ee Y (Ej Y Y Y (Ea Y (Fj Y (Ee Y (Ej Y Y Y (Ee Y ?_)))))))))))
 refine Ej Y Y Y (Fa (o_iaL Y Y (by simp) Y (by have:=hf.lb;have:=hf.lm;omega)) ?_)
 refine u_ldnA Y Y (by simp) (by rw[List.getElem?_map,hbk];rfl) Y ?_
 refine Ek (is:=[0,3,30,32,40]) Y (Ea Y (Fj Y (Ee Y (Ee Y (Ej Y Y Y (Ee Y (Ej Y Y Y (s_iaM Y Y (by have:=hf.lb;have:=hf.lm;omega) ?_))))))))
 intro y5 e5
 have hQ:=hmc.symm.trans e5;cases hQ
 refine u_ldn Y Y (Ev Y Y (cm_24 _ _ hmt) ?_)
 refine Fa (o_iaL Y Y (by simp) Y (by have:=hf.lb;have:=hf.lm;omega)) ?_
 refine Eo (o_stnA Y Y Y Y Y (by simp) (by rw[List.getElem?_map,hbk];rfl) Y Y) ?_
 refine Ez (Fb ?_)
 rotate_left
 intro h3
 refine Et (Fm Y Y (Ea Y (Em [0,3,52] Y (Ew Y ?_ ?_))))
 intro h7
 refine Fs (Ea Y (Ea Y (Fj Y (Ee Y (En Y Y Y (Ea Y (Fj Y (Ee Y (En Y Y Y (Ee Y (Ej Y Y Y (Ev Y Y (c_81 _ _ _ hcl) (Fj Y (Ee Y (Eo (Er Y Y Y Y Y Y Y) (Ez (Fb ?_)))))))))))))))))
 rotate_left
 intro h7
 refine Fr (Fb ?_)
 rotate_left
 all_goals
  refine retB_leaf [] (.inl Y) Y Y Y Y (show(List.range 5++[]).Nodup by decide) ?_
  refine⟨Y,?_⟩
  simp [Bus.revoke,LBus,wbus,List.map_set,mAt_of hm,bAt_of hbk,cAt_of hmc,Mst.r,Bucket.r, *]
theorem conf_pos {c:Conf} (h:c.ok=true):1≤c.masters.length∧c.masters.length≤4:=by
 unfold Conf.ok at h
 simp only[Bool.and_eq_true] at h
 have:=inB_t h.1.1.1.1
 omega
def Mst.wants (m:Mst):Bool:=m.right && decide (m.beat<m.beats)
def Bus.want (b:Bus) (k:Nat):Bool:=(mAt b k).wants && decide (sAt b k=0) && (decide (b.holder=-1) || decide (b.holder=k))
def Bus.wants (b:Bus):List Bool:=(List.range b.ms.length).map b.want
def Bus.hit (b:Bus) (k:Nat):Bool:=b.want k && ((bAt b k).take (cAt b k)).2
def Bus.pick (b:Bus):Bus×Int×Int:=
 if ¬ b.holder=-1∧b.want b.holder.toNat=true then(b,b.holder,3) else
 match (List.range b.ms.length).find? b.hit with
 | some k=>({ b with buckets:=b.buckets.set k ((bAt b k).take (cAt b k)).1 },k,1)
 | none=>if ¬ b.holder=-1 then(b,-1,0) else({ b with arb:=(b.arb.pick b.conf b.wants).1 },(b.arb.pick b.conf b.wants).2,2)
theorem wants_len (b:Bus):b.wants.length=b.ms.length:=by simp [Bus.wants]
theorem wants_at {b:Bus} {k:Nat} (h:k<b.ms.length):b.wants[k]?=some (b.want k):=by simp [Bus.wants,h]
theorem wants_next {b:Bus} {i:Nat} (h:i<b.ms.length):(b.wants.take (i+1)).map bR=(b.wants.take i).map bR++[bR (b.want i)]:=by
 rw[take_get (wants_at h),List.map_append];rfl
theorem find_rg {p:Nat→Bool} {n i:Nat} (h:∀ j,j<i→p j=false) (hi:i<n) (hp:p i=true):(List.range n).find? p=some i:=by
 rw[List.find?_range_eq_some]
 exact⟨hp,by simpa using hi,fun j hj=>by rw[h j hj];rfl⟩
theorem find_no {p:Nat→Bool} {n:Nat} (h:∀ j,j<n→p j=false):(List.range n).find? p=none:=by
 rw[List.find?_eq_none]
 intro j hj
 rw[h j (by simpa using hj)];decide
theorem at_lt {α:Type} (xs:List α) (i:Nat) (hx:0<xs.length):∃ y,i<xs.length→xs[i]?=some y:=by
 by_cases h:i<xs.length
 ·exact⟨xs[i],fun _=>List.getElem?_eq_getElem h⟩
 ·exact⟨xs[0],fun k=>absurd k h⟩
theorem pick_a {b:Bus} (h1:¬ b.holder=-1) (h2:b.want b.holder.toNat=true):b.pick=(b,b.holder,3):=by unfold Bus.pick;rw[if_pos ⟨h1,h2⟩]
theorem pick_b {b:Bus} {i:Nat} (h1:b.holder=-1∨b.want b.holder.toNat=false) (h2:∀ j,j<i→b.hit j=false) (hi:i<b.ms.length) (h3:b.hit i=true):b.pick=(({ b with buckets:=b.buckets.set i ((bAt b i).take (cAt b i)).1 }:Bus),(i:Int),(1:Int)):=by
 unfold Bus.pick
 rw[if_neg (fun k=>h1.elim (fun h=>k.1 h) (fun h=>by rw[h] at k;cases k.2)),find_rg h2 hi h3]
theorem pick_c {b:Bus} (h1:¬ b.holder=-1) (h2:b.want b.holder.toNat=false) (h3:∀ j,j<b.ms.length→b.hit j=false):b.pick=(b,-1,0):=by
 unfold Bus.pick
 rw[if_neg (fun k=>by rw[h2] at k;cases k.2),find_no h3]
 simp only[if_pos h1]
theorem pick_d {b:Bus} (h1:b.holder=-1) (h3:∀ j,j<b.ms.length→b.hit j=false):b.pick=({ b with arb:=(b.arb.pick b.conf b.wants).1 },(b.arb.pick b.conf b.wants).2,2):=by
 unfold Bus.pick
 rw[if_neg (fun k=>k.1 h1),find_no h3]
 show(if ¬ b.holder=-1 then _ else _)=_
 rw[if_neg (fun k=>k h1)]
theorem hitB_next {b:Bus} {i:Nat} (h:∀ j,j<i→b.hit j=false) (h2:b.hit i=false):∀ j,j<i+1→b.hit j=false:=fun j hj=>by
 rcases Nat.lt_or_ge j i with h3|h3
 ·exact h j h3
 ·rw[show j=i by omega];exact h2
theorem cb_15 (b:Bus) (hf:b.fine) (hh:b.holder=-1∨(0≤b.holder∧b.holder<b.ms.length)):GB prg 15 [.cell [.sl 4 (b.conf.masters.map MConf.r),.w (.int .i64 b.conf.quantum),.w (.int .i64 b.conf.maxWait),.w (.int .i64 b.conf.maxRetry),.w (.int .i64 b.conf.maxSplit),.w (.int .i64 b.conf.lockMost),.w (.int .i64 b.now),.ls 1 b.ms.length,.w (.int .i64 b.arb.pos),.w (.int .i64 b.arb.credit),.ls 2 b.buckets.length,.ls 3 b.splits.length,.w (.int .i64 b.holder),.w (.int .i64 b.kept),.w (.int .i64 b.last),.w (.bool b.addr.live),.w (.int .i64 b.addr.who),.w (.int .i64 b.addr.num),.w (.bool b.addr.first),.w (.int .i64 b.addr.via),.w (.int .i64 b.addr.left),.w (.int .i64 b.addr.resp),.w (.bool b.addr.second),.w (.bool b.data.live),.w (.int .i64 b.data.who),.w (.int .i64 b.data.num),.w (.bool b.data.first),.w (.int .i64 b.data.via),.w (.int .i64 b.data.left),.w (.int .i64 b.data.resp),.w (.bool b.data.second),.sl 1 (b.model.ram.map iR),.sl 1 (b.model.dev.regs.map iR),.w (.int .i64 b.model.dev.timer),.sl 1 (b.model.dev.fifo.map iR),.w (.int .i64 b.picks),.ls 4 b.log.length],.arr 6 (b.ms.map Mst.r),.arr 2 (b.buckets.map Bucket.r),.arr 1 (b.splits.map iR),.arr 7 (b.log.map Done.r)] [.cp 0 0] (fun u L1=>u=.tup [.w (.int .i64 b.pick.2.1),.w (.int .i64 b.pick.2.2)]∧L1=LBus b.pick.1):=by
 have hl1:=hf.lm
 have hl2:=hf.lb
 have hl3:=hf.ls
 have hpos:0<b.ms.length:=by have:=conf_pos hf.cok;omega
 have hsm:=hf.small.2.1
 have hwl:=wants_len b
 refine gb_in g15 (Ei [0] Y (Et (Ea Y (Ea Y (z_q [0] Y (Fa (o_bs Y Y Y Y) (Ea Y (Em [0,4] Y (Ey (Et (Ea Y (Fj Y (Ee Y (Ej Y Y Y (u_lenL Y Y (by simp) ?_)))))))))))))))
 refine Ea Y (Em [0,4,17,18,19] Y (Fh (S_loop (ι:=Nat) (fun i=>i≤b.ms.length) (fun i=>[(4,.ls 5 ((b.wants.take i).map bR).length),(19,.w (.int .i64 (i:Int)))]) (fun i=>[.cell [.sl 4 (b.conf.masters.map MConf.r),.w (.int .i64 b.conf.quantum),.w (.int .i64 b.conf.maxWait),.w (.int .i64 b.conf.maxRetry),.w (.int .i64 b.conf.maxSplit),.w (.int .i64 b.conf.lockMost),.w (.int .i64 b.now),.ls 1 b.ms.length,.w (.int .i64 b.arb.pos),.w (.int .i64 b.arb.credit),.ls 2 b.buckets.length,.ls 3 b.splits.length,.w (.int .i64 b.holder),.w (.int .i64 b.kept),.w (.int .i64 b.last),.w (.bool b.addr.live),.w (.int .i64 b.addr.who),.w (.int .i64 b.addr.num),.w (.bool b.addr.first),.w (.int .i64 b.addr.via),.w (.int .i64 b.addr.left),.w (.int .i64 b.addr.resp),.w (.bool b.addr.second),.w (.bool b.data.live),.w (.int .i64 b.data.who),.w (.int .i64 b.data.num),.w (.bool b.data.first),.w (.int .i64 b.data.via),.w (.int .i64 b.data.left),.w (.int .i64 b.data.resp),.w (.bool b.data.second),.sl 1 (b.model.ram.map iR),.sl 1 (b.model.dev.regs.map iR),.w (.int .i64 b.model.dev.timer),.sl 1 (b.model.dev.fifo.map iR),.w (.int .i64 b.picks),.ls 4 b.log.length],.arr 6 (b.ms.map Mst.r),.arr 2 (b.buckets.map Bucket.r),.arr 1 (b.splits.map iR),.arr 7 (b.log.map Done.r),.arr 1 ((b.wants.take i).map bR)]) (fun i=>b.ms.length-i) 6 0 (by simp) Y (hasOf ⟨Y,Y,trivial⟩ Y) Y (fun _ _=>Y) (fun _ _=>⟨Y,Y⟩) ?_)))
 intro i hi
 obtain⟨m,hm⟩:=at_lt b.ms i hpos
 obtain⟨sp,hsp⟩:=at_lt b.splits i (by omega)
 have hmi:i<b.ms.length→mAt b (i:Int)=m:=fun h=>mAt_of (by rw[Int.toNat_natCast];exact hm h)
 have hsi:i<b.ms.length→sAt b (i:Int)=sp:=fun h=>sAt_of (by rw[Int.toNat_natCast];exact hsp (by omega))
 have htl:(b.wants.take i).length=i:=by rw[List.length_take];omega
 have hml:((b.wants.take i).map bR).length=i:=by rw[List.length_map,htl]
 refine Ei [0,4,17,18,19] Y (Et (u_lss Y Y (Em [0,4,17,18,19,20] Y (Ey (Ew Y ?_ ?_)))))
 intro h1
 refine z_s [0,4,17,18,19] Y (Ey (Fh (Et (Ea Y (Fa (o_iaL Y Y (by simp) Y (by omega)) ?_)))))
 refine u_ldnA Y Y (by simp) (by rw[Int.toNat_natCast,List.getElem?_map,hm (by omega)];rfl) Y ?_
 refine Fu Y Y (Ea Y (Eo (Er Y Y Y Y Y Y Y) (Em [0,4,5,6,17,18,19] Y (Fs (Ea Y (En Y Y Y (Ev Y Y (c_59 _ (hf.small.2.2.1 m (List.mem_of_getElem? (hm (by omega))))) (Ea Y (s_gB Y ?_ ?_)))))))))
 intro h3
 refine Ea Y (Ec Y (Fj Y (Ec Y (Ee Y (Ec Y (Ej Y Y Y (Ec Y (Ea Y (Ec Y (Fa (o_iaL Y Y (by simp) Y (by omega)) (Ec Y ?_)))))))))))
 refine u_ldA Y Y (by simp) (by rw[Int.toNat_natCast,List.getElem?_map,hsp (by omega)];rfl) Y ?_
 refine Ec Y (Fm Y Y (Eg Y Y (Ea Y (Ek (is:=[0,5,17,18,19,24,28,29,30,31,32,33,34,35,37]) Y (Ft Y ?_ ?_)))))
 intro h5
 refine Ea Y (Ec Y (Fj Y (Ec Y (Ee Y (Ec Y (Ej Y Y Y (Ec Y (Fm Y Y (Ec Y (Ea Y (s_gDF Y ?_ ?_)))))))))))
 intro h6
 refine Ea Y (Ec Y (Fj Y (Ec Y (Ee Y (Ec Y (Ej Y Y Y (Ec Y (Ea Y (Ec Y (Fm Y Y (Ec Y (Ed Y Y (Eg Y Y (Ek (is:=[0,17,18,19,24,28,29,30,31,32,33,34,35,38,39,40,41,42,43,44,45,46,47,48,49,50,51]) Y (Fa (o_bs Y Y Y Y) ?_)))))))))))))))
 refine Fa (o_appL Y Y (by simp) Y Y Y Y (by simp [roomy];omega)) ?_
 refine Ea Y (Ez (Fb (Eu (Ei [0,4,17,18,19,28,29,30,31,32,33,34,35,38,39,40,41,42,43,44,45,46,47,48,49,50] Y (Fs (Fa (Fn Y Y (by omega)) (Ea Y (Ez (Fp ?_)))))))))
 ·have hv:b.want i=decide (b.holder=(i:Int)):=(by simp_all [Bus.want,Mst.wants]);refine⟨i+1,by omega,by omega,hasOf ⟨?_,rfl,trivial⟩ ?_⟩ <;> rw[wants_next (by omega),hv] <;> rfl
 intro h6
 iterate 6 refine Eb rfl ?_
 refine Ec Y (Eg Y Y (Eg Y Y (Ek (is:=[0,17,18,19,24,28,29,30,31,32,33,34,35,38,39,40,41,42,43,44,45,46,47,48,49,50,51]) Y (Fa (o_bs Y Y Y Y) ?_))))
 refine Fa (o_appL Y Y (by simp) Y Y Y Y (by simp [roomy];omega)) ?_
 refine Ea Y (Ez (Fb (Eu (Ei [0,4,17,18,19,28,29,30,31,32,33,34,35,38,39,40,41,42,43,44,45,46,47,48,49,50] Y (Fs (Fa (Fn Y Y (by omega)) (Ea Y (Ez (Fp ?_)))))))))
 ·have hv:b.want i=true:=(by simp_all [Bus.want,Mst.wants]);refine⟨i+1,by omega,by omega,hasOf ⟨?_,rfl,trivial⟩ ?_⟩ <;> rw[wants_next (by omega),hv] <;> rfl
 intro h5
 iterate 6 refine Eb rfl ?_
 iterate 6 refine Ff rfl ?_
 refine Eb Y (Ed Y Y (Ek (is:=[0,17,18,19,24,28,29,30,31,32,33,34,35,38,39,40,41,42,43,44,45,46,47,48,49,50,51]) Y (Fa (o_bs Y Y Y Y) ?_)))
 refine Fa (o_appL Y Y (by simp) Y Y Y Y (by simp [roomy];omega)) ?_
 refine Ea Y (Ez (Fb (Eu (Ei [0,4,17,18,19,28,29,30,31,32,33,34,35,38,39,40,41,42,43,44,45,46,47,48,49,50] Y (Fs (Fa (Fn Y Y (by omega)) (Ea Y (Ez (Fp ?_)))))))))
 ·have hv:b.want i=false:=(by rw[Bus.want,Mst.wants,hmi (by omega),hsi (by omega)];simp_all;done);refine⟨i+1,by omega,by omega,hasOf ⟨?_,rfl,trivial⟩ ?_⟩ <;> rw[wants_next (by omega),hv] <;> rfl
 intro h3
 iterate 8 refine Eb rfl ?_
 refine Ed Y Y (Ea Y (Ek (is:=[0,5,17,18,19,24,28,29,30,31,32,33,34,35,37]) Y ?_))
 iterate 6 refine Eb rfl ?_
 iterate 6 refine Ff rfl ?_
 refine Eb Y (Ed Y Y (Ek (is:=[0,17,18,19,24,28,29,30,31,32,33,34,35,38,39,40,41,42,43,44,45,46,47,48,49,50,51]) Y (Fa (o_bs Y Y Y Y) ?_)))
 refine Fa (o_appL Y Y (by simp) Y Y Y Y (by simp [roomy];omega)) ?_
 refine Ea Y (Ez (Fb (Eu (Ei [0,4,17,18,19,28,29,30,31,32,33,34,35,38,39,40,41,42,43,44,45,46,47,48,49,50] Y (Fs (Fa (Fn Y Y (by omega)) (Ea Y (Ez (Fp ?_)))))))))
 ·have hv:b.want i=false:=(by rw[Bus.want,Mst.wants,hmi (by omega),hsi (by omega)];rw[show(m.right && decide (m.beat<m.beats))=false by assumption];rfl);refine⟨i+1,by omega,by omega,hasOf ⟨?_,rfl,trivial⟩ ?_⟩ <;> rw[wants_next (by omega),hv] <;> rfl
 intro h1
 refine s_exit (q_seqX (q_loopX (q_blkH (Eu (Ei [0,4] Y (Ey (Et ?_)))))))
 rw[take_end (show b.wants.length≤i by omega)]
 refine Ea Y (Fj Y (Ee Y (Ej Y Y Y (u_neq Y Y (Ea Y (Ft Y ?_ ?_))))))
 intro h7
 refine Ea Y (Ec Y (Ea Y (Ec Y (Fj Y (Ec Y (Ee Y (Ec Y (Ej Y Y Y (Ec Y (Fa (o_iaL Y Y (by simp) Y (by simp;omega)) (Ec Y ?_)))))))))))
 refine u_ldA Y Y (by simp) (by rw[List.getElem?_map,wants_at (by omega)];rfl) Y ?_
 refine Eg Y Y (Em [0,4,68] Y (s_condB Y ?_ ?_))
 intro h9
 refine Et (Ea Y (Fj Y (Ee Y (Ej Y Y Y (Ea Y (Ea Y (Em [2,3] Y (Eh (Ep ?_)))))))))
 rotate_left
 intro h9
 refine z_s [0,4] Y (Ey (Et (Ea Y (u_lenL Y Y (by simp) (Ea Y (Em [0,4,73,74,75] Y ?_))))))
 refine Fh (S_loop (ι:=Nat) (fun i=>i≤b.ms.length∧∀ j,j<i→b.hit j=false) (fun i=>[(75,.w (.int .i64 (i:Int)))]) (fun i=>[.cell [.sl 4 (b.conf.masters.map MConf.r),.w (.int .i64 b.conf.quantum),.w (.int .i64 b.conf.maxWait),.w (.int .i64 b.conf.maxRetry),.w (.int .i64 b.conf.maxSplit),.w (.int .i64 b.conf.lockMost),.w (.int .i64 b.now),.ls 1 b.ms.length,.w (.int .i64 b.arb.pos),.w (.int .i64 b.arb.credit),.ls 2 b.buckets.length,.ls 3 b.splits.length,.w (.int .i64 b.holder),.w (.int .i64 b.kept),.w (.int .i64 b.last),.w (.bool b.addr.live),.w (.int .i64 b.addr.who),.w (.int .i64 b.addr.num),.w (.bool b.addr.first),.w (.int .i64 b.addr.via),.w (.int .i64 b.addr.left),.w (.int .i64 b.addr.resp),.w (.bool b.addr.second),.w (.bool b.data.live),.w (.int .i64 b.data.who),.w (.int .i64 b.data.num),.w (.bool b.data.first),.w (.int .i64 b.data.via),.w (.int .i64 b.data.left),.w (.int .i64 b.data.resp),.w (.bool b.data.second),.sl 1 (b.model.ram.map iR),.sl 1 (b.model.dev.regs.map iR),.w (.int .i64 b.model.dev.timer),.sl 1 (b.model.dev.fifo.map iR),.w (.int .i64 b.picks),.ls 4 b.log.length],.arr 6 (b.ms.map Mst.r),.arr 2 (b.buckets.map Bucket.r),.arr 1 (b.splits.map iR),.arr 7 (b.log.map Done.r),.arr 1 (b.wants.map bR)]) (fun i=>b.ms.length-i) 6 0 ⟨Nat.zero_le _,fun j hj=>absurd hj (by omega)⟩ Y (hasOf ⟨Y,trivial⟩ Y) Y (fun _ _=>Y) (fun _ _=>⟨Y,Y⟩) ?_)
 intro i hi
 have hml2:(b.wants.map bR).length=b.ms.length:=by rw[List.length_map,hwl]
 have hi1:=hi.1
 obtain⟨bk,hbk⟩:=at_lt b.buckets i (by omega)
 obtain⟨mc,hmc⟩:=at_lt b.conf.masters i (by omega)
 have hbi:i<b.ms.length→bAt b (i:Int)=bk:=fun h=>bAt_of (by rw[Int.toNat_natCast];exact hbk (by omega))
 have hci:i<b.ms.length→cAt b (i:Int)=mc:=fun h=>cAt_of (by rw[Int.toNat_natCast];exact hmc (by omega))
 refine Ei [0,4,73,74,75] Y (Et (u_lss Y Y (Em [0,4,73,74,75,76] Y (Ey (Ew Y ?_ ?_)))))
 intro h10
 refine z_s [0,4,73,74,75] Y (Ey (Fh (Et (Ea Y (Fa (o_iaL Y Y (by simp) Y (by omega)) ?_)))))
 refine u_ldA Y Y (by simp) (by rw[Int.toNat_natCast,List.getElem?_map,wants_at (by omega)];rfl) Y ?_
 refine Ea Y (Ea Y (Em [0,4,7,8,73,74,75] Y (Ey (Et (Ea Y (Fk Y (Em [0,4,7,73,74,75,81] Y (s_condNB Y ?_ ?_))))))))
 intro h12
 refine s_exit (q_seqX (q_blkH (Eu (Ei [0,4,73,74,75] Y (Fs (Fa (Fn Y Y (by omega)) (Ea Y (Ez (Fp ?_)))))))))
 ·exact⟨i+1,⟨by omega,hitB_next hi.2 (by simp_all [Bus.hit])⟩,by omega,hasOf ⟨rfl,trivial⟩ rfl⟩
 intro h12
 refine z_s [0,4,7,73,74,75] Y (Et (Ea Y (Fj Y (Ee Y (Ej Y Y Y (Ea Y (Fa (o_iaL Y Y (by simp) Y (by omega)) ?_)))))))
 refine u_ldnA Y Y (by simp) (by rw[Int.toNat_natCast,List.getElem?_map,hbk (by omega)];rfl) Y ?_
 refine Ea Y (Fj Y (Ee Y (Ee Y (Ej Y Y Y (Ea Y (s_iaM Y Y (by omega) ?_))))))
 intro y14 e14
 simp only[Int.toNat_natCast] at e14
 have hQ:=(hmc (by omega)).symm.trans e14;cases hQ
 refine Ek (is:=[0,4,7,73,74,75,89,96]) Y (u_ldn Y Y (Ev Y Y (cm_27 _ _ (hf.tiny mc (List.mem_of_getElem? (hmc (by omega))))) (Ea Y (u_ext Y Y (u_ext Y Y (Fu Y Y (Eo (Er Y Y Y Y Y Y Y) (Ea Y (z_q [0,4,7,9,10,73,74,75] Y (Ea Y (Em [0,4,7,9,73,74,75,101] Y (s_condB Y ?_ ?_))))))))))))
 intro h15
 refine Et (Ea Y (Fj Y (Ee Y (Ej Y Y Y (Ea Y (En Y Y Y (Fa (o_iaL Y Y (by simp) Y (by omega)) ?_)))))))
 refine Eo (o_stnA Y Y Y Y Y (by simp) (by rw[Int.toNat_natCast,List.getElem?_map,hbk (by omega)];rfl) Y Y) ?_
 refine z_q [7] Y (Ea Y (Ea Y (Ea Y (Em [2,3] Y (Eh (Fc (Ep (q_loopR (Fc (Ep ?_))))))))))
 rotate_left
 intro h15
 refine Fr (Fb (Eu (Ei [0,4,73,74,75] Y (Fs (Fa (Fn Y Y (by omega)) (Ea Y (Ez (Fp ?_))))))))
 ·exact⟨i+1,⟨by omega,hitB_next hi.2 (by simp_all [Bus.hit])⟩,by omega,hasOf ⟨rfl,trivial⟩ rfl⟩
 intro h10
 refine s_exit (q_seqX (q_loopX (q_blkH (Eu (Ei [0,4] Y (Ey (Et (Ea Y (Fj Y (Ee Y (Ej Y Y Y (u_neq Y Y (Em [0,4,115] Y (Ew Y ?_ ?_))))))))))))))
 intro h17
 refine Et (Ea Y (Ea Y (Em [2,3] Y (Eh (Ep ?_)))))
 rotate_left
 intro h17
 rw[nnp] at h17
 refine z_s [0,4] Y (Et (Ea Y (Fj Y (Ee Y (En Y Y Y (Ea Y (Fj Y (Ee Y (En Y Y Y (Ea Y (s_callL Y Y (by simp) (c_83 _ _ _ hf.small.1) Y (Ea Y (u_ext Y Y (u_ext Y Y (Fu Y Y (Ek (is:=[0,11,127,128]) Y (Eo (Er Y Y Y Y Y Y Y) (Ea Y (Ez (Eu (Ei [0,11,12] Y (Et (Ea Y (En Y Y Y (Fj Y (Ee Y (Eo (Er Y Y Y Y Y Y Y) (z_q [12] Y (Ea Y (Ea Y (Ea Y (Em [2,3] Y (Eh ?_)))))))))))))))))))))))))))))))))
 rotate_left
 intro h7
 rw[nnp] at h7
 iterate 7 refine Eb rfl ?_
 refine Ed Y Y (Em [0,4,68] Y (Fi Y (z_s [0,4] Y (Ey (Et (Ea Y ?_))))))
 refine u_lenL Y Y (by simp) (Ea Y (Em [0,4,73,74,75] Y (Fh (S_loop (ι:=Nat) (fun i=>i≤b.ms.length∧∀ j,j<i→b.hit j=false) (fun i=>[(75,.w (.int .i64 (i:Int)))]) (fun i=>[.cell [.sl 4 (b.conf.masters.map MConf.r),.w (.int .i64 b.conf.quantum),.w (.int .i64 b.conf.maxWait),.w (.int .i64 b.conf.maxRetry),.w (.int .i64 b.conf.maxSplit),.w (.int .i64 b.conf.lockMost),.w (.int .i64 b.now),.ls 1 b.ms.length,.w (.int .i64 b.arb.pos),.w (.int .i64 b.arb.credit),.ls 2 b.buckets.length,.ls 3 b.splits.length,.w (.int .i64 b.holder),.w (.int .i64 b.kept),.w (.int .i64 b.last),.w (.bool b.addr.live),.w (.int .i64 b.addr.who),.w (.int .i64 b.addr.num),.w (.bool b.addr.first),.w (.int .i64 b.addr.via),.w (.int .i64 b.addr.left),.w (.int .i64 b.addr.resp),.w (.bool b.addr.second),.w (.bool b.data.live),.w (.int .i64 b.data.who),.w (.int .i64 b.data.num),.w (.bool b.data.first),.w (.int .i64 b.data.via),.w (.int .i64 b.data.left),.w (.int .i64 b.data.resp),.w (.bool b.data.second),.sl 1 (b.model.ram.map iR),.sl 1 (b.model.dev.regs.map iR),.w (.int .i64 b.model.dev.timer),.sl 1 (b.model.dev.fifo.map iR),.w (.int .i64 b.picks),.ls 4 b.log.length],.arr 6 (b.ms.map Mst.r),.arr 2 (b.buckets.map Bucket.r),.arr 1 (b.splits.map iR),.arr 7 (b.log.map Done.r),.arr 1 (b.wants.map bR)]) (fun i=>b.ms.length-i) 6 0 ⟨Nat.zero_le _,fun j hj=>absurd hj (by omega)⟩ Y (hasOf ⟨Y,trivial⟩ Y) Y (fun _ _=>Y) (fun _ _=>⟨Y,Y⟩) ?_))))
 intro i hi
 have hml2:(b.wants.map bR).length=b.ms.length:=by rw[List.length_map,hwl]
 have hi1:=hi.1
 obtain⟨bk,hbk⟩:=at_lt b.buckets i (by omega)
 obtain⟨mc,hmc⟩:=at_lt b.conf.masters i (by omega)
 have hbi:i<b.ms.length→bAt b (i:Int)=bk:=fun h=>bAt_of (by rw[Int.toNat_natCast];exact hbk (by omega))
 have hci:i<b.ms.length→cAt b (i:Int)=mc:=fun h=>cAt_of (by rw[Int.toNat_natCast];exact hmc (by omega))
 refine Ei [0,4,73,74,75] Y (Et (u_lss Y Y (Em [0,4,73,74,75,76] Y (Ey (Ew Y ?_ ?_)))))
 intro h18
 refine z_s [0,4,73,74,75] Y (Ey (Fh (Et (Ea Y (Fa (o_iaL Y Y (by simp) Y (by omega)) ?_)))))
 refine u_ldA Y Y (by simp) (by rw[Int.toNat_natCast,List.getElem?_map,wants_at (by omega)];rfl) Y ?_
 refine Ea Y (Ea Y (Em [0,4,7,8,73,74,75] Y (Ey (Et (Ea Y (Fk Y (Em [0,4,7,73,74,75,81] Y (s_condNB Y ?_ ?_))))))))
 intro h20
 refine s_exit (q_seqX (q_blkH (Eu (Ei [0,4,73,74,75] Y (Fs (Fa (Fn Y Y (by omega)) (Ea Y (Ez (Fp ?_)))))))))
 ·exact⟨i+1,⟨by omega,hitB_next hi.2 (by simp_all [Bus.hit])⟩,by omega,hasOf ⟨rfl,trivial⟩ rfl⟩
 intro h20
 refine z_s [0,4,7,73,74,75] Y (Et (Ea Y (Fj Y (Ee Y (Ej Y Y Y (Ea Y (Fa (o_iaL Y Y (by simp) Y (by omega)) ?_)))))))
 refine u_ldnA Y Y (by simp) (by rw[Int.toNat_natCast,List.getElem?_map,hbk (by omega)];rfl) Y ?_
 refine Ea Y (Fj Y (Ee Y (Ee Y (Ej Y Y Y (Ea Y (s_iaM Y Y (by omega) ?_))))))
 intro y22 e22
 simp only[Int.toNat_natCast] at e22
 have hQ:=(hmc (by omega)).symm.trans e22;cases hQ
 refine Ek (is:=[0,4,7,73,74,75,89,96]) Y (u_ldn Y Y (Ev Y Y (cm_27 _ _ (hf.tiny mc (List.mem_of_getElem? (hmc (by omega))))) (Ea Y (u_ext Y Y (u_ext Y Y (Fu Y Y (Eo (Er Y Y Y Y Y Y Y) (Ea Y (z_q [0,4,7,9,10,73,74,75] Y (Ea Y (Em [0,4,7,9,73,74,75,101] Y (s_condB Y ?_ ?_))))))))))))
 intro h23
 refine Et (Ea Y (Fj Y (Ee Y (Ej Y Y Y (Ea Y (En Y Y Y (Fa (o_iaL Y Y (by simp) Y (by omega)) ?_)))))))
 refine Eo (o_stnA Y Y Y Y Y (by simp) (by rw[Int.toNat_natCast,List.getElem?_map,hbk (by omega)];rfl) Y Y) ?_
 refine z_q [7] Y (Ea Y (Ea Y (Ea Y (Em [2,3] Y (Eh (Fc (Ep (q_loopR (Fc (Ep ?_))))))))))
 rotate_left
 intro h23
 refine Fr (Fb (Eu (Ei [0,4,73,74,75] Y (Fs (Fa (Fn Y Y (by omega)) (Ea Y (Ez (Fp ?_))))))))
 ·exact⟨i+1,⟨by omega,hitB_next hi.2 (by simp_all [Bus.hit])⟩,by omega,hasOf ⟨rfl,trivial⟩ rfl⟩
 intro h18
 refine s_exit (q_seqX (q_loopX (q_blkH (Eu (Ei [0,4] Y (Ey (Et (Ea Y (Fj Y (Ee Y (Ej Y Y Y (u_neq Y Y (Em [0,4,115] Y (Ew Y ?_ ?_))))))))))))))
 intro h25
 refine Et (Ea Y (Ea Y (Em [2,3] Y (Eh (Ep ?_)))))
 rotate_left
 intro h25
 rw[nnp] at h25
 refine z_s [0,4] Y (Et (Ea Y (Fj Y (Ee Y (En Y Y Y (Ea Y (Fj Y (Ee Y (En Y Y Y (Ea Y (s_callL Y Y (by simp) (c_83 _ _ _ hf.small.1) Y (Ea Y (u_ext Y Y (u_ext Y Y (Fu Y Y (Ek (is:=[0,11,127,128]) Y (Eo (Er Y Y Y Y Y Y Y) (Ea Y (Ez (Eu (Ei [0,11,12] Y (Et (Ea Y (En Y Y Y (Fj Y (Ee Y (Eo (Er Y Y Y Y Y Y Y) (z_q [12] Y (Ea Y (Ea Y (Ea Y (Em [2,3] Y (Eh ?_)))))))))))))))))))))))))))))))))
 rotate_left
 all_goals
  refine retB_leaf [] (.inr Y) Y Y Y Y (show(List.range 5++[]).Nodup by decide) ?_
  first|(exfalso;omega)|(rw[pick_a (by assumption) (by assumption)];exact⟨Y,Y⟩)|(rw[pick_c (by assumption) (by assumption) (fun j hj=>hi.2 j (by omega))];exact⟨Y,Y⟩)|(rw[pick_d (by assumption) (fun j hj=>hi.2 j (by omega))];exact⟨Y,Y⟩)|(rw[pick_b (by first|exact .inl (by assumption)|exact .inr (by assumption)) hi.2 (show i<b.ms.length by omega) (by rw[Bus.hit,hbi (by omega),hci (by omega)];simp [*])];refine⟨Y,?_⟩;simp [LBus,wbus,List.map_set,hbi (show i<b.ms.length by omega),hci (show i<b.ms.length by omega),Bucket.r];done)
theorem tmod_rg {a n:Int} (h0:0≤a) (hn:0<n):0≤a.tmod n∧a.tmod n<n:=by
 rw[Int.tmod_eq_emod_of_nonneg h0]
 exact⟨Int.emod_nonneg _ (by omega),Int.emod_lt_of_pos _ hn⟩
theorem wpick_bd {w:Wrr} {c:Conf} {req:List Bool} (h:c.ok=true):(w.pick c req).2=-1∨(0≤(w.pick c req).2∧(w.pick c req).2<c.masters.length):=by
 have hc:=conf_pos h
 unfold Wrr.pick
 split
 ·rename_i hk
  simp only[Bool.and_eq_true,decide_eq_true_eq] at hk
  have hw:=hk.1
  unfold Wrr.ok at hw
  simp only[Bool.and_eq_true] at hw
  have hp:=inB_t hw.1.2
  split
  ·exact .inr ⟨by simp only;omega,by simp only;omega⟩
  ·split
   ·refine .inr ?_
    simp only
    rw[hk.2]
    exact tmod_rg (by omega) (by omega)
   ·exact .inl Y
 ·exact .inl Y
theorem pick_facts {b b1:Bus} {who via:Int} (hf:b.fine) (hh:b.holder=-1∨(0≤b.holder∧b.holder<b.ms.length)) (h:b.pick=(b1,who,via)):b1.fine∧b1.ms=b.ms∧b1.conf=b.conf∧b1.splits=b.splits∧b1.holder=b.holder∧(who<0∨(0≤who∧who<b1.ms.length)):=by
 have hl:=hf.lm
 have hq:=wpick_bd (w:=b.arb) (req:=b.wants) hf.cok
 unfold Bus.pick at h
 split at h
 ·rename_i hc
  cases h
  exact⟨hf,Y,Y,Y,Y,hh.elim (fun e=>absurd e hc.1) .inr⟩
 ·split at h
  ·rename_i k hk
   rw[List.find?_range_eq_some] at hk
   have hk2:=List.mem_range.1 hk.2.1
   cases h
   refine⟨⟨⟨hf.small.1,hf.small.2.1,hf.small.2.2.1,by rw[List.length_set];exact hf.small.2.2.2.1,hf.small.2.2.2.2⟩,hf.cok,hf.tiny,hf.lm,by rw[List.length_set];exact hf.lb,hf.ls⟩,Y,Y,Y,Y,.inr ⟨by omega,by simp only;omega⟩⟩
  ·split at h
   ·cases h;exact⟨hf,Y,Y,Y,Y,.inl (by decide)⟩
   ·cases h
    refine⟨⟨⟨hf.small.1,hf.small.2.1,hf.small.2.2.1,hf.small.2.2.2.1,hf.small.2.2.2.2⟩,hf.cok,hf.tiny,hf.lm,hf.lb,hf.ls⟩,Y,Y,Y,Y,?_⟩
    rcases hq with hq|hq
    ·exact .inl (by omega)
    ·exact .inr ⟨hq.1,by simp only;omega⟩
def Bus.grantTo (b:Bus) (who via:Int):Bus:=
 { b with addr:=⟨true,who,(mAt b who).beat,decide ((mAt b who).beat=0∨¬ b.last=who),via,0,0,false⟩,
          holder:=if(mAt b who).locks=true∧b.holder=-1 then who else b.holder,kept:=if(mAt b who).locks=true∧b.holder=-1 then 0 else b.kept,
          ms:=b.ms.set who.toNat (mAt b who).issue.1,last:=who }
def Bus.grant (b:Bus):Bus×Int:=if b.pick.2.1<0 then(b.pick.1,-1) else(b.pick.1.grantTo b.pick.2.1 b.pick.2.2,b.pick.2.1)
theorem grant_no {b b1:Bus} {who via:Int} (hp:b.pick=(b1,who,via)) (h:who<0):b.grant=(b1,-1):=by unfold Bus.grant;rw[hp];exact if_pos h
theorem grant_yes {b b1:Bus} {who via:Int} (hp:b.pick=(b1,who,via)) (h:¬ who<0):b.grant=(b1.grantTo who via,who):=by unfold Bus.grant;rw[hp];exact if_neg h
theorem cb_15y {b b1:Bus} {who via:Int} (hf:b.fine) (hh:b.holder=-1∨(0≤b.holder∧b.holder<b.ms.length)) (h:b.pick=(b1,who,via)):GB prg 15 [.cell [.sl 4 (b.conf.masters.map MConf.r),.w (.int .i64 b.conf.quantum),.w (.int .i64 b.conf.maxWait),.w (.int .i64 b.conf.maxRetry),.w (.int .i64 b.conf.maxSplit),.w (.int .i64 b.conf.lockMost),.w (.int .i64 b.now),.ls 1 b.ms.length,.w (.int .i64 b.arb.pos),.w (.int .i64 b.arb.credit),.ls 2 b.buckets.length,.ls 3 b.splits.length,.w (.int .i64 b.holder),.w (.int .i64 b.kept),.w (.int .i64 b.last),.w (.bool b.addr.live),.w (.int .i64 b.addr.who),.w (.int .i64 b.addr.num),.w (.bool b.addr.first),.w (.int .i64 b.addr.via),.w (.int .i64 b.addr.left),.w (.int .i64 b.addr.resp),.w (.bool b.addr.second),.w (.bool b.data.live),.w (.int .i64 b.data.who),.w (.int .i64 b.data.num),.w (.bool b.data.first),.w (.int .i64 b.data.via),.w (.int .i64 b.data.left),.w (.int .i64 b.data.resp),.w (.bool b.data.second),.sl 1 (b.model.ram.map iR),.sl 1 (b.model.dev.regs.map iR),.w (.int .i64 b.model.dev.timer),.sl 1 (b.model.dev.fifo.map iR),.w (.int .i64 b.picks),.ls 4 b.log.length],.arr 6 (b.ms.map Mst.r),.arr 2 (b.buckets.map Bucket.r),.arr 1 (b.splits.map iR),.arr 7 (b.log.map Done.r)] [.cp 0 0] (fun u L1=>u=.tup [.w (.int .i64 who),.w (.int .i64 via)]∧L1=LBus b1):=by have:=cb_15 b hf hh;rwa [h] at this
theorem cb_8 (b:Bus) (hf:b.fine) (hh:b.holder=-1∨(0≤b.holder∧b.holder<b.ms.length)):GB prg 8 [.cell [.sl 4 (b.conf.masters.map MConf.r),.w (.int .i64 b.conf.quantum),.w (.int .i64 b.conf.maxWait),.w (.int .i64 b.conf.maxRetry),.w (.int .i64 b.conf.maxSplit),.w (.int .i64 b.conf.lockMost),.w (.int .i64 b.now),.ls 1 b.ms.length,.w (.int .i64 b.arb.pos),.w (.int .i64 b.arb.credit),.ls 2 b.buckets.length,.ls 3 b.splits.length,.w (.int .i64 b.holder),.w (.int .i64 b.kept),.w (.int .i64 b.last),.w (.bool b.addr.live),.w (.int .i64 b.addr.who),.w (.int .i64 b.addr.num),.w (.bool b.addr.first),.w (.int .i64 b.addr.via),.w (.int .i64 b.addr.left),.w (.int .i64 b.addr.resp),.w (.bool b.addr.second),.w (.bool b.data.live),.w (.int .i64 b.data.who),.w (.int .i64 b.data.num),.w (.bool b.data.first),.w (.int .i64 b.data.via),.w (.int .i64 b.data.left),.w (.int .i64 b.data.resp),.w (.bool b.data.second),.sl 1 (b.model.ram.map iR),.sl 1 (b.model.dev.regs.map iR),.w (.int .i64 b.model.dev.timer),.sl 1 (b.model.dev.fifo.map iR),.w (.int .i64 b.picks),.ls 4 b.log.length],.arr 6 (b.ms.map Mst.r),.arr 2 (b.buckets.map Bucket.r),.arr 1 (b.splits.map iR),.arr 7 (b.log.map Done.r)] [.cp 0 0] (fun u L1=>u=.w (.int .i64 b.grant.2)∧L1=LBus b.grant.1):=by
 obtain⟨b1,who,via,hp⟩:∃ b1 w v,b.pick=(b1,w,v):=⟨_,_,_,rfl⟩
 obtain⟨hf1,hms,hcf,hsp,hho,hwr⟩:=pick_facts hf hh hp
 refine gb_in g8 (Ei [0] Y (Et (Ea Y (z_q [0] Y (Ea Y (s_callB [0,1,2,3,4] Y Y Y Y (by decide) (cb_15y hf hh hp) ?_))))))
 rintro u L1 ⟨rfl,rfl⟩
 refine⟨_,_,_,Y,Y,Y,?_⟩
 refine Ea Y (u_ext Y Y (u_ext Y Y (Ea Y (Ea Y (Em [0,3,4] Y (Ey (Et (Ea Y (u_lss Y Y (Em [0,3,4,12] Y (Ew Y ?_ ?_)))))))))))
 intro h1
 refine Et (Ea Y (Em [2] Y (Eh (Ep ?_))))
 rotate_left
 intro h1
 have hw0:¬ who<0:=h1;obtain⟨m,hm⟩:∃ y,b1.ms[who.toNat]?=some y:=at_of (by omega) (by omega);have hmsm:=hf1.small.2.2.1 m (List.mem_of_getElem? hm)
 refine z_s [0,3,4] Y (Et (Ea Y (Fj Y (Ee Y (Ej Y Y Y (Ea Y (Fa (o_iaL Y Y (by simp) Y (by omega)) ?_)))))))
 refine u_ldnA Y Y (by simp) (by rw[List.getElem?_map,hm];rfl) Y ?_
 refine Fu Y Y (Eo (Er Y Y Y Y Y Y Y) (z_q [0,3,4,5] Y (Ea Y (Ea Y (Ee Y (Ej Y Y Y (Ee Y (Ej Y Y Y (Fm Y Y (Ea Y (s_gDF Y ?_ ?_)))))))))))
 intro h3
 refine Ea Y (Ec Y (Fj Y (Ec Y (Ee Y (Ec Y (Ej Y Y Y (Ec Y (Ea Y (Ec Y (u_neq Y Y (Ek (is:=[0,3,4,5,20,21,23,27,33]) Y (Ed Y Y (Ea Y (u_bd Y Y (Fj Y (Ee Y (Eo (Er Y Y Y Y Y Y Y) (Em [0,3,5] Y (Ey (Et (En Y Y Y (Ev Y Y (c_93 _) (Ea Y (s_gB Y ?_ ?_))))))))))))))))))))))))
 intro h4
 refine Ea Y (Ec Y (Fj Y (Ec Y (Ee Y (Ec Y (Ej Y Y Y (Ec Y (Fm Y Y (Eg Y Y (Em [0,3,5,47] Y (Ew Y ?_ ?_)))))))))))
 intro h5
 refine Et (Ea Y (Ea Y (Fj Y (Ee Y (Eo (o_stC Y Y Y Y Y Y) (Em [0,3,5] Y (Fs (Ea Y (Fj Y (Ee Y (Eo (o_stC Y Y Y Y Y Y) (z_q [0,3,5] Y (Ea Y (Fj Y (Ee Y (Ej Y Y Y (Ea Y (En Y Y Y (Ev Y Y (c_57 _ hmsm) (Ea Y (u_ext Y Y (u_ext Y Y (Fa (o_iaL Y Y (by simp) Y (by omega)) ?_)))))))))))))))))))))))
 refine Eo (o_stnA Y Y Y Y Y (by simp) (by rw[List.getElem?_map,hm];rfl) Y Y) ?_
 refine z_q [0,3] Y (Ea Y (Ea Y (Fj Y (Ee Y (Eo (o_stC Y Y Y Y Y Y) (z_q [3] Y (Ea Y (Ea Y (Em [2] Y (Eh ?_))))))))))
 rotate_left
 intro h5
 refine z_s [0,3,5] Y (Et (Ea Y (Fj Y (Ee Y (Ej Y Y Y (Ea Y (En Y Y Y (Ev Y Y (c_57 _ hmsm) (Ea Y (u_ext Y Y (u_ext Y Y (Fa (o_iaL Y Y (by simp) Y (by omega)) ?_))))))))))))
 refine Eo (o_stnA Y Y Y Y Y (by simp) (by rw[List.getElem?_map,hm];rfl) Y Y) ?_
 refine z_q [0,3] Y (Ea Y (Ea Y (Fj Y (Ee Y (Eo (o_stC Y Y Y Y Y Y) (z_q [3] Y (Ea Y (Ea Y (Em [2] Y (Eh ?_))))))))))
 rotate_left
 intro h4
 refine Eb Y (Eb Y (Eb Y (Eb Y (Eb Y (Ed Y Y (Em [0,3,5,47] Y (Fi Y (z_s [0,3,5] Y (Et (Ea Y (Fj Y (Ee Y (Ej Y Y Y (Ea Y (En Y Y Y (Ev Y Y (c_57 _ hmsm) (Ea Y (u_ext Y Y (u_ext Y Y (Fa (o_iaL Y Y (by simp) Y (by omega)) ?_))))))))))))))))))))
 refine Eo (o_stnA Y Y Y Y Y (by simp) (by rw[List.getElem?_map,hm];rfl) Y Y) ?_
 refine z_q [0,3] Y (Ea Y (Ea Y (Fj Y (Ee Y (Eo (o_stC Y Y Y Y Y Y) (z_q [3] Y (Ea Y (Ea Y (Em [2] Y (Eh ?_))))))))))
 rotate_left
 intro h3
 iterate 6 refine Eb rfl ?_
 refine Ek (is:=[0,3,4,5,20,21,23,27,33]) Y (Eg Y Y (Ea Y (u_bd Y Y (Fj Y (Ee Y (Eo (Er Y Y Y Y Y Y Y) (Em [0,3,5] Y (Ey (Et (En Y Y Y (Ev Y Y (c_93 _) (Ea Y (s_gB Y ?_ ?_)))))))))))))
 intro h9
 refine Ea Y (Ec Y (Fj Y (Ec Y (Ee Y (Ec Y (Ej Y Y Y (Ec Y (Fm Y Y (Eg Y Y (Em [0,3,5,47] Y (Ew Y ?_ ?_)))))))))))
 intro h10
 refine Et (Ea Y (Ea Y (Fj Y (Ee Y (Eo (o_stC Y Y Y Y Y Y) (Em [0,3,5] Y (Fs (Ea Y (Fj Y (Ee Y (Eo (o_stC Y Y Y Y Y Y) (z_q [0,3,5] Y (Ea Y (Fj Y (Ee Y (Ej Y Y Y (Ea Y (En Y Y Y (Ev Y Y (c_57 _ hmsm) (Ea Y (u_ext Y Y (u_ext Y Y (Fa (o_iaL Y Y (by simp) Y (by omega)) ?_)))))))))))))))))))))))
 refine Eo (o_stnA Y Y Y Y Y (by simp) (by rw[List.getElem?_map,hm];rfl) Y Y) ?_
 refine z_q [0,3] Y (Ea Y (Ea Y (Fj Y (Ee Y (Eo (o_stC Y Y Y Y Y Y) (z_q [3] Y (Ea Y (Ea Y (Em [2] Y (Eh ?_))))))))))
 rotate_left
 intro h10
 refine z_s [0,3,5] Y (Et (Ea Y (Fj Y (Ee Y (Ej Y Y Y (Ea Y (En Y Y Y (Ev Y Y (c_57 _ hmsm) (Ea Y (u_ext Y Y (u_ext Y Y (Fa (o_iaL Y Y (by simp) Y (by omega)) ?_))))))))))))
 refine Eo (o_stnA Y Y Y Y Y (by simp) (by rw[List.getElem?_map,hm];rfl) Y Y) ?_
 refine z_q [0,3] Y (Ea Y (Ea Y (Fj Y (Ee Y (Eo (o_stC Y Y Y Y Y Y) (z_q [3] Y (Ea Y (Ea Y (Em [2] Y (Eh ?_))))))))))
 rotate_left
 intro h9
 refine Eb Y (Eb Y (Eb Y (Eb Y (Eb Y (Ed Y Y (Em [0,3,5,47] Y (Fi Y (z_s [0,3,5] Y (Et (Ea Y (Fj Y (Ee Y (Ej Y Y Y (Ea Y (En Y Y Y (Ev Y Y (c_57 _ hmsm) (Ea Y (u_ext Y Y (u_ext Y Y (Fa (o_iaL Y Y (by simp) Y (by omega)) ?_))))))))))))))))))))
 refine Eo (o_stnA Y Y Y Y Y (by simp) (by rw[List.getElem?_map,hm];rfl) Y Y) ?_
 refine z_q [0,3] Y (Ea Y (Ea Y (Fj Y (Ee Y (Eo (o_stC Y Y Y Y Y Y) (z_q [3] Y (Ea Y (Ea Y (Em [2] Y (Eh ?_))))))))))
 rotate_left
 all_goals
  refine retB_leaf [] (.inr Y) Y Y Y Y (show(List.range 5++[]).Nodup by decide) ?_
  first|(rw[grant_no hp (by assumption)];exact⟨Y,Y⟩)|(rw[grant_yes hp (by assumption)];refine⟨Y,?_⟩;clear hho hms hcf hsp hf hh hp hf1 hwr;simp [Bus.grantTo,mAt_of hm,LBus,wbus,List.map_set,Mst.r, *];done)
theorem log_snoc {l:List Done} {c w:Int} {wr:Bool} {a z v r:Int} {y:List V}:l.map Done.r++([.w (.int .i64 c),.w (.int .i64 w),.w (.bool wr),.w (.int .i64 a),.w (.int .i64 z),.w (.int .i64 v),.w (.int .i64 r)]::List.replicate 0 y)=(l++[(⟨c,w,wr,a,z,v,r⟩:Done)]).map Done.r:=by
 rw[List.map_append];rfl
theorem mrow {xs:List Mst} {k:Nat} {m:Mst} (h:xs[k]?=some m):(xs.map Mst.r)[k]?=some m.r:=by rw[List.getElem?_map,h];rfl
def Bus.endsLock (b:Bus) (x:Beat):Prop:=b.holder=x.who∧(mAt b x.who).fin.1.queue.length<(mAt b x.who).queue.length
instance (b : Bus) (x : Beat) : Decidable (b.endsLock x):=inferInstanceAs (Decidable (_∧_))
def Bus.complete (b:Bus) (x:Beat):Bus:=
 { b with model:=if x.resp=0 then(b.did x).1 else b.model,
          log:=b.log++[⟨b.now,x.who,(reqAt (mAt b x.who)).write,(mAt b x.who).addrAt x.num,(reqAt (mAt b x.who)).size,if x.resp=0 then(b.did x).2.1 else 0,x.resp⟩],
          holder:=if b.endsLock x then -1 else b.holder,kept:=if b.endsLock x then 0 else b.kept,
          ms:=b.ms.set x.who.toNat (mAt b x.who).fin.1 }
theorem cb_4 (b:Bus) (x:Beat) (r:Req) (hf:b.fine) (hw:0≤x.who∧x.who<b.ms.length) (h0:(mAt b x.who).queue[0]?=some r) (hk:r.write=true→0≤x.num∧x.num<r.data.length):GB prg 4 [.cell [.sl 4 (b.conf.masters.map MConf.r),.w (.int .i64 b.conf.quantum),.w (.int .i64 b.conf.maxWait),.w (.int .i64 b.conf.maxRetry),.w (.int .i64 b.conf.maxSplit),.w (.int .i64 b.conf.lockMost),.w (.int .i64 b.now),.ls 1 b.ms.length,.w (.int .i64 b.arb.pos),.w (.int .i64 b.arb.credit),.ls 2 b.buckets.length,.ls 3 b.splits.length,.w (.int .i64 b.holder),.w (.int .i64 b.kept),.w (.int .i64 b.last),.w (.bool b.addr.live),.w (.int .i64 b.addr.who),.w (.int .i64 b.addr.num),.w (.bool b.addr.first),.w (.int .i64 b.addr.via),.w (.int .i64 b.addr.left),.w (.int .i64 b.addr.resp),.w (.bool b.addr.second),.w (.bool b.data.live),.w (.int .i64 b.data.who),.w (.int .i64 b.data.num),.w (.bool b.data.first),.w (.int .i64 b.data.via),.w (.int .i64 b.data.left),.w (.int .i64 b.data.resp),.w (.bool b.data.second),.sl 1 (b.model.ram.map iR),.sl 1 (b.model.dev.regs.map iR),.w (.int .i64 b.model.dev.timer),.sl 1 (b.model.dev.fifo.map iR),.w (.int .i64 b.picks),.ls 4 b.log.length],.arr 6 (b.ms.map Mst.r),.arr 2 (b.buckets.map Bucket.r),.arr 1 (b.splits.map iR),.arr 7 (b.log.map Done.r)] [.cp 0 0,.agg x.r] (fun u L1=>u=.tup []∧L1=LBus (b.complete x)):=by
 obtain⟨m,hm⟩:=at_of hw.1 hw.2
 have hmm:=mAt_of hm
 rw[hmm] at h0
 have hms:m.small:=hf.small.2.2.1 m (List.mem_of_getElem? hm)
 have hlg:=hf.small.2.2.2.2.2.2
 refine gb_in g4 (Ei [0,1] Y (Et (u_box Y Y Y (z_q [0,3] Y (Ea Y (Fj Y (Ee Y (Ej Y Y Y (Ee Y (Ej Y Y Y (Fa (o_iaL Y Y (by simp) Y (by omega)) (u_ldnA Y Y (by simp) (by exact mrow hm) Y (Fu Y Y (Eo (Er Y Y Y Y Y Y Y) (z_q [0,3,4] Y (Ee Y (Ej Y Y Y ?_)))))))))))))))))
 refine s_iaM Y Y (by have h9:=(List.getElem?_eq_some_iff.1 h0).1;omega) ?_
 intro y2 e2
 have hQ:=h0.symm.trans e2;cases hQ
 refine u_ldn Y Y (Fu Y Y (Eo (Er Y Y Y Y Y Y Y) (z_q [0,3,4,5] Y (Ea Y (Fj Y (Ee Y (Ej Y Y Y (Ee Y (Ej Y Y Y (Ee Y (Ej Y Y Y (En Y Y Y (Ee Y (Ej Y Y Y (Ev Y Y (c_54 _ _ hms) (Ee Y (Ej Y Y Y (Ek (is:=[0,3,4,27,29,31,35,37]) Y (Ee Y (Ej Y Y Y (u_bd Y Y (Fu Y Y (Eo (Er Y Y Y Y Y Y Y) (Em [0,3,4,6] Y (Ey (Et (Ee Y (Ej Y Y Y (Fm Y Y (Em [0,3,4,6,43] Y (Ew Y ?_ ?_)))))))))))))))))))))))))))))))
 intro h3
 refine Et (Ea Y (En Y Y Y (s_callGL Y Y (by simp) (cg_5 b x r hf.small hw (by rw[hmm];exact h0) hk) ?_)))
 rintro u L1 ⟨rfl,rfl⟩
 refine⟨Y,?_,_,_,Y,Y,?_⟩
 ·intro lb hlb
  simp only[List.mem_cons,List.not_mem_nil,or_false] at hlb
  rcases hlb with rfl|rfl|rfl <;> exact words_map _ _ (fun y v hv=>by simp [iR] at hv;exact⟨_,hv⟩)
 refine s_frz3 9 10 11 47 Y Y Y (by simp) (by decide) Y Y (by simp) Y Y Y (Ea Y (u_ext Y Y (u_ext Y Y (u_ext Y Y (Fu Y Y (Eo (Er Y Y Y Y Y Y Y) (Ea Y (Ea Y (z_q [0,3,4,6,7,8] Y (Ea Y (En Y Y Y (Fj Y (Ee Y (Eo (Er Y Y Y Y Y Y Y) (Em [0,3,4,6,8] Y (Fs (Ea Y (Ee Y (Eo (o_stC Y Y Y Y Y Y) (z_q [0,3,4,6] Y (Ea Y (Ea Y (Fj Y (Ee Y (Ej Y Y Y (En Y Y Y (Fa (o_bs Y Y Y Y) ?_)))))))))))))))))))))))))))
 refine Fa (o_appL Y Y (by simp) Y Y Y Y (by simp [roomy];omega)) ?_
 rw[log_snoc,List.length_map]
 refine Fj Y (Ee Y (Eo (o_stC Y Y Y Y Y Y) (z_q [0,3,4] Y (En Y Y Y (Ev Y Y (c_56 _ hms) (Ea Y (u_ext Y Y (u_ext Y Y (Fu Y Y (Eo (Er Y Y Y Y Y Y Y) (Ea Y (Em [0,3,4,10] Y (Ey (Et (Ea Y (Fj Y (Ee Y (Ej Y Y Y (Ee Y (Ej Y Y Y (Fm Y Y (Ea Y (Ft Y ?_ ?_)))))))))))))))))))))))
 intro h4
 refine Ee Y (Ec Y (Ej Y Y Y (Ec Y (Fw Y (Ec Y (Ee Y (Ec Y (Ej Y Y Y (Ec Y (Fw Y (Ek (is:=[0,3,10,79,82,85]) Y (Ec Y (u_lss Y Y (Eg Y Y (Em [0,3,10,87] Y (Ew Y ?_ ?_))))))))))))))))
 intro h5
 refine Fs (Ea Y (s_callB [0,1,2,3,4] Y Y Y Y (by decide) (cb_7 { b with model:=(b.did x).1,log:=b.log++[⟨b.now,x.who,r.write,m.addrAt x.num,r.size,(b.did x).2.1,x.resp⟩] }) ?_))
 rintro u L1 ⟨rfl,rfl⟩
 refine⟨_,_,_,Y,Y,Y,?_⟩
 refine Em [0,3,10] Y (Fs (Ea Y (Fj Y (Ee Y (Ej Y Y Y (Ee Y (Ej Y Y Y (En Y Y Y (Fa (o_iaL Y Y (by simp) Y (by exact hw)) (Eo (o_stnA Y Y Y Y Y (by simp) (by exact mrow hm) Y Y) (Ez ?_)))))))))))
 rotate_left
 intro h5
 refine z_s [0,3,10] Y (Fs (Ea Y (Fj Y (Ee Y (Ej Y Y Y (Ee Y (Ej Y Y Y (En Y Y Y (Fa (o_iaL Y Y (by simp) Y (by omega)) (Eo (o_stnA Y Y Y Y Y (by simp) (by exact mrow hm) Y Y) (Ez ?_)))))))))))
 rotate_left
 intro h4
 iterate 6 refine Eb rfl ?_
 refine Ek (is:=[0,3,10,79,82,85]) Y (Eb Y (Ed Y Y (Em [0,3,10,87] Y (Fi Y (z_s [0,3,10] Y (Fs (Ea Y (Fj Y (Ee Y (Ej Y Y Y (Ee Y (Ej Y Y Y (En Y Y Y (Fa (o_iaL Y Y (by simp) Y (by omega)) (Eo (o_stnA Y Y Y Y Y (by simp) (by exact mrow hm) Y Y) (Ez ?_))))))))))))))))
 rotate_left
 intro h3
 refine z_s [0,3,4,6] Y (Et (Ea Y (Ea Y (Fj Y (Ee Y (Ej Y Y Y (En Y Y Y (Fa (o_bs Y Y Y Y) ?_))))))))
 refine Fa (o_appL Y Y (by simp) Y Y Y Y (by simp [roomy];omega)) ?_
 rw[log_snoc,List.length_map]
 refine Fj Y (Ee Y (Eo (o_stC Y Y Y Y Y Y) (z_q [0,3,4] Y (En Y Y Y (Ev Y Y (c_56 _ hms) (Ea Y (u_ext Y Y (u_ext Y Y (Fu Y Y (Eo (Er Y Y Y Y Y Y Y) (Ea Y (Em [0,3,4,10] Y (Ey (Et (Ea Y (Fj Y (Ee Y (Ej Y Y Y (Ee Y (Ej Y Y Y (Fm Y Y (Ea Y (Ft Y ?_ ?_)))))))))))))))))))))))
 intro h9
 refine Ee Y (Ec Y (Ej Y Y Y (Ec Y (Fw Y (Ec Y (Ee Y (Ec Y (Ej Y Y Y (Ec Y (Fw Y (Ek (is:=[0,3,10,79,82,85]) Y (Ec Y (u_lss Y Y (Eg Y Y (Em [0,3,10,87] Y (Ew Y ?_ ?_))))))))))))))))
 intro h10
 refine Fs (Ea Y (s_callB [0,1,2,3,4] Y Y Y Y (by decide) (cb_7 { b with model:=b.model,log:=b.log++[⟨b.now,x.who,r.write,m.addrAt x.num,r.size,0,x.resp⟩] }) ?_))
 rintro u L1 ⟨rfl,rfl⟩
 refine⟨_,_,_,Y,Y,Y,?_⟩
 refine Em [0,3,10] Y (Fs (Ea Y (Fj Y (Ee Y (Ej Y Y Y (Ee Y (Ej Y Y Y (En Y Y Y (Fa (o_iaL Y Y (by simp) Y (by exact hw)) (Eo (o_stnA Y Y Y Y Y (by simp) (by exact mrow hm) Y Y) (Ez ?_)))))))))))
 rotate_left
 intro h10
 refine z_s [0,3,10] Y (Fs (Ea Y (Fj Y (Ee Y (Ej Y Y Y (Ee Y (Ej Y Y Y (En Y Y Y (Fa (o_iaL Y Y (by simp) Y (by omega)) (Eo (o_stnA Y Y Y Y Y (by simp) (by exact mrow hm) Y Y) (Ez ?_)))))))))))
 rotate_left
 intro h9
 iterate 6 refine Eb rfl ?_
 refine Ek (is:=[0,3,10,79,82,85]) Y (Eb Y (Ed Y Y (Em [0,3,10,87] Y (Fi Y (z_s [0,3,10] Y (Fs (Ea Y (Fj Y (Ee Y (Ej Y Y Y (Ee Y (Ej Y Y Y (En Y Y Y (Fa (o_iaL Y Y (by simp) Y (by omega)) (Eo (o_stnA Y Y Y Y Y (by simp) (by exact mrow hm) Y Y) (Ez ?_))))))))))))))))
 rotate_left
 all_goals
  refine retB_leaf [] (.inl Y) Y Y Y Y (show(List.range 5++[]).Nodup by decide) ?_
  refine⟨Y,?_⟩
  clear hf hw hk hlg hms
  first|(simp_all [Bus.complete,Bus.freed,Bus.endsLock,reqAt_of h0,LBus,wbus,List.map_set,Mst.r,Done.r];done)|(simp_all [Bus.complete,Bus.freed,Bus.endsLock,reqAt_of h0,LBus,wbus,List.map_set,Mst.r,Done.r];exact⟨fun h=>absurd h (by omega),fun h=>absurd h (by omega)⟩)
def beat0:Beat:=⟨false,0,0,false,0,0,0,false⟩
def Mst.again (m:Mst):Mst:=⟨m.queue,m.beat,m.done,IntKind.wrap .i64 (m.tries+1),m.parted,m.broken⟩
def Mst.part (m:Mst):Mst:=⟨m.queue,m.beat,m.done,m.tries,true,m.broken⟩
def Bus.bad1 (b:Bus):Bus:={ b with data:=⟨b.data.live,b.data.who,b.data.num,b.data.first,b.data.via,b.data.left,b.data.resp,true⟩ }
def Bus.again (b:Bus):Bus:={ b with data:=beat0,ms:=b.ms.set b.data.who.toNat (mAt b b.data.who).again }
def Bus.part (b:Bus) (s:Script):Bus:={ b with data:=beat0,ms:=b.ms.set b.data.who.toNat (mAt b b.data.who).part,splits:=b.splits.set b.data.who.toNat (b.conf.splitAt s b.picks) }
def Bus.noAddr (b:Bus):Bus:={ b with addr:=beat0 }
def Bus.finish (b:Bus) (s:Script):Bus×Bool×Bool:=
 if b.data.live=false then(b,true,false)
 else if 0<b.data.left then({ b with data:=⟨b.data.live,b.data.who,b.data.num,b.data.first,b.data.via,b.data.left-1,b.data.resp,b.data.second⟩ },false,false)
 else if ¬ b.data.resp=0∧b.data.second=false then((if b.addr.live=true then(b.bad1.revoke b.addr).noAddr else b.bad1),false,true)
 else((if b.data.resp=2 then b.again.revoke b.data else if b.data.resp=3 then(b.part s).revoke b.data else({ b with data:=beat0 }:Bus).complete b.data),true,true)
theorem set_int {xs:List Int} {k:Nat} {v:Int}:(xs.map iR).set k [.w (.int .i64 v)]=(xs.set k v).map iR:=by rw[List.map_set];rfl
theorem set_again {b:Bus} {k:Int} {m:Mst} (h:mAt b k=m):(b.ms.map Mst.r).set k.toNat [.sl 6 (m.queue.map Req.r),.w (.int .i64 m.beat),.w (.int .i64 m.done),.w (.int .i64 (IntKind.wrap .i64 (m.tries+1))),.w (.bool m.parted),.w (.bool m.broken)]=(b.ms.set k.toNat (mAt b k).again).map Mst.r:=by rw[h,List.map_set];rfl
theorem set_part {b:Bus} {k:Int} {m:Mst} (h:mAt b k=m):(b.ms.map Mst.r).set k.toNat [.sl 6 (m.queue.map Req.r),.w (.int .i64 m.beat),.w (.int .i64 m.done),.w (.int .i64 m.tries),.w (.bool true),.w (.bool m.broken)]=(b.ms.set k.toNat (mAt b k).part).map Mst.r:=by rw[h,List.map_set];rfl
theorem small_set {b:Bus} (hf:b.fine) {k:Nat} {m:Mst} (hm:m.small):(b.ms.set k m).length≤1048576∧∀ y,y∈b.ms.set k m→y.small:=by
 refine⟨by rw[List.length_set];exact hf.small.2.1,fun y hy=>?_⟩
 rcases List.mem_or_eq_of_mem_set hy with h|h
 ·exact hf.small.2.2.1 y h
 ·rw[h];exact hm
theorem fine_again {b:Bus} (hf:b.fine):b.again.fine:=by
 have h:=small_set hf (k:=b.data.who.toNat) (m:=(mAt b b.data.who).again) (mAt_small hf.small _)
 exact⟨⟨hf.small.1,h.1,h.2,hf.small.2.2.2⟩,hf.cok,hf.tiny,by show(b.ms.set _ _).length=_;rw[List.length_set];exact hf.lm,hf.lb,hf.ls⟩
theorem fine_part {b:Bus} (hf:b.fine) (s:Script):(b.part s).fine:=by
 have h:=small_set hf (k:=b.data.who.toNat) (m:=(mAt b b.data.who).part) (mAt_small hf.small _)
 exact⟨⟨hf.small.1,h.1,h.2,hf.small.2.2.2.1,by show(b.splits.set _ _).length≤_;rw[List.length_set];exact hf.small.2.2.2.2.1,hf.small.2.2.2.2.2⟩,hf.cok,hf.tiny,by show(b.ms.set _ _).length=_;rw[List.length_set];exact hf.lm,hf.lb,by show(b.splits.set _ _).length=_;rw[List.length_set];exact hf.ls⟩
theorem cb_6 (b:Bus) (s:Script) (cy ad ki wh da fr:Int) (rd:Bool) (rs go:Int) (hf:b.fine) (hsw:∀ y,y∈s.waits→i64 y) (hd:b.data.live=true→(0≤b.data.who∧b.data.who<b.ms.length)∧b.data.left≤1000000∧∃ r,(mAt b b.data.who).queue[0]?=some r∧(r.write=true→0≤b.data.num∧b.data.num<r.data.length)) (ha:b.addr.live=true→0≤b.addr.who∧b.addr.who<b.ms.length):GB prg 6 [.cell [.sl 4 (b.conf.masters.map MConf.r),.w (.int .i64 b.conf.quantum),.w (.int .i64 b.conf.maxWait),.w (.int .i64 b.conf.maxRetry),.w (.int .i64 b.conf.maxSplit),.w (.int .i64 b.conf.lockMost),.w (.int .i64 b.now),.ls 1 b.ms.length,.w (.int .i64 b.arb.pos),.w (.int .i64 b.arb.credit),.ls 2 b.buckets.length,.ls 3 b.splits.length,.w (.int .i64 b.holder),.w (.int .i64 b.kept),.w (.int .i64 b.last),.w (.bool b.addr.live),.w (.int .i64 b.addr.who),.w (.int .i64 b.addr.num),.w (.bool b.addr.first),.w (.int .i64 b.addr.via),.w (.int .i64 b.addr.left),.w (.int .i64 b.addr.resp),.w (.bool b.addr.second),.w (.bool b.data.live),.w (.int .i64 b.data.who),.w (.int .i64 b.data.num),.w (.bool b.data.first),.w (.int .i64 b.data.via),.w (.int .i64 b.data.left),.w (.int .i64 b.data.resp),.w (.bool b.data.second),.sl 1 (b.model.ram.map iR),.sl 1 (b.model.dev.regs.map iR),.w (.int .i64 b.model.dev.timer),.sl 1 (b.model.dev.fifo.map iR),.w (.int .i64 b.picks),.ls 4 b.log.length],.arr 6 (b.ms.map Mst.r),.arr 2 (b.buckets.map Bucket.r),.arr 1 (b.splits.map iR),.arr 7 (b.log.map Done.r),.cell [.w (.int .i64 cy),.w (.int .i64 ad),.w (.int .i64 ki),.w (.int .i64 wh),.w (.int .i64 da),.w (.int .i64 fr),.w (.bool rd),.w (.int .i64 rs),.w (.int .i64 go)]] [.cp 0 0,.agg s.r,.cp 5 0] (fun u L1=>u=.w (.bool (b.finish s).2.1)∧L1=LBus (b.finish s).1++[.cell [.w (.int .i64 cy),.w (.int .i64 ad),.w (.int .i64 ki),.w (.int .i64 wh),.w (.int .i64 da),.w (.int .i64 fr),.w (.bool rd),.w (.int .i64 (if(b.finish s).2.2=true then b.data.resp else rs)),.w (.int .i64 go)]]):=by
 refine gb_in g6 (Ei [0,1,2] Y (Et (u_box Y Y Y (Ea Y (z_q [0,2,4] Y (Ea Y (Fj Y (Ee Y (En Y Y Y (Fu Y Y (Eo (Er Y Y Y Y Y Y Y) (Em [0,2,4,7] Y (Ey (Fh (Et (Ee Y (Ej Y Y Y (Fk Y (Ea Y (Em [0,2,4,7,12] Y (s_condNB Y ?_ ?_)))))))))))))))))))))
 intro h1
 refine Et (Ea Y (Em [6] Y (Eh (Fc (Ep ?_)))))
 rotate_left
 intro h1
 have hlv:b.data.live=true:=h1;obtain⟨hw,hlf,r,h0,hk⟩:=hd hlv;obtain⟨m,hm⟩:=at_of hw.1 hw.2;have hmm:=mAt_of hm;obtain⟨sp,hsp⟩:∃ y,b.splits[b.data.who.toNat]?=some y:=at_of hw.1 (by have:=hf.lm;have:=hf.ls;omega)
 refine Et (Ee Y (Ej Y Y Y (u_gtr Y Y (Ea Y (Em [0,2,4,7,16] Y (Ew Y ?_ ?_))))))
 intro h2
 refine Et (Ea Y (Fj Y (Ee Y (Ee Y (Ej Y Y Y (Fa (o_subn Y Y (by omega)) (Fj Y (Ee Y (Ee Y (Eo (o_stC Y Y Y Y Y Y) (z_q [] Y (Ea Y (Em [6] Y (Eh (Fc (Ep ?_))))))))))))))))
 rotate_left
 intro h2
 refine Fr (Fb (Eu (Ei [0,2,4,7] Y (Et (Ea Y (Ee Y (Ej Y Y Y (Fj Y (Ee Y (Eo (o_stC Y Y Y Y Y Y) (Em [0,4,7] Y (Ey (Et (Ee Y (Ej Y Y Y (u_neq Y Y (Ea Y (Ft Y ?_ ?_))))))))))))))))))
 intro h3
 refine Ee Y (Ec Y (Ej Y Y Y (Ec Y (Fk Y (Eg Y Y (Em [0,4,7,41] Y (s_condNB Y ?_ ?_)))))))
 intro h4
 refine Et (Ea Y (Fj Y (Ee Y (Ee Y (Eo (o_stC Y Y Y Y Y Y) (Em [0] Y (Ey (Et (Ea Y (Fj Y (Ee Y (Ee Y (Ej Y Y Y (Em [0,50] Y (s_condB Y ?_ ?_)))))))))))))))
 intro h5
 have hal:b.addr.live=true:=h5;have hwa:=ha hal
 refine Et (Ea Y (Ea Y (Fj Y (Ee Y (En Y Y Y (s_callB [0,1,2,3,4] Y Y Y Y (by decide) (cb_16 b.bad1 b.addr ⟨hf.small,hf.cok,hf.tiny,hf.lm,hf.lb,hf.ls⟩ hwa) ?_))))))
 rintro u L1 ⟨rfl,rfl⟩
 refine⟨_,_,_,Y,Y,Y,?_⟩
 refine Em [0] Y (Fs (Ea Y (u_bd Y Y (Fj Y (Ee Y (Eo (Er Y Y Y Y Y Y Y) (z_q [] Y (Ea Y (Em [6] Y (Eh (Ep ?_)))))))))))
 rotate_left
 intro h5
 refine z_s [] Y (Et (Ea Y (Em [6] Y (Eh (Ep ?_)))))
 rotate_left
 intro h4
 refine z_s [0,4,7] Y (Et (Ea Y (u_bd Y Y (Fj Y (Ee Y (Eo (Er Y Y Y Y Y Y Y) (Em [0,4,7] Y (Ey (Et (Ee Y (Ej Y Y Y (Em [0,4,7,66] Y (Fh (Et (Fm Y Y (Ea Y (Em [0,4,7,66,70] Y (Ew Y ?_ ?_))))))))))))))))))
 intro h6
 refine Et (Ea Y (Fj Y (Ee Y (Ej Y Y Y (Ee Y (Ej Y Y Y (Fa (o_iaL Y Y (by simp) Y (by omega)) (u_faA Y Y (by simp) (u_ldA Y Y (by simp) (by exact mrow hm) Y (u_add Y Y (Fa (o_iaL Y Y (by simp) Y (by omega)) (u_faA Y Y (by simp) (Eo (o_stA Y Y Y Y (by simp) (by exact mrow hm) Y Y) (Em [0,7] Y (Fs ?_)))))))))))))))
 rw[set_again hmm,show b.ms.length=(b.ms.set b.data.who.toNat (mAt b b.data.who).again).length from(List.length_set ..).symm]
 refine Ea Y (En Y Y Y (s_callB [0,1,2,3,4] Y Y Y Y (by decide) (cb_16 b.again b.data (fine_again hf) (by show _∧_<((b.ms.set _ _).length:Int);rw[List.length_set];exact hw)) ?_))
 rintro u L1 ⟨rfl,rfl⟩
 refine⟨_,_,_,Y,Y,Y,?_⟩
 refine Ez (Fb (Eu (Ei [] Y (Et (Ea Y (Em [6] Y (Eh ?_)))))))
 rotate_left
 intro h6
 refine Et (Fm Y Y (Ea Y (Em [0,4,7,87] Y (Ew Y ?_ ?_))))
 intro h9
 refine Et (Ea Y (Fj Y (Ee Y (Ej Y Y Y (Ee Y (Ej Y Y Y (Fa (o_iaL Y Y (by simp) Y (by omega)) (u_faA Y Y (by simp) (Eo (o_stA Y Y Y Y (by simp) (by exact mrow hm) Y Y) (z_q [0,4,7] Y (Ea Y (Fj Y (Ee Y (Ej Y Y Y (Ee Y (Ej Y Y Y (Ea Y (Fj Y (Ee Y (En Y Y Y (En Y Y Y (Ea Y (Fj Y (Ee Y (Ek (is:=[0,7,100,102,106,107,110]) Y (Ej Y Y Y (Ev Y Y (c_75 _ _ _ hsw) ?_)))))))))))))))))))))))))))
 refine Fa (o_iaL Y Y (by simp) Y (by have:=hf.lm;have:=hf.ls;omega)) ?_
 refine Eo (o_stA Y Y Y Y (by simp) (by rw[List.getElem?_map,hsp];rfl) Y Y) ?_
 refine Em [0,7] Y (Fs ?_)
 rw[set_part hmm,set_int,show b.ms.length=(b.ms.set b.data.who.toNat (mAt b b.data.who).part).length from(List.length_set ..).symm,show b.splits.length=(b.splits.set b.data.who.toNat (b.conf.splitAt s b.picks)).length from(List.length_set ..).symm]
 refine Ea Y (En Y Y Y (s_callB [0,1,2,3,4] Y Y Y Y (by decide) (cb_16 (b.part s) b.data (fine_part hf s) (by show _∧_<((b.ms.set _ _).length:Int);rw[List.length_set];exact hw)) ?_))
 rintro u L1 ⟨rfl,rfl⟩
 refine⟨_,_,_,Y,Y,Y,?_⟩
 refine Ez (Fb (Eu (Ei [] Y (Et (Ea Y (Em [6] Y (Eh ?_)))))))
 rotate_left
 intro h9
 refine Fs (Ea Y (En Y Y Y (s_callB [0,1,2,3,4] Y Y Y Y (by decide) (cb_4 ({ b with data:=beat0 }:Bus) b.data r ⟨hf.small,hf.cok,hf.tiny,hf.lm,hf.lb,hf.ls⟩ hw h0 hk) ?_)))
 rintro u L1 ⟨rfl,rfl⟩
 refine⟨_,_,_,Y,Y,Y,?_⟩
 refine Ez (Fb (Eu (Ei [] Y (Et (Ea Y (Em [6] Y (Eh ?_)))))))
 rotate_left
 intro h3
 rw[nnp] at h3
 refine Eb Y (Eb Y (Eb Y (Ed Y Y (Em [0,4,7,41] Y (Fi Y (z_s [0,4,7] Y (Et (Ea Y (u_bd Y Y (Fj Y (Ee Y (Eo (Er Y Y Y Y Y Y Y) (Em [0,4,7] Y (Ey (Et (Ee Y (Ej Y Y Y (Em [0,4,7,66] Y (Fh (Et (Fm Y Y (Ea Y (Em [0,4,7,66,70] Y (Ew Y ?_ ?_))))))))))))))))))))))))
 intro h12
 refine Et (Ea Y (Fj Y (Ee Y (Ej Y Y Y (Ee Y (Ej Y Y Y (Fa (o_iaL Y Y (by simp) Y (by omega)) (u_faA Y Y (by simp) (u_ldA Y Y (by simp) (by exact mrow hm) Y (u_add Y Y (Fa (o_iaL Y Y (by simp) Y (by omega)) (u_faA Y Y (by simp) (Eo (o_stA Y Y Y Y (by simp) (by exact mrow hm) Y Y) (Em [0,7] Y (Fs ?_)))))))))))))))
 rw[set_again hmm,show b.ms.length=(b.ms.set b.data.who.toNat (mAt b b.data.who).again).length from(List.length_set ..).symm]
 refine Ea Y (En Y Y Y (s_callB [0,1,2,3,4] Y Y Y Y (by decide) (cb_16 b.again b.data (fine_again hf) (by show _∧_<((b.ms.set _ _).length:Int);rw[List.length_set];exact hw)) ?_))
 rintro u L1 ⟨rfl,rfl⟩
 refine⟨_,_,_,Y,Y,Y,?_⟩
 refine Ez (Fb (Eu (Ei [] Y (Et (Ea Y (Em [6] Y (Eh ?_)))))))
 rotate_left
 intro h12
 refine Et (Fm Y Y (Ea Y (Em [0,4,7,87] Y (Ew Y ?_ ?_))))
 intro h15
 refine Et (Ea Y (Fj Y (Ee Y (Ej Y Y Y (Ee Y (Ej Y Y Y (Fa (o_iaL Y Y (by simp) Y (by omega)) (u_faA Y Y (by simp) (Eo (o_stA Y Y Y Y (by simp) (by exact mrow hm) Y Y) (z_q [0,4,7] Y (Ea Y (Fj Y (Ee Y (Ej Y Y Y (Ee Y (Ej Y Y Y (Ea Y (Fj Y (Ee Y (En Y Y Y (En Y Y Y (Ea Y (Fj Y (Ee Y (Ek (is:=[0,7,100,102,106,107,110]) Y (Ej Y Y Y (Ev Y Y (c_75 _ _ _ hsw) (Fa (o_iaL Y Y (by simp) Y (by omega)) ?_))))))))))))))))))))))))))))
 refine Eo (o_stA Y Y Y Y (by simp) (by rw[List.getElem?_map,hsp];rfl) Y Y) ?_
 refine Em [0,7] Y (Fs ?_)
 rw[set_part hmm,set_int,show b.ms.length=(b.ms.set b.data.who.toNat (mAt b b.data.who).part).length from(List.length_set ..).symm,show b.splits.length=(b.splits.set b.data.who.toNat (b.conf.splitAt s b.picks)).length from(List.length_set ..).symm]
 refine Ea Y (En Y Y Y (s_callB [0,1,2,3,4] Y Y Y Y (by decide) (cb_16 (b.part s) b.data (fine_part hf s) (by show _∧_<((b.ms.set _ _).length:Int);rw[List.length_set];exact hw)) ?_))
 rintro u L1 ⟨rfl,rfl⟩
 refine⟨_,_,_,Y,Y,Y,?_⟩
 refine Ez (Fb (Eu (Ei [] Y (Et (Ea Y (Em [6] Y (Eh ?_)))))))
 rotate_left
 intro h15
 refine Fs (Ea Y (En Y Y Y (s_callB [0,1,2,3,4] Y Y Y Y (by decide) (cb_4 ({ b with data:=beat0 }:Bus) b.data r ⟨hf.small,hf.cok,hf.tiny,hf.lm,hf.lb,hf.ls⟩ hw h0 hk) ?_)))
 rintro u L1 ⟨rfl,rfl⟩
 refine⟨_,_,_,Y,Y,Y,?_⟩
 refine Ez (Fb (Eu (Ei [] Y (Et (Ea Y (Em [6] Y (Eh ?_)))))))
 rotate_left
 all_goals
  refine retB_leaf [] (.inr Y) Y Y Y Y (show(List.range 6++[]).Nodup by decide) ?_
  clear hd ha
  first|(have e:b.finish s=(b,true,false):=(by unfold Bus.finish;simp_all;done);rw[e];exact⟨Y,Y⟩)|(have e:b.finish s=(({ b with data:=⟨b.data.live,b.data.who,b.data.num,b.data.first,b.data.via,b.data.left-1,b.data.resp,b.data.second⟩ }:Bus),false,false):=(by unfold Bus.finish;simp_all;done);rw[e];exact⟨Y,Y⟩)|(have e:b.finish s=((b.bad1.revoke b.addr).noAddr,false,true):=(by unfold Bus.finish;simp_all;done);rw[e];exact⟨Y,Y⟩)|(have e:b.finish s=(b.bad1,false,true):=(by unfold Bus.finish;simp_all;done);rw[e];exact⟨Y,Y⟩)|(have e:b.finish s=(b.again.revoke b.data,true,true):=(by unfold Bus.finish;simp_all;done);rw[e];exact⟨Y,Y⟩)|(have e:b.finish s=((b.part s).revoke b.data,true,true):=(by unfold Bus.finish;simp_all;done);rw[e];exact⟨Y,Y⟩)|(have e:b.finish s=(({ b with data:=beat0 }:Bus).complete b.data,true,true):=(by unfold Bus.finish;simp_all;done);rw[e];exact⟨Y,Y⟩)
def mstQ:Mst:=⟨[],0,0,0,false,false⟩
def postStep (c:Conf) (ms:List Mst) (p:Post):List Mst:=if inB p.who 0 (c.masters.length-1)=true then ms.set p.who.toNat ((((ms[p.who.toNat]?).getD mstQ).post p.req).1) else ms
def postsM (c:Conf) (ms:List Mst) (ps:List Post):List Mst:=ps.foldl (postStep c) ms
theorem postsM_next {c:Conf} {ms:List Mst} {ps:List Post} {i:Nat} {p:Post} (h:ps[i]?=some p):postsM c ms (ps.take (i+1))=postStep c (postsM c ms (ps.take i)) p:=by
 unfold postsM;rw[take_get h,List.foldl_append];rfl
def Bus.posted (b:Bus) (s:Script):Bus:={ b with ms:=postsM b.conf b.ms (s.postsAt b.now) }
def down1 (n:Int):Int:=max (IntKind.wrap .i64 (n-1)) 0
structure TickI (b:Bus) (i:Nat) (bs:List Bucket) (sp:List Int):Prop where
 le:i≤b.ms.length
 lb:bs.length=b.ms.length
 ls:sp.length=b.ms.length
 hb:∀ k:Nat,k<b.ms.length→bs[k]?=some (if k<i then(bAt b k).tick (cAt b k) else bAt b k)
 hs:∀ k:Nat,k<b.ms.length→sp[k]?=some (if k<i then down1 (sAt b k) else sAt b k)
theorem TickI.start {b:Bus} (hf:b.fine):TickI b 0 b.buckets b.splits:=by
 refine⟨Nat.zero_le _,by rw[hf.lb,hf.lm],by rw[hf.ls,hf.lm],fun k hk=>?_,fun k hk=>?_⟩
 ·obtain⟨y,hy⟩:∃ y,b.buckets[k]?=some y:=⟨_,List.getElem?_eq_getElem (show k<b.buckets.length by have:=hf.lb;have:=hf.lm;omega)⟩
  rw[if_neg (by omega),bAt_of (by rw[Int.toNat_natCast];exact hy)];exact hy
 ·obtain⟨y,hy⟩:∃ y,b.splits[k]?=some y:=⟨_,List.getElem?_eq_getElem (show k<b.splits.length by have:=hf.ls;have:=hf.lm;omega)⟩
  rw[if_neg (by omega),sAt_of (by rw[Int.toNat_natCast];exact hy)];exact hy
theorem TickI.next {b:Bus} {i:Nat} {bs:List Bucket} {sp:List Int} (h:TickI b i bs sp) (hi:i<b.ms.length):TickI b (i+1) (bs.set i ((bAt b i).tick (cAt b i))) (sp.set i (down1 (sAt b i))):=by
 refine⟨hi,by rw[List.length_set];exact h.lb,by rw[List.length_set];exact h.ls,fun k hk=>?_,fun k hk=>?_⟩
 ·rw[List.getElem?_set]
  by_cases e:i=k
  ·subst e;rw[if_pos rfl,if_pos (by rw[h.lb];exact hi),if_pos (by omega)]
  ·rw[if_neg e,h.hb k hk]
   congr 1
   by_cases h1:k<i
   ·rw[if_pos h1,if_pos (by omega)]
   ·rw[if_neg h1,if_neg (by omega)]
 ·rw[List.getElem?_set]
  by_cases e:i=k
  ·subst e;rw[if_pos rfl,if_pos (by rw[h.ls];exact hi),if_pos (by omega)]
  ·rw[if_neg e,h.hs k hk]
   congr 1
   by_cases h1:k<i
   ·rw[if_pos h1,if_pos (by omega)]
   ·rw[if_neg h1,if_neg (by omega)]
def Bus.ticked (b:Bus):Bus:={ b with buckets:=(List.range b.ms.length).map fun (k:Nat)=>(bAt b k).tick (cAt b k),splits:=(List.range b.ms.length).map fun (k:Nat)=>down1 (sAt b k) }
theorem TickI.done {b:Bus} {i:Nat} {bs:List Bucket} {sp:List Int} (h:TickI b i bs sp) (hi:b.ms.length≤i):({ b with buckets:=bs,splits:=sp }:Bus)=b.ticked:=by
 have e1:bs=(List.range b.ms.length).map fun (k:Nat)=>(bAt b k).tick (cAt b k):=by
  apply List.ext_getElem?
  intro k
  rcases Nat.lt_or_ge k b.ms.length with h1|h1
  ·rw[h.hb k h1,if_pos (by omega)];simp [h1]
  ·rw[List.getElem?_eq_none (by rw[h.lb];omega),List.getElem?_eq_none (by simp;omega)]
 have e2:sp=(List.range b.ms.length).map fun (k:Nat)=>down1 (sAt b k):=by
  apply List.ext_getElem?
  intro k
  rcases Nat.lt_or_ge k b.ms.length with h1|h1
  ·rw[h.hs k h1,if_pos (by omega)];simp [h1]
  ·rw[List.getElem?_eq_none (by rw[h.ls];omega),List.getElem?_eq_none (by simp;omega)]
 unfold Bus.ticked
 rw[←e1,←e2]
theorem ticked_fine {b:Bus} (hf:b.fine):b.ticked.fine:=
 ⟨⟨hf.small.1,hf.small.2.1,hf.small.2.2.1,by show((List.range _).map _).length≤_;simp;exact hf.small.2.1,by show((List.range _).map _).length≤_;simp;exact hf.small.2.1,hf.small.2.2.2.2.2⟩,hf.cok,hf.tiny,hf.lm,by show((List.range _).map _).length=_;simp;exact hf.lm,by show((List.range _).map _).length=_;simp;exact hf.lm⟩
def Bus.aged (b:Bus):Bus:={ b with kept:=if b.holder=-1 then b.kept else minL (IntKind.wrap .i64 (b.kept+1)) [b.conf.lockMost] }
def Bus.pre (b:Bus) (s:Script):Bus:=(b.posted s).ticked.aged
theorem cb_6y {b b4:Bus} {s:Script} {rdy st:Bool} (h:b.finish s=(b4,rdy,st)) (cy ad ki wh da fr:Int) (rd:Bool) (rs go:Int) (hf:b.fine) (hsw:∀ y,y∈s.waits→i64 y) (hd:b.data.live=true→(0≤b.data.who∧b.data.who<b.ms.length)∧b.data.left≤1000000∧∃ r,(mAt b b.data.who).queue[0]?=some r∧(r.write=true→0≤b.data.num∧b.data.num<r.data.length)) (ha:b.addr.live=true→0≤b.addr.who∧b.addr.who<b.ms.length):GB prg 6 [.cell [.sl 4 (b.conf.masters.map MConf.r),.w (.int .i64 b.conf.quantum),.w (.int .i64 b.conf.maxWait),.w (.int .i64 b.conf.maxRetry),.w (.int .i64 b.conf.maxSplit),.w (.int .i64 b.conf.lockMost),.w (.int .i64 b.now),.ls 1 b.ms.length,.w (.int .i64 b.arb.pos),.w (.int .i64 b.arb.credit),.ls 2 b.buckets.length,.ls 3 b.splits.length,.w (.int .i64 b.holder),.w (.int .i64 b.kept),.w (.int .i64 b.last),.w (.bool b.addr.live),.w (.int .i64 b.addr.who),.w (.int .i64 b.addr.num),.w (.bool b.addr.first),.w (.int .i64 b.addr.via),.w (.int .i64 b.addr.left),.w (.int .i64 b.addr.resp),.w (.bool b.addr.second),.w (.bool b.data.live),.w (.int .i64 b.data.who),.w (.int .i64 b.data.num),.w (.bool b.data.first),.w (.int .i64 b.data.via),.w (.int .i64 b.data.left),.w (.int .i64 b.data.resp),.w (.bool b.data.second),.sl 1 (b.model.ram.map iR),.sl 1 (b.model.dev.regs.map iR),.w (.int .i64 b.model.dev.timer),.sl 1 (b.model.dev.fifo.map iR),.w (.int .i64 b.picks),.ls 4 b.log.length],.arr 6 (b.ms.map Mst.r),.arr 2 (b.buckets.map Bucket.r),.arr 1 (b.splits.map iR),.arr 7 (b.log.map Done.r),.cell [.w (.int .i64 cy),.w (.int .i64 ad),.w (.int .i64 ki),.w (.int .i64 wh),.w (.int .i64 da),.w (.int .i64 fr),.w (.bool rd),.w (.int .i64 rs),.w (.int .i64 go)]] [.cp 0 0,.agg s.r,.cp 5 0] (fun u L1=>u=.w (.bool rdy)∧L1=LBus b4++[.cell [.w (.int .i64 cy),.w (.int .i64 ad),.w (.int .i64 ki),.w (.int .i64 wh),.w (.int .i64 da),.w (.int .i64 fr),.w (.bool rd),.w (.int .i64 (if st=true then b.data.resp else rs)),.w (.int .i64 go)]]):=by have:=cb_6 b s cy ad ki wh da fr rd rs go hf hsw hd ha;rwa [h] at this
def Mst.broke (m:Mst):Mst:=⟨m.queue,m.beat,m.done,m.tries,m.parted,true⟩
def Bus.unlocked (b:Bus):Bus:=if ¬ b.holder=-1∧b.kept=b.conf.lockMost then({ b with ms:=b.ms.set b.holder.toNat (mAt b b.holder).broke }:Bus).freed else b
theorem set_brk {b:Bus} {k:Int} {m:Mst} (h:mAt b k=m):(b.ms.map Mst.r).set k.toNat [.sl 6 (m.queue.map Req.r),.w (.int .i64 m.beat),.w (.int .i64 m.done),.w (.int .i64 m.tries),.w (.bool m.parted),.w (.bool true)]=(b.ms.set k.toNat (mAt b k).broke).map Mst.r:=by rw[h,List.map_set];rfl
theorem unlocked_fine {b:Bus} (hf:b.fine):b.unlocked.fine:=by
 unfold Bus.unlocked
 split
 ·have h:=small_set hf (k:=b.holder.toNat) (m:=(mAt b b.holder).broke) (mAt_small hf.small _)
  exact⟨⟨hf.small.1,h.1,h.2,hf.small.2.2.2⟩,hf.cok,hf.tiny,by show(b.ms.set _ _).length=_;rw[List.length_set];exact hf.lm,hf.lb,hf.ls⟩
 ·exact hf
def Bus.moved (b:Bus) (s:Script):Bus:=if b.addr.live=true then { b with data:=⟨b.addr.live,b.addr.who,b.addr.num,b.addr.first,b.addr.via,(b.answer s b.addr).2,(b.answer s b.addr).1,b.addr.second⟩,addr:=beat0,picks:=IntKind.wrap .i64 (b.picks+1) } else b
def Bus.next (b4:Bus) (rdy:Bool) (s:Script):Bus×Int:=if rdy=true then(b4.unlocked.moved s).grant else(b4,-1)
def Bus.step (b:Bus) (s:Script):Bus×Int:=({ (((b.pre s).finish s).1.next ((b.pre s).finish s).2.1 s).1 with now:=IntKind.wrap .i64 ((((b.pre s).finish s).1.next ((b.pre s).finish s).2.1 s).1.now+1) },(((b.pre s).finish s).1.next ((b.pre s).finish s).2.1 s).2)
theorem unlocked_same (b:Bus):b.unlocked.addr=b.addr∧b.unlocked.ms.length=b.ms.length∧(b.unlocked.holder=-1∨b.unlocked.holder=b.holder):=by
 unfold Bus.unlocked
 split
 ·exact⟨Y,List.length_set ..,.inl Y⟩
 ·exact⟨Y,Y,.inr Y⟩
theorem moved_same (b:Bus) (s:Script):(b.moved s).ms=b.ms∧(b.moved s).holder=b.holder:=by
 unfold Bus.moved;split <;> exact⟨Y,Y⟩
theorem mw_of {c:Conf} (h:c.ok=true):c.maxWait≤1000000:=by
 unfold Conf.ok at h
 simp only[Bool.and_eq_true,decide_eq_true_eq] at h
 have h1:=h.1.2
 unfold Conf.slot at h1
 by_cases hc:c.cost=0
 ·rw[if_pos (.inl hc)] at h1;exact absurd Y h1
 ·unfold Conf.cost at hc
  split at hc
  ·rename_i h2
   simp only[Bool.and_eq_true] at h2
   have:=inB_t h2.2;omega
  ·exact absurd Y hc
theorem maxL_0 (x:Int):maxL x [0]=max x 0:=by
 show(if x<0 then 0 else x)=max x 0
 split <;> omega
theorem posted_fine {b:Bus} (hf:b.fine) {ms:List Mst} (hl:ms.length=b.ms.length) (hs:∀ y,y∈ms→y.small):({ b with ms:=ms }:Bus).fine:=
 ⟨⟨hf.small.1,by rw[hl];exact hf.small.2.1,hs,hf.small.2.2.2⟩,hf.cok,hf.tiny,hl.trans hf.lm,hf.lb,hf.ls⟩
structure PostI (b:Bus) (ps:List Post) (i:Nat) (ms:List Mst):Prop where
 le:i≤ps.length
 len:ms.length=b.ms.length
 small:∀ y,y∈ms→y.small
 eq:ms=postsM b.conf b.ms (ps.take i)
theorem PostI.no {b:Bus} {ps:List Post} {i:Nat} {ms:List Mst} (h:PostI b ps i ms) {p:Post} (hp:ps[i]?=some p) (hk:inB p.who 0 (b.conf.masters.length-1)=false):PostI b ps (i+1) ms:=
 ⟨(List.getElem?_eq_some_iff.1 hp).1,h.len,h.small,by rw[postsM_next hp,←h.eq,postStep,if_neg (by rw[hk];decide)]⟩
theorem PostI.yes {b:Bus} {ps:List Post} {i:Nat} {ms:List Mst} (h:PostI b ps i ms) {p:Post} {m:Mst} (hp:ps[i]?=some p) (hk:inB p.who 0 (b.conf.masters.length-1)=true) (hm:ms[p.who.toNat]?=some m) (hs:(m.post p.req).1.small):PostI b ps (i+1) (ms.set p.who.toNat (m.post p.req).1):=
 ⟨(List.getElem?_eq_some_iff.1 hp).1,by rw[List.length_set];exact h.len,fun y hy=>by
   rcases List.mem_or_eq_of_mem_set hy with h1|h1
   ·exact h.small y h1
   ·rw[h1];exact hs,by rw[postsM_next hp,←h.eq,postStep,if_pos hk,hm];rfl⟩
theorem post_in {s:Script} {t:Int} {i:Nat} {p:Post} (h:(s.postsAt t)[i]?=some p) (hs:s.small):p.req.small:=hs.2.1 p (List.mem_filter.1 (List.mem_of_getElem? h)).1
theorem post_small {m:Mst} {x:Req} (hm:m.small) (hx:x.small):(m.post x).1.small:=by
 unfold Mst.post
 split
 ·rename_i h
  have h4:m.queue.length≤4:=by
   unfold Mst.postC Mst.right at h
   simp only[Bool.and_eq_true,decide_eq_true_eq] at h
   exact h.1.1.1.1.1
  refine⟨by simp only[List.length_append,List.length_cons,List.length_nil];omega,fun y hy=>?_⟩
  rcases List.mem_append.1 hy with h1|h1
  ·exact hm.2 y h1
  ·rw[List.mem_singleton.1 h1];exact hx
 ·exact hm
end Go.Proofs.YtoppcdecolponaaGreat.AL
