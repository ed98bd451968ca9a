/- What functions do with plain data,each by the form of its code. Printed by program. -/
import Derived.Test.YtoppcdecolponaaGreatCGoesFirst5
namespace Go.Proofs.YtoppcdecolponaaGreat.AL
open Go
set_option linter.unusedVariables false
set_option linter.unusedSimpArgs false
set_option maxRecDepth 4096
theorem cb_17 (b:Bus) (s:Script) (hf:b.fine) (hsm:s.small) (hsw:∀ y,y∈s.waits→i64 y) (hd:b.data.live=true→0≤b.data.who∧b.data.who<b.ms.length) (ha:b.addr.live=true→0≤b.addr.who∧b.addr.who<b.ms.length) (h3d:(b.pre s).data.live=true→(0≤(b.pre s).data.who∧(b.pre s).data.who<(b.pre s).ms.length)∧(b.pre s).data.left≤1000000∧∃ r,(mAt (b.pre s) (b.pre s).data.who).queue[0]?=some r∧(r.write=true→0≤(b.pre s).data.num∧(b.pre s).data.num<r.data.length)) (h3a:(b.pre s).addr.live=true→0≤(b.pre s).addr.who∧(b.pre s).addr.who<(b.pre s).ms.length) (h4:∀ b4 rdy st,(b.pre s).finish s=(b4,rdy,st)→b4.fine∧(b4.holder=-1∨(0≤b4.holder∧b4.holder<b4.ms.length))∧(b4.addr.live=true→0≤b4.addr.who∧b4.addr.who<b4.ms.length)):GB prg 17 [.cell [.sl 4 (b.conf.masters.map MConf.r),.w (.int .i64 b.conf.quantum),.w (.int .i64 b.conf.maxWait),.w (.int .i64 b.conf.maxRetry),.w (.int .i64 b.conf.maxSplit),.w (.int .i64 b.conf.lockMost),.w (.int .i64 b.now),.ls 1 b.ms.length,.w (.int .i64 b.arb.pos),.w (.int .i64 b.arb.credit),.ls 2 b.buckets.length,.ls 3 b.splits.length,.w (.int .i64 b.holder),.w (.int .i64 b.kept),.w (.int .i64 b.last),.w (.bool b.addr.live),.w (.int .i64 b.addr.who),.w (.int .i64 b.addr.num),.w (.bool b.addr.first),.w (.int .i64 b.addr.via),.w (.int .i64 b.addr.left),.w (.int .i64 b.addr.resp),.w (.bool b.addr.second),.w (.bool b.data.live),.w (.int .i64 b.data.who),.w (.int .i64 b.data.num),.w (.bool b.data.first),.w (.int .i64 b.data.via),.w (.int .i64 b.data.left),.w (.int .i64 b.data.resp),.w (.bool b.data.second),.sl 1 (b.model.ram.map iR),.sl 1 (b.model.dev.regs.map iR),.w (.int .i64 b.model.dev.timer),.sl 1 (b.model.dev.fifo.map iR),.w (.int .i64 b.picks),.ls 4 b.log.length],.arr 6 (b.ms.map Mst.r),.arr 2 (b.buckets.map Bucket.r),.arr 1 (b.splits.map iR),.arr 7 (b.log.map Done.r)] [.cp 0 0,.agg s.r] (fun u L1=>(∃ ad ki wh da fr rd rs,u=.agg [.w (.int .i64 b.now),.w (.int .i64 ad),.w (.int .i64 ki),.w (.int .i64 wh),.w (.int .i64 da),.w (.int .i64 fr),.w (.bool rd),.w (.int .i64 rs),.w (.int .i64 (b.step s).2)])∧L1=LBus (b.step s).1):=by
 have hpl:(s.postsAt b.now).length≤1048576:=Nat.le_trans (List.length_filter_le ..) hsm.1
 refine gb_in g17 (Ei [0,1] Y (Et (u_box Y Y Y (Fu Y Y (z_q [0,3,4] Y (Ea Y (Fj Y (Ee Y (Ej Y Y Y (u_bd Y Y (Fu Y Y (Eo (Er Y Y Y Y Y Y Y) (Em [0,3,4,5] Y ?_)))))))))))))
 refine S_join (ι:=Int×Int×Int) (fun x=>True) (fun x=>[(0,.cp 0 0),(3,.cp 5 0),(4,.cp 6 0),(5,.cp 7 0)]) (fun x=>[.cell [.sl 4 (b.conf.masters.map MConf.r),.w (.int .i64 b.conf.quantum),.w (.int .i64 b.conf.maxWait),.w (.int .i64 b.conf.maxRetry),.w (.int .i64 b.conf.maxSplit),.w (.int .i64 b.conf.lockMost),.w (.int .i64 b.now),.ls 1 b.ms.length,.w (.int .i64 b.arb.pos),.w (.int .i64 b.arb.credit),.ls 2 b.buckets.length,.ls 3 b.splits.length,.w (.int .i64 b.holder),.w (.int .i64 b.kept),.w (.int .i64 b.last),.w (.bool b.addr.live),.w (.int .i64 b.addr.who),.w (.int .i64 b.addr.num),.w (.bool b.addr.first),.w (.int .i64 b.addr.via),.w (.int .i64 b.addr.left),.w (.int .i64 b.addr.resp),.w (.bool b.addr.second),.w (.bool b.data.live),.w (.int .i64 b.data.who),.w (.int .i64 b.data.num),.w (.bool b.data.first),.w (.int .i64 b.data.via),.w (.int .i64 b.data.left),.w (.int .i64 b.data.resp),.w (.bool b.data.second),.sl 1 (b.model.ram.map iR),.sl 1 (b.model.dev.regs.map iR),.w (.int .i64 b.model.dev.timer),.sl 1 (b.model.dev.fifo.map iR),.w (.int .i64 b.picks),.ls 4 b.log.length],.arr 6 (b.ms.map Mst.r),.arr 2 (b.buckets.map Bucket.r),.arr 1 (b.splits.map iR),.arr 7 (b.log.map Done.r),.cell s.r,.cell [.w (.int .i64 0),.w (.int .i64 0),.w (.int .i64 0),.w (.int .i64 0),.w (.int .i64 0),.w (.int .i64 0),.w (.bool false),.w (.int .i64 0),.w (.int .i64 0)],.cell [.w (.int .i64 b.now),.w (.int .i64 x.1),.w (.int .i64 x.2.1),.w (.int .i64 x.2.2),.w (.int .i64 (-1)),.w (.int .i64 (-1)),.w (.bool true),.w (.int .i64 0),.w (.int .i64 (-1))]]) ?_ ?_
 refine Et (Ea Y (Fj Y (Ee Y (En Y Y Y (Fu Y Y (Eo (Er Y Y Y Y Y Y Y) (z_q [0,3,4,5,6] Y (Ee Y (Ej Y Y Y (Em [0,3,4,5,6,23] Y (s_condB Y ?_ ?_)))))))))))
 intro h1
 have hal:b.addr.live=true:=h1;have hwa:=ha hal;obtain⟨m,hm⟩:=at_of hwa.1 hwa.2;have hms:m.small:=hf.small.2.2.1 m (List.mem_of_getElem? hm)
 refine Ey (s_rgH [7] Y (h_op (o_mv Y) Y (h_op (o_nilc Y) Y (h_op (o_faC Y) Y (h_op (o_ldC Y Y Y) Y (h_op (o_faC Y) Y (h_op (o_ldC Y Y Y) Y (h_op (o_iaL Y Y (by simp;done) Y (by omega)) Y ?_))))))))
 refine h_op (o_ldnA Y Y (by simp;done) (by exact mrow hm) Y) Y ?_
 refine h_op (o_faC Y) Y (h_op (o_ldC Y Y Y) Y (h_call Y Y (c_54 _ _ hms) Y (h_op (o_faC Y) Y (h_op (o_ldC Y Y Y) Y (h_op (o_faC Y) Y (h_sts Y Y Y Y (h_bar Y (Ek (is:=[0,3,4,5,6,36]) Y (Ee Y (Eo (o_stC Y Y Y Y Y Y) (Ee Y (Eo (o_stC Y Y Y Y Y Y) (z_q [0,3,4,5,6] Y (Ee Y (Ej Y Y Y (Em [0,3,4,5,41] Y (s_condB Y ?_ ?_)))))))))))))))))
 intro h3
 refine Fs (Ee Y (Eo (o_stC Y Y Y Y Y Y) (Ez (Fp ?_))))
 ·exact⟨(_,_,_),trivial,hasR [5,6,7] (show(List.range 5++[5,6,7]).Nodup by decide) Y ⟨Y,Y,Y,Y,trivial⟩ Y⟩
 intro h3
 refine Fr (Fp ?_)
 ·exact⟨(_,_,_),trivial,hasR [5,6,7] (show(List.range 5++[5,6,7]).Nodup by decide) Y ⟨Y,Y,Y,Y,trivial⟩ Y⟩
 intro h1
 refine Fr (Fp ?_)
 ·exact⟨(_,_,_),trivial,hasR [5,6,7] (show(List.range 5++[5,6,7]).Nodup by decide) Y ⟨Y,Y,Y,Y,trivial⟩ Y⟩
 rintro⟨ad,ki,wh⟩ -
 dsimp only
 refine S_join (ι:=Int×Int) (fun x=>True) (fun x=>[(0,.cp 0 0),(3,.cp 5 0),(4,.cp 6 0),(5,.cp 7 0)]) (fun x=>[.cell [.sl 4 (b.conf.masters.map MConf.r),.w (.int .i64 b.conf.quantum),.w (.int .i64 b.conf.maxWait),.w (.int .i64 b.conf.maxRetry),.w (.int .i64 b.conf.maxSplit),.w (.int .i64 b.conf.lockMost),.w (.int .i64 b.now),.ls 1 b.ms.length,.w (.int .i64 b.arb.pos),.w (.int .i64 b.arb.credit),.ls 2 b.buckets.length,.ls 3 b.splits.length,.w (.int .i64 b.holder),.w (.int .i64 b.kept),.w (.int .i64 b.last),.w (.bool b.addr.live),.w (.int .i64 b.addr.who),.w (.int .i64 b.addr.num),.w (.bool b.addr.first),.w (.int .i64 b.addr.via),.w (.int .i64 b.addr.left),.w (.int .i64 b.addr.resp),.w (.bool b.addr.second),.w (.bool b.data.live),.w (.int .i64 b.data.who),.w (.int .i64 b.data.num),.w (.bool b.data.first),.w (.int .i64 b.data.via),.w (.int .i64 b.data.left),.w (.int .i64 b.data.resp),.w (.bool b.data.second),.sl 1 (b.model.ram.map iR),.sl 1 (b.model.dev.regs.map iR),.w (.int .i64 b.model.dev.timer),.sl 1 (b.model.dev.fifo.map iR),.w (.int .i64 b.picks),.ls 4 b.log.length],.arr 6 (b.ms.map Mst.r),.arr 2 (b.buckets.map Bucket.r),.arr 1 (b.splits.map iR),.arr 7 (b.log.map Done.r),.cell s.r,.cell [.w (.int .i64 0),.w (.int .i64 0),.w (.int .i64 0),.w (.int .i64 0),.w (.int .i64 0),.w (.int .i64 0),.w (.bool false),.w (.int .i64 0),.w (.int .i64 0)],.cell [.w (.int .i64 b.now),.w (.int .i64 ad),.w (.int .i64 ki),.w (.int .i64 wh),.w (.int .i64 x.1),.w (.int .i64 x.2),.w (.bool true),.w (.int .i64 0),.w (.int .i64 (-1))]]) ?_ ?_
 refine Et (Ea Y (Fj Y (Ee Y (En Y Y Y (Fu Y Y (Eo (Er Y Y Y Y Y Y Y) (z_q [0,3,4,5,7] Y (Ee Y (Ej Y Y Y (Em [0,3,4,5,7,48] Y (s_condB Y ?_ ?_)))))))))))
 intro h4
 have hdl:b.data.live=true:=h4;have hwd:=hd hdl;obtain⟨m,hm⟩:=at_of hwd.1 hwd.2;have hms:m.small:=hf.small.2.2.1 m (List.mem_of_getElem? hm)
 refine s_rgH [7] Y (h_op (o_mv Y) Y (h_op (o_nilc Y) Y (h_op (o_faC Y) Y (h_op (o_ldC Y Y Y) Y (h_op (o_faC Y) Y (h_op (o_ldC Y Y Y) Y (h_op (o_iaL Y Y (by simp;done) Y (by omega)) Y ?_)))))))
 refine h_op (o_ldnA Y Y (by simp;done) (by exact mrow hm) Y) Y ?_
 refine h_op (o_faC Y) Y (h_op (o_ldC Y Y Y) Y (h_call Y Y (c_54 _ _ hms) Y (h_op (o_faC Y) Y (h_op (o_ldC Y Y Y) Y (h_op (o_faC Y) Y (h_sts Y Y Y Y (h_bar Y (Ek (is:=[0,3,4,5,61]) Y (Ee Y (Eo (o_stC Y Y Y Y Y Y) (Ez (Fp ?_))))))))))))
 ·exact⟨(_,_),trivial,hasR [5,6,7] (show(List.range 5++[5,6,7]).Nodup by decide) Y ⟨Y,Y,Y,Y,trivial⟩ Y⟩
 intro h4
 refine Fr (Fp ?_)
 ·exact⟨(_,_),trivial,hasR [5,6,7] (show(List.range 5++[5,6,7]).Nodup by decide) Y ⟨Y,Y,Y,Y,trivial⟩ Y⟩
 rintro⟨da,fr⟩ -
 dsimp only
 refine S_join (ι:=Bus) (fun x=>x=b.posted s∧x.fine) (fun x=>[(0,.cp 0 0),(3,.cp 5 0),(4,.cp 6 0),(5,.cp 7 0)]) (fun x=>[.cell [.sl 4 (x.conf.masters.map MConf.r),.w (.int .i64 x.conf.quantum),.w (.int .i64 x.conf.maxWait),.w (.int .i64 x.conf.maxRetry),.w (.int .i64 x.conf.maxSplit),.w (.int .i64 x.conf.lockMost),.w (.int .i64 x.now),.ls 1 x.ms.length,.w (.int .i64 x.arb.pos),.w (.int .i64 x.arb.credit),.ls 2 x.buckets.length,.ls 3 x.splits.length,.w (.int .i64 x.holder),.w (.int .i64 x.kept),.w (.int .i64 x.last),.w (.bool x.addr.live),.w (.int .i64 x.addr.who),.w (.int .i64 x.addr.num),.w (.bool x.addr.first),.w (.int .i64 x.addr.via),.w (.int .i64 x.addr.left),.w (.int .i64 x.addr.resp),.w (.bool x.addr.second),.w (.bool x.data.live),.w (.int .i64 x.data.who),.w (.int .i64 x.data.num),.w (.bool x.data.first),.w (.int .i64 x.data.via),.w (.int .i64 x.data.left),.w (.int .i64 x.data.resp),.w (.bool x.data.second),.sl 1 (x.model.ram.map iR),.sl 1 (x.model.dev.regs.map iR),.w (.int .i64 x.model.dev.timer),.sl 1 (x.model.dev.fifo.map iR),.w (.int .i64 x.picks),.ls 4 x.log.length],.arr 6 (x.ms.map Mst.r),.arr 2 (x.buckets.map Bucket.r),.arr 1 (x.splits.map iR),.arr 7 (x.log.map Done.r),.cell s.r,.cell [.w (.int .i64 0),.w (.int .i64 0),.w (.int .i64 0),.w (.int .i64 0),.w (.int .i64 0),.w (.int .i64 0),.w (.bool false),.w (.int .i64 0),.w (.int .i64 0)],.cell [.w (.int .i64 b.now),.w (.int .i64 ad),.w (.int .i64 ki),.w (.int .i64 wh),.w (.int .i64 da),.w (.int .i64 fr),.w (.bool true),.w (.int .i64 0),.w (.int .i64 (-1))]]) ?_ ?_
 refine Et (En Y Y Y (Ea Y (Fj Y (Ee Y (Ej Y Y Y (Ev Y Y (c_61 s hsm _) (Fw Y ?_)))))))
 refine Ea Y (Em [0,3,4,5,69,70,71] Y (Fh (S_loop (ι:=Nat×List Mst) (fun p=>PostI b (s.postsAt b.now) p.1 p.2) (fun p=>[(71,.w (.int .i64 (p.1:Int)))]) (fun p=>[.cell [.sl 4 (b.conf.masters.map MConf.r),.w (.int .i64 b.conf.quantum),.w (.int .i64 b.conf.maxWait),.w (.int .i64 b.conf.maxRetry),.w (.int .i64 b.conf.maxSplit),.w (.int .i64 b.conf.lockMost),.w (.int .i64 b.now),.ls 1 b.ms.length,.w (.int .i64 b.arb.pos),.w (.int .i64 b.arb.credit),.ls 2 b.buckets.length,.ls 3 b.splits.length,.w (.int .i64 b.holder),.w (.int .i64 b.kept),.w (.int .i64 b.last),.w (.bool b.addr.live),.w (.int .i64 b.addr.who),.w (.int .i64 b.addr.num),.w (.bool b.addr.first),.w (.int .i64 b.addr.via),.w (.int .i64 b.addr.left),.w (.int .i64 b.addr.resp),.w (.bool b.addr.second),.w (.bool b.data.live),.w (.int .i64 b.data.who),.w (.int .i64 b.data.num),.w (.bool b.data.first),.w (.int .i64 b.data.via),.w (.int .i64 b.data.left),.w (.int .i64 b.data.resp),.w (.bool b.data.second),.sl 1 (b.model.ram.map iR),.sl 1 (b.model.dev.regs.map iR),.w (.int .i64 b.model.dev.timer),.sl 1 (b.model.dev.fifo.map iR),.w (.int .i64 b.picks),.ls 4 b.log.length],.arr 6 (p.2.map Mst.r),.arr 2 (b.buckets.map Bucket.r),.arr 1 (b.splits.map iR),.arr 7 (b.log.map Done.r),.cell s.r,.cell [.w (.int .i64 0),.w (.int .i64 0),.w (.int .i64 0),.w (.int .i64 0),.w (.int .i64 0),.w (.int .i64 0),.w (.bool false),.w (.int .i64 0),.w (.int .i64 0)],.cell [.w (.int .i64 b.now),.w (.int .i64 ad),.w (.int .i64 ki),.w (.int .i64 wh),.w (.int .i64 da),.w (.int .i64 fr),.w (.bool true),.w (.int .i64 0),.w (.int .i64 (-1))]]) (fun p=>(s.postsAt b.now).length-p.1) 8 (0,b.ms) ⟨Nat.zero_le _,Y,hf.small.2.2.1,Y⟩ Y (hasOf ⟨Y,trivial⟩ Y) Y (fun _ _=>Y) (fun _ _=>⟨Y,Y⟩) ?_)))
 rintro⟨i,ms⟩ hI
 simp only at hI
 have hil:=hI.le
 have hml:=hI.len
 have hmlr:(ms.map Mst.r).length=b.ms.length:=by rw[List.length_map,hml]
 refine Ei [0,3,4,5,69,70,71] Y ?_
 dsimp only
 refine Et (u_lss Y Y (Em [0,3,4,5,69,70,71,72] Y (Ey (Ew Y ?_ ?_))))
 intro h6
 refine z_s [0,3,4,5,69,70,71] Y (Ey (Fh (Et (s_iaM Y Y (by omega) ?_))))
 intro y7 e7
 simp only[Int.toNat_natCast] at e7
 have hpo0:=post_in e7 hsm;obtain⟨y0,hy0⟩:∃ y,y=y7:=⟨_,rfl⟩;subst hy0;have hpo:y0.req.small:=hpo0
 refine u_ldn Y Y (Fu Y Y (Eo (Er Y Y Y Y Y Y Y) (z_q [0,3,4,5,9,69,70,71] Y (Ea Y (Fj Y (Ee Y (En Y Y Y (Ee Y (Ej Y Y Y (Ev Y Y (c_91 _ _ hf.small.1) (Em [0,3,4,5,9,69,70,71,81] Y (s_condB Y ?_ ?_))))))))))))
 intro h8
 have hin:inB y0.who 0 (b.conf.masters.length-1)=true:=h8;have hib:=inB_t hin;obtain⟨m1,hm1⟩:∃ y,ms[y0.who.toNat]?=some y:=at_of (by omega) (by have:=hf.lm;omega);have hms1:=hI.small m1 (List.mem_of_getElem? hm1)
 refine Fs (Ea Y (Fj Y (Ee Y (Ej Y Y Y (Ee Y (Ej Y Y Y (Ea Y (Fj Y (Ee Y (Ej Y Y Y (Ee Y ?_)))))))))))
 refine Ej Y Y Y (Fa (o_iaL Y Y (by omega) Y (by have:=hf.lm;omega)) ?_)
 refine u_ldnA Y Y (by omega) (by exact mrow hm1) Y (Ek (is:=[0,3,4,5,9,69,70,71,86,88,96]) Y (Ee Y (En Y Y Y (Ev Y Y (c_58 _ _ hms1 hpo) ?_))))
 refine Ea Y (u_ext Y Y (u_ext Y Y (Fa (o_iaL Y Y (by omega) Y (by have:=hf.lm;omega)) ?_)))
 refine Eo (o_stnA Y Y Y Y Y (by omega) (by exact mrow hm1) Y Y) (Ez (Fb (Eu (Ei [0,3,4,5,69,70,71] Y (Fs (Fa (Fn Y Y (by omega)) (Ea Y (Ez (Fp ?_)))))))))
 ·refine⟨(i+1,ms.set y0.who.toNat (m1.post y0.req).1),hI.yes (by assumption) (by assumption) hm1 (post_small hms1 hpo),by simp only;omega,hasOf ⟨rfl,trivial⟩ ?_⟩;simp only[List.map_set];rfl
 intro h8
 refine Fr (Fb (Eu (Ei [0,3,4,5,69,70,71] Y (Fs (Fa (Fn Y Y (by omega)) (Ea Y (Ez (Fp ?_))))))))
 ·exact⟨(i+1,ms),hI.no (by assumption) (by assumption),by simp only;omega,hasOf ⟨rfl,trivial⟩ rfl⟩
 intro h6
 refine s_exit (q_seqX (q_loopX (q_blkH (Fp ?_))))
 ·refine⟨({ b with ms:=ms }:Bus),⟨by unfold Bus.posted;rw[hI.eq,List.take_of_length_le (by omega)],posted_fine hf hml hI.small⟩,hasR [5,6,7] (show(List.range 5++[5,6,7]).Nodup by decide) Y ⟨Y,Y,Y,Y,trivial⟩ ?_⟩
  dsimp only
  rw[hml];rfl
 rintro b1 ⟨hb1,hf1⟩
 have hpos1:=conf_pos hf1.cok
 have hlm1:=hf1.lm
 have hlb1:=hf1.lb
 have hls1:=hf1.ls
 have hsm1:=hf1.small.2.1
 refine S_join (ι:=Bus) (fun x=>x=b1.ticked∧x.fine) (fun x=>[(0,.cp 0 0),(3,.cp 5 0),(4,.cp 6 0),(5,.cp 7 0)]) (fun x=>[.cell [.sl 4 (x.conf.masters.map MConf.r),.w (.int .i64 x.conf.quantum),.w (.int .i64 x.conf.maxWait),.w (.int .i64 x.conf.maxRetry),.w (.int .i64 x.conf.maxSplit),.w (.int .i64 x.conf.lockMost),.w (.int .i64 x.now),.ls 1 x.ms.length,.w (.int .i64 x.arb.pos),.w (.int .i64 x.arb.credit),.ls 2 x.buckets.length,.ls 3 x.splits.length,.w (.int .i64 x.holder),.w (.int .i64 x.kept),.w (.int .i64 x.last),.w (.bool x.addr.live),.w (.int .i64 x.addr.who),.w (.int .i64 x.addr.num),.w (.bool x.addr.first),.w (.int .i64 x.addr.via),.w (.int .i64 x.addr.left),.w (.int .i64 x.addr.resp),.w (.bool x.addr.second),.w (.bool x.data.live),.w (.int .i64 x.data.who),.w (.int .i64 x.data.num),.w (.bool x.data.first),.w (.int .i64 x.data.via),.w (.int .i64 x.data.left),.w (.int .i64 x.data.resp),.w (.bool x.data.second),.sl 1 (x.model.ram.map iR),.sl 1 (x.model.dev.regs.map iR),.w (.int .i64 x.model.dev.timer),.sl 1 (x.model.dev.fifo.map iR),.w (.int .i64 x.picks),.ls 4 x.log.length],.arr 6 (x.ms.map Mst.r),.arr 2 (x.buckets.map Bucket.r),.arr 1 (x.splits.map iR),.arr 7 (x.log.map Done.r),.cell s.r,.cell [.w (.int .i64 0),.w (.int .i64 0),.w (.int .i64 0),.w (.int .i64 0),.w (.int .i64 0),.w (.int .i64 0),.w (.bool false),.w (.int .i64 0),.w (.int .i64 0)],.cell [.w (.int .i64 b.now),.w (.int .i64 ad),.w (.int .i64 ki),.w (.int .i64 wh),.w (.int .i64 da),.w (.int .i64 fr),.w (.bool true),.w (.int .i64 0),.w (.int .i64 (-1))]]) ?_ ?_
 refine Et (Ea Y (Fj Y (Ee Y (Ej Y Y Y (u_lenL Y Y (by simp;done) (Ea Y (Em [0,3,4,5,107,108,109] Y (Fh ?_))))))))
 refine S_loop (ι:=Nat×List Bucket×List Int) (fun p=>TickI b1 p.1 p.2.1 p.2.2) (fun p=>[(109,.w (.int .i64 (p.1:Int)))]) (fun p=>[.cell [.sl 4 (b1.conf.masters.map MConf.r),.w (.int .i64 b1.conf.quantum),.w (.int .i64 b1.conf.maxWait),.w (.int .i64 b1.conf.maxRetry),.w (.int .i64 b1.conf.maxSplit),.w (.int .i64 b1.conf.lockMost),.w (.int .i64 b1.now),.ls 1 b1.ms.length,.w (.int .i64 b1.arb.pos),.w (.int .i64 b1.arb.credit),.ls 2 b1.buckets.length,.ls 3 b1.splits.length,.w (.int .i64 b1.holder),.w (.int .i64 b1.kept),.w (.int .i64 b1.last),.w (.bool b1.addr.live),.w (.int .i64 b1.addr.who),.w (.int .i64 b1.addr.num),.w (.bool b1.addr.first),.w (.int .i64 b1.addr.via),.w (.int .i64 b1.addr.left),.w (.int .i64 b1.addr.resp),.w (.bool b1.addr.second),.w (.bool b1.data.live),.w (.int .i64 b1.data.who),.w (.int .i64 b1.data.num),.w (.bool b1.data.first),.w (.int .i64 b1.data.via),.w (.int .i64 b1.data.left),.w (.int .i64 b1.data.resp),.w (.bool b1.data.second),.sl 1 (b1.model.ram.map iR),.sl 1 (b1.model.dev.regs.map iR),.w (.int .i64 b1.model.dev.timer),.sl 1 (b1.model.dev.fifo.map iR),.w (.int .i64 b1.picks),.ls 4 b1.log.length],.arr 6 (b1.ms.map Mst.r),.arr 2 (p.2.1.map Bucket.r),.arr 1 (p.2.2.map iR),.arr 7 (b1.log.map Done.r),.cell s.r,.cell [.w (.int .i64 0),.w (.int .i64 0),.w (.int .i64 0),.w (.int .i64 0),.w (.int .i64 0),.w (.int .i64 0),.w (.bool false),.w (.int .i64 0),.w (.int .i64 0)],.cell [.w (.int .i64 b.now),.w (.int .i64 ad),.w (.int .i64 ki),.w (.int .i64 wh),.w (.int .i64 da),.w (.int .i64 fr),.w (.bool true),.w (.int .i64 0),.w (.int .i64 (-1))]]) (fun p=>b1.ms.length-p.1) 8 (0,b1.buckets,b1.splits) (TickI.start hf1) Y (hasOf ⟨Y,trivial⟩ Y) Y (fun _ _=>Y) (fun _ _=>⟨Y,Y⟩) ?_
 rintro⟨i,bs,sp⟩ hT
 simp only at hT
 have hil:=hT.le
 have hlbs:=hT.lb
 have hlsp:=hT.ls
 have hbr:(bs.map Bucket.r).length=b1.buckets.length:=by rw[List.length_map];omega
 have hsr:(sp.map iR).length=b1.splits.length:=by rw[List.length_map];omega
 have hB:i<b1.ms.length→bs[i]?=some (bAt b1 i):=fun h=>by rw[hT.hb i h,if_neg (by omega)]
 have hS:i<b1.ms.length→sp[i]?=some (sAt b1 i):=fun h=>by rw[hT.hs i h,if_neg (by omega)]
 obtain⟨mc,hmc⟩:=at_lt b1.conf.masters i (by omega)
 have hci:i<b1.ms.length→cAt b1 (i:Int)=mc:=fun h=>cAt_of (by rw[Int.toNat_natCast];exact hmc (by omega))
 refine Ei [0,3,4,5,107,108,109] Y ?_
 dsimp only
 refine Et (u_lss Y Y (Em [0,3,4,5,107,108,109,110] Y (Ey (Ew Y ?_ ?_))))
 intro h11
 refine z_s [0,3,4,5,107,108,109] Y (Ey (Fh (Et (Ea Y (Fa (o_iaL Y Y (by omega) Y (by omega)) ?_)))))
 refine u_ldA Y Y (by omega) (by rw[Int.toNat_natCast,List.getElem?_map,hS (by omega)];rfl) Y ?_
 refine Ea Y (Ea Y (z_q [0,3,4,5,10,11,107,108,109] Y (Ea Y (Fj Y (Ee Y (Ej Y Y Y (Ea Y (Ea Y (u_sub Y Y (Fa (o_mx Y) ?_))))))))))
 rw[maxL_0]
 refine Fa (o_iaL Y Y (by omega) Y (by omega)) ?_
 refine Eo (o_stA Y Y Y Y (by omega) (by rw[Int.toNat_natCast,List.getElem?_map,hS (by omega)];rfl) Y Y) ?_
 refine Em [0,3,4,5,10,107,108,109] Y (Fs (Ea Y (Fj Y (Ee Y (Ej Y Y Y (Ea Y (Ea Y (Fj Y (Ee Y (Ej Y Y Y (Ea Y (Fa (o_iaL Y Y (by omega) Y (by omega)) ?_))))))))))))
 refine u_ldnA Y Y (by omega) (by rw[Int.toNat_natCast,List.getElem?_map,hB (by omega)];rfl) Y ?_
 refine Ea Y (Fj Y (Ek (is:=[0,3,4,5,10,107,108,109,126,127,134,136]) Y (Ee Y (Ee Y (Ej Y Y Y (Ea Y (s_iaM Y Y (by omega) ?_)))))))
 intro y15 e15
 simp only[Int.toNat_natCast] at e15
 have hQ:=(hmc (by omega)).symm.trans e15;cases hQ
 refine u_ldn Y Y (Ev Y Y (cm_28 _ _ (hf1.tiny mc (List.mem_of_getElem? (hmc (by omega))))) (Fa (o_iaL Y Y (by omega) Y (by omega)) ?_))
 refine Eo (o_stnA Y Y Y Y Y (by omega) (by rw[Int.toNat_natCast,List.getElem?_map,hB (by omega)];rfl) Y Y) ?_
 refine Ez (Fb (Eu (Ei [0,3,4,5,107,108,109] Y (Fs (Fa (Fn Y Y (by omega)) (Ea Y (Ez (Fp ?_))))))))
 ·refine⟨(i+1,bs.set i ((bAt b1 i).tick (cAt b1 i)),sp.set i (down1 (sAt b1 i))),hT.next (by omega),by simp only;omega,hasOf ⟨rfl,trivial⟩ ?_⟩;simp only[List.map_set,hci (show i<b1.ms.length by omega)];rfl
 intro h11
 refine s_exit (q_seqX (q_loopX (q_blkH (Fp ?_))))
 ·refine⟨({ b1 with buckets:=bs,splits:=sp }:Bus),⟨hT.done (by omega),by rw[hT.done (by omega)];exact ticked_fine hf1⟩,hasR [5,6,7] (show(List.range 5++[5,6,7]).Nodup by decide) Y ⟨Y,Y,Y,Y,trivial⟩ ?_⟩
  dsimp only
  rw[show b1.buckets.length=bs.length by omega,show b1.splits.length=sp.length by omega];rfl
 rintro b2 ⟨hb2,hf2⟩
 refine S_join (ι:=Bus) (fun x=>x=b2.aged∧x.fine) (fun x=>[(0,.cp 0 0),(3,.cp 5 0),(4,.cp 6 0),(5,.cp 7 0)]) (fun x=>[.cell [.sl 4 (x.conf.masters.map MConf.r),.w (.int .i64 x.conf.quantum),.w (.int .i64 x.conf.maxWait),.w (.int .i64 x.conf.maxRetry),.w (.int .i64 x.conf.maxSplit),.w (.int .i64 x.conf.lockMost),.w (.int .i64 x.now),.ls 1 x.ms.length,.w (.int .i64 x.arb.pos),.w (.int .i64 x.arb.credit),.ls 2 x.buckets.length,.ls 3 x.splits.length,.w (.int .i64 x.holder),.w (.int .i64 x.kept),.w (.int .i64 x.last),.w (.bool x.addr.live),.w (.int .i64 x.addr.who),.w (.int .i64 x.addr.num),.w (.bool x.addr.first),.w (.int .i64 x.addr.via),.w (.int .i64 x.addr.left),.w (.int .i64 x.addr.resp),.w (.bool x.addr.second),.w (.bool x.data.live),.w (.int .i64 x.data.who),.w (.int .i64 x.data.num),.w (.bool x.data.first),.w (.int .i64 x.data.via),.w (.int .i64 x.data.left),.w (.int .i64 x.data.resp),.w (.bool x.data.second),.sl 1 (x.model.ram.map iR),.sl 1 (x.model.dev.regs.map iR),.w (.int .i64 x.model.dev.timer),.sl 1 (x.model.dev.fifo.map iR),.w (.int .i64 x.picks),.ls 4 x.log.length],.arr 6 (x.ms.map Mst.r),.arr 2 (x.buckets.map Bucket.r),.arr 1 (x.splits.map iR),.arr 7 (x.log.map Done.r),.cell s.r,.cell [.w (.int .i64 0),.w (.int .i64 0),.w (.int .i64 0),.w (.int .i64 0),.w (.int .i64 0),.w (.int .i64 0),.w (.bool false),.w (.int .i64 0),.w (.int .i64 0)],.cell [.w (.int .i64 b.now),.w (.int .i64 ad),.w (.int .i64 ki),.w (.int .i64 wh),.w (.int .i64 da),.w (.int .i64 fr),.w (.bool true),.w (.int .i64 0),.w (.int .i64 (-1))]]) ?_ ?_
 refine Et (Ea Y (Fj Y (Ee Y (Ej Y Y Y (u_neq Y Y (Em [0,3,4,5,150] Y (Ew Y ?_ ?_)))))))
 intro h17
 refine Fs (Ea Y (Ea Y (Fj Y (Ee Y (Ej Y Y Y (u_add Y Y (Ea Y (Fj Y (Ee Y (Ee Y (Ej Y Y Y (u_mn Y (Fj Y (Ee Y (Eo (o_stC Y Y Y Y Y Y) (Ez (Fp ?_)))))))))))))))))
 ·have e:({ b2 with kept:=minL (IntKind.wrap .i64 (b2.kept+1)) [b2.conf.lockMost] }:Bus)=b2.aged:=(by unfold Bus.aged;rw[if_neg (by assumption)]);exact⟨_,⟨e,⟨hf2.small,hf2.cok,hf2.tiny,hf2.lm,hf2.lb,hf2.ls⟩⟩,hasR [5,6,7] (show(List.range 5++[5,6,7]).Nodup by decide) Y ⟨Y,Y,Y,Y,trivial⟩ Y⟩
 intro h17
 rw[nnp] at h17
 refine Fr (Fp ?_)
 ·have e:b2=b2.aged:=(by unfold Bus.aged;rw[if_pos (by assumption)]);exact⟨b2,⟨e,hf2⟩,hasR [5,6,7] (show(List.range 5++[5,6,7]).Nodup by decide) Y ⟨Y,Y,Y,Y,trivial⟩ Y⟩
 rintro b3 ⟨hb3,hf3⟩
 have hpre:b.pre s=b3:=by rw[hb3,hb2,hb1];rfl
 rw[hpre] at h3d h3a
 obtain⟨b4,rdy,st,hfi⟩:∃ x y z,b3.finish s=(x,y,z):=⟨_,_,_,rfl⟩
 refine S_join (ι:=Int) (fun x=>True) (fun x=>[(0,.cp 0 0),(3,.cp 5 0),(4,.cp 6 0),(5,.cp 7 0)]) (fun x=>[.cell [.sl 4 (b4.conf.masters.map MConf.r),.w (.int .i64 b4.conf.quantum),.w (.int .i64 b4.conf.maxWait),.w (.int .i64 b4.conf.maxRetry),.w (.int .i64 b4.conf.maxSplit),.w (.int .i64 b4.conf.lockMost),.w (.int .i64 b4.now),.ls 1 b4.ms.length,.w (.int .i64 b4.arb.pos),.w (.int .i64 b4.arb.credit),.ls 2 b4.buckets.length,.ls 3 b4.splits.length,.w (.int .i64 b4.holder),.w (.int .i64 b4.kept),.w (.int .i64 b4.last),.w (.bool b4.addr.live),.w (.int .i64 b4.addr.who),.w (.int .i64 b4.addr.num),.w (.bool b4.addr.first),.w (.int .i64 b4.addr.via),.w (.int .i64 b4.addr.left),.w (.int .i64 b4.addr.resp),.w (.bool b4.addr.second),.w (.bool b4.data.live),.w (.int .i64 b4.data.who),.w (.int .i64 b4.data.num),.w (.bool b4.data.first),.w (.int .i64 b4.data.via),.w (.int .i64 b4.data.left),.w (.int .i64 b4.data.resp),.w (.bool b4.data.second),.sl 1 (b4.model.ram.map iR),.sl 1 (b4.model.dev.regs.map iR),.w (.int .i64 b4.model.dev.timer),.sl 1 (b4.model.dev.fifo.map iR),.w (.int .i64 b4.picks),.ls 4 b4.log.length],.arr 6 (b4.ms.map Mst.r),.arr 2 (b4.buckets.map Bucket.r),.arr 1 (b4.splits.map iR),.arr 7 (b4.log.map Done.r),.cell s.r,.cell [.w (.int .i64 0),.w (.int .i64 0),.w (.int .i64 0),.w (.int .i64 0),.w (.int .i64 0),.w (.int .i64 0),.w (.bool false),.w (.int .i64 0),.w (.int .i64 0)],.cell [.w (.int .i64 b.now),.w (.int .i64 ad),.w (.int .i64 ki),.w (.int .i64 wh),.w (.int .i64 da),.w (.int .i64 fr),.w (.bool rdy),.w (.int .i64 x),.w (.int .i64 (-1))]]) ?_ ?_
 refine Fs (Ea Y (En Y Y Y (s_callB [0,1,2,3,4,7] Y Y Y Y (by decide) (cb_6y hfi _ _ _ _ _ _ _ _ _ hf3 hsw h3d h3a) ?_)))
 rintro u L1 ⟨rfl,rfl⟩
 refine⟨_,_,_,Y,Y,Y,?_⟩
 refine Ee Y (Eo (o_stC Y Y Y Y Y Y) (Ez (Fp ?_)))
 ·exact⟨_,trivial,hasR [5,6,7] (show(List.range 5++[5,6,7]).Nodup by decide) Y ⟨Y,Y,Y,Y,trivial⟩ Y⟩
 rintro rs -
 obtain⟨hf4,hh4,ha4⟩:=h4 b4 rdy st (by rw[hpre];exact hfi)
 refine S_join (ι:=Bus×Int) (fun x=>x=b4.next rdy s) (fun x=>[(0,.cp 0 0),(3,.cp 5 0),(4,.cp 6 0),(5,.cp 7 0)]) (fun x=>[.cell [.sl 4 (x.1.conf.masters.map MConf.r),.w (.int .i64 x.1.conf.quantum),.w (.int .i64 x.1.conf.maxWait),.w (.int .i64 x.1.conf.maxRetry),.w (.int .i64 x.1.conf.maxSplit),.w (.int .i64 x.1.conf.lockMost),.w (.int .i64 x.1.now),.ls 1 x.1.ms.length,.w (.int .i64 x.1.arb.pos),.w (.int .i64 x.1.arb.credit),.ls 2 x.1.buckets.length,.ls 3 x.1.splits.length,.w (.int .i64 x.1.holder),.w (.int .i64 x.1.kept),.w (.int .i64 x.1.last),.w (.bool x.1.addr.live),.w (.int .i64 x.1.addr.who),.w (.int .i64 x.1.addr.num),.w (.bool x.1.addr.first),.w (.int .i64 x.1.addr.via),.w (.int .i64 x.1.addr.left),.w (.int .i64 x.1.addr.resp),.w (.bool x.1.addr.second),.w (.bool x.1.data.live),.w (.int .i64 x.1.data.who),.w (.int .i64 x.1.data.num),.w (.bool x.1.data.first),.w (.int .i64 x.1.data.via),.w (.int .i64 x.1.data.left),.w (.int .i64 x.1.data.resp),.w (.bool x.1.data.second),.sl 1 (x.1.model.ram.map iR),.sl 1 (x.1.model.dev.regs.map iR),.w (.int .i64 x.1.model.dev.timer),.sl 1 (x.1.model.dev.fifo.map iR),.w (.int .i64 x.1.picks),.ls 4 x.1.log.length],.arr 6 (x.1.ms.map Mst.r),.arr 2 (x.1.buckets.map Bucket.r),.arr 1 (x.1.splits.map iR),.arr 7 (x.1.log.map Done.r),.cell s.r,.cell [.w (.int .i64 0),.w (.int .i64 0),.w (.int .i64 0),.w (.int .i64 0),.w (.int .i64 0),.w (.int .i64 0),.w (.bool false),.w (.int .i64 0),.w (.int .i64 0)],.cell [.w (.int .i64 b.now),.w (.int .i64 ad),.w (.int .i64 ki),.w (.int .i64 wh),.w (.int .i64 da),.w (.int .i64 fr),.w (.bool rdy),.w (.int .i64 rs),.w (.int .i64 x.2)]]) ?_ ?_
 refine Et (Ee Y (Ej Y Y Y (Em [0,3,4,5,170] Y (s_condB Y ?_ ?_))))
 intro h18
 refine S_join (ι:=Bus) (fun x=>x=b4.unlocked∧x.fine) (fun x=>[(0,.cp 0 0),(3,.cp 5 0),(4,.cp 6 0),(5,.cp 7 0)]) (fun x=>[.cell [.sl 4 (x.conf.masters.map MConf.r),.w (.int .i64 x.conf.quantum),.w (.int .i64 x.conf.maxWait),.w (.int .i64 x.conf.maxRetry),.w (.int .i64 x.conf.maxSplit),.w (.int .i64 x.conf.lockMost),.w (.int .i64 x.now),.ls 1 x.ms.length,.w (.int .i64 x.arb.pos),.w (.int .i64 x.arb.credit),.ls 2 x.buckets.length,.ls 3 x.splits.length,.w (.int .i64 x.holder),.w (.int .i64 x.kept),.w (.int .i64 x.last),.w (.bool x.addr.live),.w (.int .i64 x.addr.who),.w (.int .i64 x.addr.num),.w (.bool x.addr.first),.w (.int .i64 x.addr.via),.w (.int .i64 x.addr.left),.w (.int .i64 x.addr.resp),.w (.bool x.addr.second),.w (.bool x.data.live),.w (.int .i64 x.data.who),.w (.int .i64 x.data.num),.w (.bool x.data.first),.w (.int .i64 x.data.via),.w (.int .i64 x.data.left),.w (.int .i64 x.data.resp),.w (.bool x.data.second),.sl 1 (x.model.ram.map iR),.sl 1 (x.model.dev.regs.map iR),.w (.int .i64 x.model.dev.timer),.sl 1 (x.model.dev.fifo.map iR),.w (.int .i64 x.picks),.ls 4 x.log.length],.arr 6 (x.ms.map Mst.r),.arr 2 (x.buckets.map Bucket.r),.arr 1 (x.splits.map iR),.arr 7 (x.log.map Done.r),.cell s.r,.cell [.w (.int .i64 0),.w (.int .i64 0),.w (.int .i64 0),.w (.int .i64 0),.w (.int .i64 0),.w (.int .i64 0),.w (.bool false),.w (.int .i64 0),.w (.int .i64 0)],.cell [.w (.int .i64 b.now),.w (.int .i64 ad),.w (.int .i64 ki),.w (.int .i64 wh),.w (.int .i64 da),.w (.int .i64 fr),.w (.bool rdy),.w (.int .i64 rs),.w (.int .i64 (-1))]]) ?_ ?_
 refine Et (Ea Y (Fj Y (Ee Y (Ej Y Y Y (u_neq Y Y (Ea Y (Ft Y ?_ ?_)))))))
 intro h19
 have hnh:¬ b4.holder=-1:=h19;obtain⟨mh,hmh⟩:=at_of (xs:=b4.ms) (k:=b4.holder) (by omega) (by omega);have hmhm:=mAt_of hmh
 refine Ea Y (Ec Y (Fj Y (Ec Y (Ee Y (Ec Y (Ej Y Y Y (Ec Y (Ea Y (Ec Y (Fj Y (Ec Y (Ee Y (Ec Y (Ee Y (Ek (is:=[0,3,4,5,176,180,184]) Y (Ec Y (Ej Y Y Y (Ec Y (Fm Y Y (Eg Y Y (Em [0,3,4,5,187] Y (Ew Y ?_ ?_))))))))))))))))))))))
 intro h20
 refine Et (Ea Y (Fj Y (Ee Y (Ej Y Y Y (Ea Y (Fj Y (Ee Y (Ej Y Y Y (Fa (o_iaL Y Y (by simp;done) Y (by omega)) (u_faA Y Y (by simp;done) ?_))))))))))
 refine Eo (o_stA Y Y Y Y (by simp;done) (by exact mrow hmh) Y Y) ?_
 refine Em [0,3,4,5] Y (Fs ?_)
 rw[set_brk hmhm,show b4.ms.length=(b4.ms.set b4.holder.toNat (mAt b4 b4.holder).broke).length from(List.length_set ..).symm]
 refine Ea Y (s_callB [0,1,2,3,4] Y Y Y Y (by decide) (cb_7 ({ b4 with ms:=b4.ms.set b4.holder.toNat (mAt b4 b4.holder).broke }:Bus)) ?_)
 rintro u L1 ⟨rfl,rfl⟩
 refine⟨_,_,_,Y,Y,Y,?_⟩
 refine Ez (Fp ?_)
 rotate_left
 intro h20
 refine Fr (Fp ?_)
 rotate_left
 intro h19
 rw[nnp] at h19
 iterate 8 refine Eb rfl ?_
 refine Ek (is:=[0,3,4,5,176,180,184]) Y (Eb Y (Eb Y (Ed Y Y (Em [0,3,4,5,187] Y (Fi Y (Fr (Fp ?_)))))))
 rotate_left
 rintro b5 ⟨hb5,hf5⟩
 obtain⟨hu1,hu2,hu3⟩:=unlocked_same b4
 rw[←hb5] at hu1 hu2 hu3
 have ha5:b5.addr.live=true→0≤b5.addr.who∧b5.addr.who<b5.ms.length:=by rw[hu1,hu2];exact ha4
 have hc5:=mw_of hf5.cok
 refine S_join (ι:=Bus) (fun x=>x=b5.moved s∧x.fine) (fun x=>[(0,.cp 0 0),(3,.cp 5 0),(4,.cp 6 0),(5,.cp 7 0)]) (fun x=>[.cell [.sl 4 (x.conf.masters.map MConf.r),.w (.int .i64 x.conf.quantum),.w (.int .i64 x.conf.maxWait),.w (.int .i64 x.conf.maxRetry),.w (.int .i64 x.conf.maxSplit),.w (.int .i64 x.conf.lockMost),.w (.int .i64 x.now),.ls 1 x.ms.length,.w (.int .i64 x.arb.pos),.w (.int .i64 x.arb.credit),.ls 2 x.buckets.length,.ls 3 x.splits.length,.w (.int .i64 x.holder),.w (.int .i64 x.kept),.w (.int .i64 x.last),.w (.bool x.addr.live),.w (.int .i64 x.addr.who),.w (.int .i64 x.addr.num),.w (.bool x.addr.first),.w (.int .i64 x.addr.via),.w (.int .i64 x.addr.left),.w (.int .i64 x.addr.resp),.w (.bool x.addr.second),.w (.bool x.data.live),.w (.int .i64 x.data.who),.w (.int .i64 x.data.num),.w (.bool x.data.first),.w (.int .i64 x.data.via),.w (.int .i64 x.data.left),.w (.int .i64 x.data.resp),.w (.bool x.data.second),.sl 1 (x.model.ram.map iR),.sl 1 (x.model.dev.regs.map iR),.w (.int .i64 x.model.dev.timer),.sl 1 (x.model.dev.fifo.map iR),.w (.int .i64 x.picks),.ls 4 x.log.length],.arr 6 (x.ms.map Mst.r),.arr 2 (x.buckets.map Bucket.r),.arr 1 (x.splits.map iR),.arr 7 (x.log.map Done.r),.cell s.r,.cell [.w (.int .i64 0),.w (.int .i64 0),.w (.int .i64 0),.w (.int .i64 0),.w (.int .i64 0),.w (.int .i64 0),.w (.bool false),.w (.int .i64 0),.w (.int .i64 0)],.cell [.w (.int .i64 b.now),.w (.int .i64 ad),.w (.int .i64 ki),.w (.int .i64 wh),.w (.int .i64 da),.w (.int .i64 fr),.w (.bool rdy),.w (.int .i64 rs),.w (.int .i64 (-1))]]) ?_ ?_
 refine Et (Ea Y (Fj Y (Ee Y (En Y Y Y (Fu Y Y (Eo (Er Y Y Y Y Y Y Y) (z_q [0,3,4,5,12] Y (Ee Y (Ej Y Y Y (Em [0,3,4,5,12,205] Y (s_condB Y ?_ ?_)))))))))))
 intro h22
 have hal5:b5.addr.live=true:=h22;have hw5:=ha5 hal5
 refine Et (Ea Y (En Y Y Y (En Y Y Y (s_callL Y Y (by simp) (c_1 b5 s b5.addr hf5.small hw5 hc5) Y (Ea Y (u_ext Y Y (u_ext Y Y (Ee Y (Eo (o_stC Y Y Y Y Y Y) (Ee Y (Eo (o_stC Y Y Y Y Y Y) (z_q [0,3,4,5,12] Y (Ea Y (Ea Y (En Y Y Y (u_bd Y Y (Fj Y (Ee Y ?_))))))))))))))))))
 refine Eo (Er Y Y Y Y Y Y Y) (Fj Y (Ee Y (Eo (Er Y Y Y Y Y Y Y) (Em [0,3,4,5] Y (Fs (Ea Y (Fj Y (Ee Y (Ej Y Y Y (u_add Y Y (Fj Y (Ee Y (Eo (o_stC Y Y Y Y Y Y) (Ez (Fp ?_)))))))))))))))
 ·have e:({ b5 with data:=⟨b5.addr.live,b5.addr.who,b5.addr.num,b5.addr.first,b5.addr.via,(b5.answer s b5.addr).2,(b5.answer s b5.addr).1,b5.addr.second⟩,addr:=beat0,picks:=IntKind.wrap .i64 (b5.picks+1) }:Bus)=b5.moved s:=(by unfold Bus.moved;rw[if_pos (by assumption)]);exact⟨_,⟨e,⟨hf5.small,hf5.cok,hf5.tiny,hf5.lm,hf5.lb,hf5.ls⟩⟩,hasR [5,6,7] (show(List.range 5++[5,6,7]).Nodup by decide) Y ⟨Y,Y,Y,Y,trivial⟩ Y⟩
 intro h22
 refine Fr (Fp ?_)
 ·have hno:b5.addr.live=false:=(by assumption);have e:b5=b5.moved s:=(by unfold Bus.moved;exact(if_neg (by simp [hno])).symm);exact⟨b5,⟨e,hf5⟩,hasR [5,6,7] (show(List.range 5++[5,6,7]).Nodup by decide) Y ⟨Y,Y,Y,Y,trivial⟩ Y⟩
 rintro b6 ⟨hb6,hf6⟩
 obtain⟨hv1,hv2⟩:=moved_same b5 s
 rw[←hb6] at hv1 hv2
 have hh6:b6.holder=-1∨(0≤b6.holder∧b6.holder<b6.ms.length):=by
  rw[hv2,hv1,hu2]
  rcases hu3 with h|h
  ·exact .inl h
  ·rw[h];exact hh4
 refine Fs (Ea Y (s_callB [0,1,2,3,4] Y Y Y Y (by decide) (cb_8 b6 hf6 hh6) ?_))
 rintro u L1 ⟨rfl,rfl⟩
 refine⟨_,_,_,Y,Y,Y,?_⟩
 refine Ee Y (Eo (o_stC Y Y Y Y Y Y) (Ez (Fp ?_)))
 ·have hyr:rdy=true:=(by assumption);exact⟨b6.grant,by unfold Bus.next;rw[if_pos hyr,hb6,hb5],hasR [5,6,7] (show(List.range 5++[5,6,7]).Nodup by decide) rfl ⟨rfl,rfl,rfl,rfl,trivial⟩ rfl⟩
 intro h18
 refine Fr (Fp ?_)
 ·have hr0:rdy=false:=(by assumption);have hnr:¬ rdy=true:=(by rw[hr0];exact Bool.false_ne_true);exact⟨(b4,-1),by unfold Bus.next;rw[if_neg hnr],hasR [5,6,7] (show(List.range 5++[5,6,7]).Nodup by decide) rfl ⟨rfl,rfl,rfl,rfl,trivial⟩ rfl⟩
 rintro⟨b7,got⟩ hb7
 dsimp only
 have hst:b.step s=({ b7 with now:=IntKind.wrap .i64 (b7.now+1) },got):=by
  unfold Bus.step
  rw[hpre,hfi,←hb7]
 refine Et (Ea Y (Fj Y (Ee Y (Ej Y Y Y (u_add Y Y (Fj Y (Ee Y (Eo (o_stC Y Y Y Y Y Y) (z_q [4,5] Y (En Y Y Y (Eo (Er Y Y Y Y Y Y Y) (Em [4] Y (Eh ?_)))))))))))))
 ·refine retB_leaf [] (.inr Y) Y Y Y Y (show(List.range 5++[]).Nodup by decide) ?_
  rw[hst];exact⟨⟨_,_,_,_,_,_,_,Y⟩,Y⟩
 all_goals
  first|(have e:b4=b4.unlocked:=(by unfold Bus.unlocked;rw[if_neg (by omega)]);exact⟨b4,⟨e,hf4⟩,hasR [5,6,7] (show(List.range 5++[5,6,7]).Nodup by decide) Y ⟨Y,Y,Y,Y,trivial⟩ Y⟩)|(have e:({ b4 with ms:=b4.ms.set b4.holder.toNat (mAt b4 b4.holder).broke }:Bus).freed=b4.unlocked:=(by unfold Bus.unlocked;exact(if_pos (by constructor <;> assumption)).symm);exact⟨_,⟨e,by rw[e];exact unlocked_fine hf4⟩,hasR [5,6,7] (show(List.range 5++[5,6,7]).Nodup by decide) Y ⟨Y,Y,Y,Y,trivial⟩ Y⟩)
theorem cg_254 (xs:List Bucket) (hl:xs.length≤1048576):GV prg 254 [] [.sl 2 (xs.map Bucket.r)] (fun u L1=>u=.ls 0 xs.length∧L1=[.arr 2 (xs.map Bucket.r)]):=by
 refine gv_in g254 (Ei [0] Y (Et (Ea Y (Em [0] Y (Ey (Et (Ea Y (s_eqnilS Y ?_ ?_))))))))
 refine Em [0,4] Y (Fi Y (z_s [0] Y (Et (Fa (o_bs Y Y Y Y) (Ea Y ?_)))))
 refine Fa (o_app Y Y Y Y Y (by simp [roomy];omega)) ?_
 refine Ea Y (Em [2] Y (Eh ?_))
 rotate_left
 intro hnil
 refine Em [0,4] Y (Fd Y (Et (Ea Y (Em [2] Y (s_nil 2 2 Y ⟨Y,Y⟩ Y (Eh (Ep ?_)))))))
 rotate_left
 all_goals
  refine Fv [0] (.inr Y) Y Y Y Y (show(List.range 0++[0]).Nodup by decide) ?_
  first|(have:xs=[]:=List.map_eq_nil_iff.1 hnil
         subst this;exact⟨Y,Y⟩)|exact⟨by simp,rfl⟩
theorem cg_95 (b:Bus) (hs:b.small):GV prg 95 [] [.agg b.r] (fun u L1=>u=.agg [.sl 4 (b.conf.masters.map MConf.r),.w (.int .i64 b.conf.quantum),.w (.int .i64 b.conf.maxWait),.w (.int .i64 b.conf.maxRetry),.w (.int .i64 b.conf.maxSplit),.w (.int .i64 b.conf.lockMost),.w (.int .i64 b.now),.ls 0 b.ms.length,.w (.int .i64 b.arb.pos),.w (.int .i64 b.arb.credit),.ls 1 b.buckets.length,.ls 2 b.splits.length,.w (.int .i64 b.holder),.w (.int .i64 b.kept),.w (.int .i64 b.last),.w (.bool b.addr.live),.w (.int .i64 b.addr.who),.w (.int .i64 b.addr.num),.w (.bool b.addr.first),.w (.int .i64 b.addr.via),.w (.int .i64 b.addr.left),.w (.int .i64 b.addr.resp),.w (.bool b.addr.second),.w (.bool b.data.live),.w (.int .i64 b.data.who),.w (.int .i64 b.data.num),.w (.bool b.data.first),.w (.int .i64 b.data.via),.w (.int .i64 b.data.left),.w (.int .i64 b.data.resp),.w (.bool b.data.second),.sl 1 (b.model.ram.map iR),.sl 1 (b.model.dev.regs.map iR),.w (.int .i64 b.model.dev.timer),.sl 1 (b.model.dev.fifo.map iR),.w (.int .i64 b.picks),.ls 3 b.log.length]∧L1=[.arr 6 (b.ms.map Mst.r),.arr 2 (b.buckets.map Bucket.r),.arr 1 (b.splits.map iR),.arr 7 (b.log.map Done.r)]):=by
 obtain⟨hs1,hs2,hs3,hs4,hs5,hs6,hs7⟩:=hs
 refine gv_in g95 (Ei [0] Y (Et (u_box Y Y Y (Fu Y Y (z_q [1,2] Y (Ee Y ?_))))))
 refine En Y Y Y (Fg [] Y Y Y Y (by simp) (.inl Y) (cg_96 _ (by have:=hs1;unfold Conf.small at this;omega)) ?_)
 rintro u L1 ⟨rfl,rfl⟩
 refine⟨_,_,Y,Y,?_⟩
 refine s_frz 2 8 Y (by simp) Y Y (by simp) Y (Ee Y (Eo (Er Y Y Y Y Y Y Y) (z_q [1,2] Y (Fa (o_bs Y Y Y Y) (Ea Y (Em [1,2,3] Y (Ey (Et (Ee Y (Ej Y Y Y (Fw Y ?_)))))))))))
 refine Ea Y (Em [1,2,3,12,13,14] Y (Fh (S_loop (ι:=Nat) (fun p=>p≤b.ms.length) (fun p=>[(14,.w (.int .i64 (p:Int))),(3,.ls 3 ((b.ms.take p).map Mst.r).length)]) (fun p=>[.cell b.r,.cell [.w (.slice none 0 0),.w (.int .i64 0),.w (.int .i64 0),.w (.int .i64 0),.w (.int .i64 0),.w (.int .i64 0),.w (.int .i64 0),.w (.slice none 0 0),.w (.int .i64 0),.w (.int .i64 0),.w (.slice none 0 0),.w (.slice none 0 0),.w (.int .i64 0),.w (.int .i64 0),.w (.int .i64 0),.w (.bool false),.w (.int .i64 0),.w (.int .i64 0),.w (.bool false),.w (.int .i64 0),.w (.int .i64 0),.w (.int .i64 0),.w (.bool false),.w (.bool false),.w (.int .i64 0),.w (.int .i64 0),.w (.bool false),.w (.int .i64 0),.w (.int .i64 0),.w (.int .i64 0),.w (.bool false),.w (.slice none 0 0),.w (.slice none 0 0),.w (.int .i64 0),.w (.slice none 0 0),.w (.int .i64 0),.w (.slice none 0 0)],.dead,.arr 6 ((b.ms.take p).map Mst.r)]) (fun p=>b.ms.length-p) 4 0 (Nat.zero_le _) Y (hasOf ⟨Y,Y,trivial⟩ Y) Y (fun _ _=>Y) (fun _ _=>⟨Y,Y⟩) ?_)))
 rintro i hi
 have hml:(b.ms.take i).length≤i:=by rw[List.length_take];omega
 refine Ei [1,2,3,12,13,14] Y ?_
 dsimp only
 refine Et (u_lss Y Y (Em [1,2,3,12,13,14,15] Y (Ey (Ew Y ?_ ?_))))
 intro h1
 refine z_s [1,2,3,12,13,14] Y (Ey (Fh (Et (s_iaM Y Y (by simp at *;omega) ?_))))
 intro y2 e2
 simp only[Int.toNat_natCast,Int.toNat_zero] at e2
 refine u_ldn Y Y (Fu Y Y (Eo (Er Y Y Y Y Y Y Y) (Em [1,2,3,5,12,13,14] Y (Fs (Ea Y (En Y Y Y (Fg [] Y Y Y Y (by simp) (.inl Y) (cg_99 _ (hs3 _ (List.mem_of_getElem? (by assumption)))) ?_)))))))
 rintro u L1 ⟨rfl,rfl⟩
 refine⟨_,_,Y,Y,?_⟩
 refine s_frz 5 20 Y (by simp) Y Y (by simp) Y (Fa (o_bs Y Y Y Y) ?_)
 refine Fa (o_appL Y Y Y Y Y Y Y (by simp [roomy];omega)) ?_
 refine Ea Y (Ez (Fb (Eu (Ei [1,2,3,12,13,14] Y (Fs (Fa (Fn Y Y (by omega)) (Ea Y (Ez (Fp ?_)))))))))
 ·refine⟨i+1,by omega,by omega,hasOf ⟨rfl,?_,trivial⟩ ?_⟩ <;> rw[take_snoc _ (by assumption)] <;> rfl
 intro h1
 refine s_exit (q_seqX (q_loopX (q_blkH (Eu (Ei [1,2,3] Y (Et (Ea Y (Ee Y (Eo (o_stC Y Y Y Y Y Y) (z_q [1,2] Y (Ee Y (Ej Y Y Y (Fg [] Y Y Y Y (by simp) (.inl Y) (cg_254 _ hs4) ?_)))))))))))))
 rintro u L1 ⟨rfl,rfl⟩
 refine⟨_,_,Y,Y,?_⟩
 refine Ee Y (Eo (o_stC Y Y Y Y Y Y) (z_q [1,2] Y (Ee Y (Ej Y Y Y (Fg [] Y Y Y Y (by simp) (.inl Y) (cg_253 _ hs5) ?_)))))
 rintro u L1 ⟨rfl,rfl⟩
 refine⟨_,_,Y,Y,?_⟩
 refine Ee Y (Eo (o_stC Y Y Y Y Y Y) (z_q [1,2] Y (Ee Y (En Y Y Y (Fg [] Y Y Y Y (by simp) (.inl Y) (cg_98 _ hs6) ?_)))))
 rintro u L1 ⟨rfl,rfl⟩
 refine⟨_,_,Y,Y,?_⟩
 refine s_frz3 6 7 8 36 Y Y Y (by simp) (by decide) Y Y (by simp) Y Y Y (Ee Y (Eo (Er Y Y Y Y Y Y Y) (z_q [1,2] Y (Ee Y (Ej Y Y Y (Fg [] Y Y Y Y (by simp) (.inl Y) (cg_255 _ hs7) ?_))))))
 rintro u L1 ⟨rfl,rfl⟩
 refine⟨_,_,Y,Y,?_⟩
 refine Ee Y (Eo (o_stC Y Y Y Y Y Y) (z_q [1,2] Y (En Y Y Y (Eo (Er Y Y Y Y Y Y Y) (Em [2] Y (Eh ?_))))))
 ·refine Fv [3,4,5,9] (.inr Y) Y Y Y Y (show(List.range 0++[3,4,5,9]).Nodup by decide) ?_
  rw[List.take_of_length_le (show b.ms.length≤i by omega)];exact⟨by simp [List.length_take],rfl⟩
structure StepOk (b:Bus) (s:Script):Prop where
 hf:b.fine
 hd:b.data.live=true→0≤b.data.who∧b.data.who<b.ms.length
 ha:b.addr.live=true→0≤b.addr.who∧b.addr.who<b.ms.length
 h3d:(b.pre s).data.live=true→(0≤(b.pre s).data.who∧(b.pre s).data.who<(b.pre s).ms.length)∧(b.pre s).data.left≤1000000∧∃ r,(mAt (b.pre s) (b.pre s).data.who).queue[0]?=some r∧(r.write=true→0≤(b.pre s).data.num∧(b.pre s).data.num<r.data.length)
 h3a:(b.pre s).addr.live=true→0≤(b.pre s).addr.who∧(b.pre s).addr.who<(b.pre s).ms.length
 h4:∀ b4 rdy st,(b.pre s).finish s=(b4,rdy,st)→b4.fine∧(b4.holder=-1∨(0≤b4.holder∧b4.holder<b4.ms.length))∧(b4.addr.live=true→0≤b4.addr.who∧b4.addr.who<b4.ms.length)
def Bus.runs (b:Bus) (s:Script):Nat→Bus
 | 0=>b
 | k+1=>((b.runs s k).step s).1
def WaveRow (now got:Int) (r:List V):Prop:=∃ ad ki wh da fr rd rs,r=[.w (.int .i64 now),.w (.int .i64 ad),.w (.int .i64 ki),.w (.int .i64 wh),.w (.int .i64 da),.w (.int .i64 fr),.w (.bool rd),.w (.int .i64 rs),.w (.int .i64 got)]
def RunI (b:Bus) (s:Script) (k:Nat) (rows:List (List V)):Prop:=
 rows.length=k∧∀ i r,rows[i]?=some r→WaveRow (b.runs s i).now ((b.runs s i).step s).2 r
theorem RunI.start (b:Bus) (s:Script):RunI b s 0 []:=⟨rfl,fun i r h=>by simp at h⟩
theorem RunI.next {b:Bus} {s:Script} {k:Nat} {rows:List (List V)} {r:List V} (h:RunI b s k rows) (hr:WaveRow (b.runs s k).now ((b.runs s k).step s).2 r):RunI b s (k+1) (rows++[r]):=by
 refine⟨by rw[List.length_append,h.1];rfl,fun i x hx=>?_⟩
 rcases Nat.lt_or_ge i rows.length with hi|hi
 ·rw[List.getElem?_append_left hi] at hx
  exact h.2 i x hx
 ·rw[List.getElem?_append_right hi] at hx
  have h0:i-rows.length=0:=by
   rcases Nat.eq_zero_or_pos (i-rows.length) with e|e
   ·exact e
   ·rw[List.getElem?_eq_none (by simp;omega)] at hx;cases hx
  rw[h0] at hx
  have hik:i=k:=by have:=h.1;omega
  subst hik
  cases hx;exact hr
theorem cb_17y {b:Bus} {s:Script} (h:StepOk b s) (hsm:s.small) (hsw:∀ y,y∈s.waits→i64 y):GB prg 17 [.cell [.sl 4 (b.conf.masters.map MConf.r),.w (.int .i64 b.conf.quantum),.w (.int .i64 b.conf.maxWait),.w (.int .i64 b.conf.maxRetry),.w (.int .i64 b.conf.maxSplit),.w (.int .i64 b.conf.lockMost),.w (.int .i64 b.now),.ls 1 b.ms.length,.w (.int .i64 b.arb.pos),.w (.int .i64 b.arb.credit),.ls 2 b.buckets.length,.ls 3 b.splits.length,.w (.int .i64 b.holder),.w (.int .i64 b.kept),.w (.int .i64 b.last),.w (.bool b.addr.live),.w (.int .i64 b.addr.who),.w (.int .i64 b.addr.num),.w (.bool b.addr.first),.w (.int .i64 b.addr.via),.w (.int .i64 b.addr.left),.w (.int .i64 b.addr.resp),.w (.bool b.addr.second),.w (.bool b.data.live),.w (.int .i64 b.data.who),.w (.int .i64 b.data.num),.w (.bool b.data.first),.w (.int .i64 b.data.via),.w (.int .i64 b.data.left),.w (.int .i64 b.data.resp),.w (.bool b.data.second),.sl 1 (b.model.ram.map iR),.sl 1 (b.model.dev.regs.map iR),.w (.int .i64 b.model.dev.timer),.sl 1 (b.model.dev.fifo.map iR),.w (.int .i64 b.picks),.ls 4 b.log.length],.arr 6 (b.ms.map Mst.r),.arr 2 (b.buckets.map Bucket.r),.arr 1 (b.splits.map iR),.arr 7 (b.log.map Done.r)] [.cp 0 0,.agg s.r] (fun u L1=>(∃ r,u=.agg r∧WaveRow b.now (b.step s).2 r)∧L1=LBus (b.step s).1):=by
 have:=cb_17 b s h.hf hsm hsw h.hd h.ha h.h3d h.h3a h.h4
 refine this.mono ?_
 rintro u L1 ⟨⟨ad,ki,wh,da,fr,rd,rs,rfl⟩,e⟩
 exact⟨⟨_,Y,⟨ad,ki,wh,da,fr,rd,rs,Y⟩⟩,e⟩
theorem c_31y (b:Bus) (hs:b.small) (hok:b.okB=true):CV prg 31 [.agg b.r] (fun res=>res=.w (.bool true)):=(c_31 b hs).mono fun u hu=>by rw[hu,hok]
set_option maxHeartbeats 1000000 in
theorem c_32 (b:Bus) (s:Script) (n:Nat) (hs:b.small) (hok:b.okB=true) (hn:b.now+n≤4000) (h0:0≤b.now) (hsm:s.small) (hsw:∀ y,y∈s.waits→i64 y) (hz:(b.runs s n).small) (hst:∀ k,k<n→StepOk (b.runs s k) s):CV prg 32 [.agg b.r,.agg s.r,.w (.int .i64 (n:Int))] (fun u=>∃ rows,u=.tup [.agg (b.runs s n).r,.sl 9 rows]∧RunI b s n rows):=by
 obtain⟨hs1,hs2,hs3,hs4,hs5,hs6,hs7⟩:=id hs
 refine cv_in g32 (Ei [0,1,2] Y (Et (u_box Y Y Y (u_box Y Y Y (Fu Y Y (Ea Y (z_q [2,3,4,6] Y (En Y Y Y (Fg [] Y Y Y Y (by simp) (.inl Y) (cg_95 _ (by exact hs)) ?_)))))))))
 rintro u L1 ⟨rfl,rfl⟩
 refine⟨_,_,Y,Y,?_⟩
 refine Fa (o_bs Y Y Y Y) (Fu Y Y (Eo (Er Y Y Y Y Y Y Y) (Ea Y (Em [2,3,4,6,8,9] Y (Ey (Et (En Y Y Y (Ev Y Y (c_31y _ hs hok) (Fk Y (Ea Y (Ec Y (Ea Y (Ec Y (Ee Y (Ec Y (Ej Y Y Y (Ec Y (Fa (o_subn Y Y (by omega)) (Ec Y (Ev Y Y (c_103 _ _ _) (Ec Y (Fk Y (Ed Y Y (Em [2,4,6,8,9,23] Y (s_condN Y ?_ ?_)))))))))))))))))))))))))
 ·intro h1
  exfalso
  omega
 intro h1
 refine z_s [2,4,6,8,9] Y (Ey (Et (Ea Y (Ea Y (Em [4,6,8,9,25,26] Y (Fh ?_))))))
 refine S_loop (ι:=Nat×List (List V)) (fun p=>p.1≤n∧RunI b s p.1 p.2) (fun p=>[(26,.w (.int .i64 (p.1:Int))),(9,.ls 7 p.2.length)]) (fun p=>[.cell b.r,.cell s.r,.cell [.w (.slice none 0 0),.w (.int .i64 0),.w (.int .i64 0),.w (.int .i64 0),.w (.int .i64 0),.w (.int .i64 0),.w (.int .i64 0),.w (.slice none 0 0),.w (.int .i64 0),.w (.int .i64 0),.w (.slice none 0 0),.w (.slice none 0 0),.w (.int .i64 0),.w (.int .i64 0),.w (.int .i64 0),.w (.bool false),.w (.int .i64 0),.w (.int .i64 0),.w (.bool false),.w (.int .i64 0),.w (.int .i64 0),.w (.int .i64 0),.w (.bool false),.w (.bool false),.w (.int .i64 0),.w (.int .i64 0),.w (.bool false),.w (.int .i64 0),.w (.int .i64 0),.w (.int .i64 0),.w (.bool false),.w (.slice none 0 0),.w (.slice none 0 0),.w (.int .i64 0),.w (.slice none 0 0),.w (.int .i64 0),.w (.slice none 0 0)],.arr 6 ((b.runs s p.1).ms.map Mst.r),.arr 2 ((b.runs s p.1).buckets.map Bucket.r),.arr 1 ((b.runs s p.1).splits.map iR),.arr 7 ((b.runs s p.1).log.map Done.r),.arr 9 p.2,.cell [.sl 4 ((b.runs s p.1).conf.masters.map MConf.r),.w (.int .i64 (b.runs s p.1).conf.quantum),.w (.int .i64 (b.runs s p.1).conf.maxWait),.w (.int .i64 (b.runs s p.1).conf.maxRetry),.w (.int .i64 (b.runs s p.1).conf.maxSplit),.w (.int .i64 (b.runs s p.1).conf.lockMost),.w (.int .i64 (b.runs s p.1).now),.ls 3 (b.runs s p.1).ms.length,.w (.int .i64 (b.runs s p.1).arb.pos),.w (.int .i64 (b.runs s p.1).arb.credit),.ls 4 (b.runs s p.1).buckets.length,.ls 5 (b.runs s p.1).splits.length,.w (.int .i64 (b.runs s p.1).holder),.w (.int .i64 (b.runs s p.1).kept),.w (.int .i64 (b.runs s p.1).last),.w (.bool (b.runs s p.1).addr.live),.w (.int .i64 (b.runs s p.1).addr.who),.w (.int .i64 (b.runs s p.1).addr.num),.w (.bool (b.runs s p.1).addr.first),.w (.int .i64 (b.runs s p.1).addr.via),.w (.int .i64 (b.runs s p.1).addr.left),.w (.int .i64 (b.runs s p.1).addr.resp),.w (.bool (b.runs s p.1).addr.second),.w (.bool (b.runs s p.1).data.live),.w (.int .i64 (b.runs s p.1).data.who),.w (.int .i64 (b.runs s p.1).data.num),.w (.bool (b.runs s p.1).data.first),.w (.int .i64 (b.runs s p.1).data.via),.w (.int .i64 (b.runs s p.1).data.left),.w (.int .i64 (b.runs s p.1).data.resp),.w (.bool (b.runs s p.1).data.second),.sl 1 ((b.runs s p.1).model.ram.map iR),.sl 1 ((b.runs s p.1).model.dev.regs.map iR),.w (.int .i64 (b.runs s p.1).model.dev.timer),.sl 1 ((b.runs s p.1).model.dev.fifo.map iR),.w (.int .i64 (b.runs s p.1).picks),.ls 6 (b.runs s p.1).log.length]]) (fun p=>n-p.1) 9 (0,[]) ⟨Nat.zero_le _,RunI.start b s⟩ Y (hasOf ⟨Y,Y,trivial⟩ Y) Y (fun _ _=>Y) (fun _ _=>⟨Y,Y⟩) ?_
 rintro⟨i,rows⟩ ⟨hi,hR⟩
 simp only at hi hR
 have hrl:=hR.1
 refine Ei [4,6,8,9,25,26] Y ?_
 dsimp only
 refine Et (u_lss Y Y (Em [4,6,8,9,25,26,27] Y (Ey (Ew Y ?_ ?_))))
 intro h2
 refine z_s [4,6,8,9,25,26] Y (Ey (Fh (Fs (Ea Y (En Y Y Y (s_callB [8,3,4,5,6] Y Y Y Y (by decide) (cb_17y (hst _ (by omega)) hsm hsw) ?_))))))
 rintro u L1 ⟨⟨wr,rfl,⟨ad,ki,wh,da,fr,rd,rs,rfl⟩⟩,rfl⟩
 refine⟨_,_,_,Y,Y,Y,?_⟩
 refine Fa (o_bs Y Y Y Y) ?_
 refine Fa (o_appL Y Y Y Y Y Y Y (by simp [roomy];omega)) ?_
 refine Ea Y (Ez (Fb (Eu (Ei [4,6,8,9,25,26] Y (Fs (Fa (Fn Y Y (by omega)) (Ea Y (Ez (Fp ?_)))))))))
 ·exact⟨(i+1,rows++[_]),⟨by omega,hR.next ⟨ad,ki,wh,da,fr,rd,rs,rfl⟩⟩,by simp only;omega,hasOf ⟨rfl,rfl,trivial⟩ rfl⟩
 intro h2
 refine s_exit (q_seqX (q_loopX (q_blkH (Eu (Ei [6,8,9] Y (Et (En Y Y Y ?_)))))))
 have hin:i=n:=by omega
 subst hin
 refine s_frzL [3,4,5,6] 34 (by simp) Y Y (by simp) Y (Fg [] Y Y Y Y (by simp) (.inl Y) (cg_95 _ (by exact hz)) ?_)
 rintro u L1 ⟨rfl,rfl⟩
 refine⟨_,_,Y,Y,?_⟩
 refine Ea Y (Eo (Er Y Y Y Y Y Y Y) (Ea Y (Em [6,7] Y (Eh ?_))))
 ·refine ret_leafP (.inr Y) Y Y (by simp) ?_
  exact⟨_,Y,hR⟩
theorem c_194 (code:List Int) (hc:code.length≤1048576):CV prg 194 [.sl 1 (code.map uR)] (fun u=>∃ (x:Conf) (s:Script) (k:Int),u=.tup [.agg x.r,.agg s.r,.w (.int .i64 k)]∧x.masters.length≤4∧s.fit):=by
 refine cv_in g194 (Ei [0] Y (Et (Fu Y Y (Fu Y Y (Ea Y (z_q [0,2,3] Y (Ea Y (Fg [] Y Y Y Y (by simp) (.inl Y) (cg_231 _ hc) ?_))))))))
 rintro u L1 ⟨rfl,h,rfl⟩
 refine⟨_,_,Y,Y,?_⟩
 have hi:(0:Int)≤0∧(0:Int)≤(code.length:Int):=by omega
 refine Ea Y (z_q [2,3,5] Y (Ea Y (Fg [2] Y Y Y Y (by simp) (.inl Y) (cg_247 _ hc _ _ hi) ?_)))
 rintro u L1 ⟨⟨x,s,rfl,hx,hs⟩,i,h,hi,rfl⟩
 refine⟨_,_,Y,Y,?_⟩
 refine Ea Y (u_ext Y Y (u_ext Y Y (Fu Y Y (Fu Y Y (Eo (Er Y Y Y Y Y Y Y) (Eo (Er Y Y Y Y Y Y Y) (Em [2,3,5,6,7] Y (Ey (s_rgH [0,1,2] Y (h_op (o_ldnC Y Y Y) Y (h_op (o_ldnC Y Y Y) Y (h_op (o_mv Y) Y (h_callG [2] [] Y Y Y Y Y Y (by simp) Y (cg_228 _ hc _ _ hi _) (by simp) ?_)))))))))))))
 rintro u L1 ⟨⟨kv,rfl,hkv⟩,i,h,hi,rfl⟩
 refine⟨Y,_,_,_,_,Y,Y,Y,Y,?_⟩
 refine h_op (o_subn Y Y (by omega)) Y (h_stn Y Y Y Y Y (h_stn Y Y Y Y Y (h_bar Y (Ea Y (Em [2,3,4] Y (Eh ?_))))))
 ·refine ret_leaf (.inr Y) Y Y ?_
  exact⟨x,s,_,Y,by omega,hs⟩
theorem atz_a {code:List Int} {i:Nat} {y:Int} (hw:∀ y,y∈code→0≤y∧y≤255) (h:code[i]?=some y):0≤IntKind.wrap .i64 y:=by
 have h1:=hw y (List.mem_of_getElem? h)
 rw[wrap_in _ (by omega)];exact h1.1
theorem atz_b {n:Nat} (h:n≤1048576):0≤(IntKind.wrap .i64 (IntKind.wrap .i64 (1 * 37)+IntKind.wrap .i64 ((n:Int) * 11))).tmod 256:=by
 rw[wrap_in (1 * 37) (by omega),wrap_in ((n:Int) * 11) (by omega),wrap_in _ (by omega)]
 exact Int.tmod_nonneg _ (by omega)
theorem c_122z (code:List Int) (hw:∀ y,y∈code→0≤y∧y≤255) (hc:code.length≤1048576):CV prg 122 [.sl 1 (code.map uR),.w (.int .i64 1)] (fun u=>∃ v,u=.w (.int .i64 v)∧0≤v):=by
 refine cv_in g122 (Ei [0,1] Y (Et (Ea Y (Em [0,1] Y (Ey (Et (Ea Y (Ea Y (Fw Y (u_lss Y Y (Em [0,1,8] Y (Ew Y ?_ ?_))))))))))))
 intro h1
 refine Et (Ea Y (Ea Y (s_iaM Y Y (by omega) ?_)))
 intro y2 e2
 refine u_ld Y Y (Fa (o_cvi Y) (Ea Y (Em [4] Y (Eh (Ep ?_)))))
 rotate_left
 intro h1
 refine z_s [0,1] Y (Et (Ea Y (u_mul Y Y (Ea Y (Fw Y (u_mul Y Y (u_add Y Y (u_rem Y Y (by decide) (Ea Y (Em [4] Y (Eh ?_)))))))))))
 rotate_left
 all_goals
  first|(refine ret_leaf (.inr Y) Y Y ?_;exact⟨_,Y,atz_a hw (by assumption)⟩)|(refine ret_leaf (.inr Y) Y Y ?_;exact⟨_,Y,atz_b hc⟩)
def req2:Req:=⟨false,0,2,0,false,[]⟩
def keepP (t:Int) (ps:List Post):List Post:=ps.filter fun p=>decide (¬ p.who=0) && decide (p.moment≤t)
def scr (s:Script) (t:Int):Script:=⟨keepP t s.posts++[⟨t,0,req2⟩],s.waits,s.says⟩
def pRow (t:Int):List V:=[.w (.int .i64 t),.w (.int .i64 0),.w (.bool false),.w (.int .i64 0),.w (.int .i64 2),.w (.int .i64 0),.w (.bool false),.w (.slice none 0 0)]
def scrN (s:Script) (t:Int):List V:=[.sl 8 ((keepP t s.posts).map Post.r++[pRow t]),.sl 1 (s.waits.map iR),.sl 1 (s.says.map iR)]
theorem keepP_yes {xs:List Post} {t:Int} {i:Nat} {p:Post} (h:xs[i]?=some p) (h1:¬ p.who=0) (h2:p.moment≤t):keepP t (xs.take (i+1))=keepP t (xs.take i)++[p]:=by
 unfold keepP;rw[take_get h,List.filter_append];simp [h1,h2]
theorem keepP_no {xs:List Post} {t:Int} {i:Nat} {p:Post} (h:xs[i]?=some p) (h1:p.who=0∨¬ p.moment≤t):keepP t (xs.take (i+1))=keepP t (xs.take i):=by
 unfold keepP;rw[take_get h,List.filter_append]
 rcases h1 with h1|h1
 ·simp [h1]
 ·have:decide (p.moment≤t)=false:=decide_eq_false h1
  simp [this]
theorem scr_nr {M:Mem} {s:Script} {t:Int} {x:Value} (h:RF M (.agg (scrN s t)) x):RF M (.agg (scr s t).r) x:=by
 cases h with
 | agg hl hh =>
   refine .agg hl fun i u y hu hy=>?_
   match i with
   | 0 =>
     cases hu
     refine RF.slW (l:=(keepP t s.posts).map Post.r++[pRow t]) (by simp [scr]) (fun j p q hp hq=>?_) (hh 0 _ y Y hy)
     have e:(scr s t).posts.map Post.r=(keepP t s.posts).map Post.r++[Post.r ⟨t,0,req2⟩]:=by simp [scr]
     rw[e] at hq
     rcases Nat.lt_or_ge j ((keepP t s.posts).map Post.r).length with hj|hj
     ·rw[List.getElem?_append_left hj] at hp hq
      rw[hp] at hq;cases hq
      rw[List.getElem?_map] at hp
      cases e2:(keepP t s.posts)[j]? with
      | none=>rw[e2] at hp;cases hp
      | some z=>rw[e2] at hp;cases hp;exact⟨.refl _,.refl _,.refl _,.refl _,.refl _,.refl _,.refl _,.refl _,trivial⟩
     ·rw[List.getElem?_append_right hj] at hp hq
      rcases Nat.eq_zero_or_pos (j-((keepP t s.posts).map Post.r).length) with h0|h0
      ·rw[h0] at hp hq
       cases hp;cases hq
       exact⟨.refl _,.refl _,.refl _,.refl _,.refl _,.refl _,.refl _,.nil 1 0,trivial⟩
      ·rw[List.getElem?_eq_none (by show 1≤_;omega)] at hp;cases hp
   | 1=>cases hu;exact hh 1 _ y rfl hy
   | 2=>cases hu;exact hh 2 _ y rfl hy
   | n+3=>cases hu
theorem keepP_in {t:Int} {s:Script} {p:Post} (h:p∈keepP t s.posts):p∈s.posts∧¬ p.who=0:=by
 unfold keepP at h
 have h1:=List.mem_filter.1 h
 simp only[Bool.and_eq_true,decide_eq_true_eq] at h1
 exact⟨h1.1,h1.2.1⟩
theorem keepP_len {s:Script} (h:s.fit) (t:Int) (i:Nat):(keepP t (s.posts.take i)).length≤6:=
 Nat.le_trans (List.length_filter_le ..) (by rw[List.length_take];have:=h.1;omega)
theorem posAt0 (xs:List Post) (i:Nat):∃ y,i<xs.length→xs[i]?=some y:=by
 by_cases h:i<xs.length
 ·exact⟨xs[i],fun _=>List.getElem?_eq_getElem h⟩
 ·exact⟨⟨0,0,req2⟩,fun k=>absurd k h⟩
theorem sok_pos {s:Script} {c:Conf} (h:s.ok c=true):1≤c.masters.length∧c.ok=true:=by
 unfold Script.ok at h
 simp only[Bool.and_eq_true] at h
 have h1:=h.1.1.1.1
 exact⟨(conf_pos h1).1,h1⟩
theorem scr_small {s:Script} (h:s.fit) (t:Int):(scr s t).small:=by
 have hl:(keepP t s.posts).length≤s.posts.length:=List.length_filter_le ..
 refine⟨?_,fun p hp=>?_,?_,?_⟩
 ·simp only[scr,List.length_append,List.length_cons,List.length_nil];have:=h.1;omega
 ·rcases List.mem_append.1 hp with k|k
  ·show p.req.data.length≤1048576
   have:=h.2.1 p (keepP_in k).1;omega
  ·rw[List.mem_singleton.1 k];show[].length≤1048576;simp
 ·show s.waits.length≤_;have:=h.2.2.1.1;omega
 ·show s.says.length≤_;have:=h.2.2.2.1;omega
theorem scr_waits {s:Script} (h:s.fit) (t:Int):∀ y,y∈(scr s t).waits→i64 y:=fun y hy=>by have h9:=h.2.2.1.2 y hy;unfold i64;omega
theorem pt_2 {M:Mem} {us us2 us2':List V} {args:List Value} (h:Pt (RF M) [.agg us,.agg us2] args) (h2:∀ x,RF M (.agg us2) x→RF M (.agg us2') x):Pt (RF M) [.agg us,.agg us2'] args:=by
 obtain⟨x,r,rfl,g1,g2⟩:=h.uncons
 obtain⟨y,r,rfl,g3,g4⟩:=g2.uncons
 rw[g4.unnil]
 exact Pt.cons g1 (Pt.cons (h2 _ g3) Pt.nil)
theorem pt_3 {M:Mem} {us us' us2 us2':List V} {w:V} {args:List Value} (h:Pt (RF M) [.agg us,.agg us2,w] args) (h1:∀ x,RF M (.agg us) x→RF M (.agg us') x) (h2:∀ x,RF M (.agg us2) x→RF M (.agg us2') x):Pt (RF M) [.agg us',.agg us2',w] args:=by
 obtain⟨x,r,rfl,g1,g2⟩:=h.uncons
 obtain⟨y,r,rfl,g3,g4⟩:=g2.uncons
 exact Pt.cons (h1 _ g1) (Pt.cons (h2 _ g3) g4)
theorem c_212n (c:Conf) (s:Script) (t:Int) (hs:s.fit) (hl:c.masters.length≤1048576):CV prg 212 [.agg c.r,.agg (scrN s t)] (fun res=>res=.w (.bool ((scr s t).ok c))):=
 cv_pre (c_212 c (scr s t) (scr_small hs t) hl) fun M args hp=>pt_2 hp fun _=>scr_nr
theorem c_32n (c:Conf) (s:Script) (t:Int) (n:Nat) (hs:s.fit) (hl:c.masters.length≤1048576) (hok:(newBus c).okB=true) (hn:(newBus c).now+n≤4000) (h0:0≤(newBus c).now) (hz:((newBus c).runs (scr s t) n).small) (hst:∀ k,k<n→StepOk ((newBus c).runs (scr s t) k) (scr s t)):CV prg 32 [.agg (newBus c).n,.agg (scrN s t),.w (.int .i64 (n:Int))] (fun u=>∃ rows,u=.tup [.agg ((newBus c).runs (scr s t) n).r,.sl 9 rows]∧RunI (newBus c) (scr s t) n rows):=
 cv_pre (c_32 (newBus c) (scr s t) n (newBus_small c hl) hok hn h0 (scr_small hs t) (scr_waits hs t) hz hst) fun M args hp=>pt_3 hp (fun _=>bus_nr (newBus_q c)) fun _=>scr_nr
structure Rt (m:Mst):Prop where
 len:m.queue.length≤4
 tr:0≤m.tries
 ok:∀ r,r∈m.queue→r.ok=true
 no:m.queue=[]→m.beat=0∧m.done=0∧m.tries=0∧m.parted=false∧m.broken=false
 is:m.queue≠[]→0≤m.done∧m.done≤m.beats-1∧m.done≤m.beat∧m.beat≤m.done+2∧m.beat≤m.beats
theorem Rt.of {m:Mst} (h:m.right=true):Rt m:=by
 unfold Mst.right at h
 simp only[Bool.and_eq_true,decide_eq_true_eq,List.all_eq_true] at h
 obtain⟨⟨⟨h1,h2⟩,h3⟩,h4⟩:=h
 refine⟨h1,h2,h3,fun e=>?_,fun e=>?_⟩
 ·rw[if_pos (by rw[e];rfl)] at h4
  simp only[Bool.and_eq_true,decide_eq_true_eq,Bool.not_eq_true'] at h4
  obtain⟨⟨⟨⟨a,b⟩,c⟩,d⟩,e⟩:=h4
  exact⟨a,b,c,d,e⟩
 ·rw[if_neg (fun k=>e (List.length_eq_zero_iff.1 k))] at h4
  simp only[Bool.and_eq_true] at h4
  have a:=inB_t h4.1
  have b:=inB_t h4.2
  omega
theorem Rt.to {m:Mst} (h:Rt m):m.right=true:=by
 unfold Mst.right
 simp only[Bool.and_eq_true,decide_eq_true_eq,List.all_eq_true]
 refine⟨⟨⟨h.len,h.tr⟩,h.ok⟩,?_⟩
 by_cases e:m.queue=[]
 ·obtain⟨a,b,c,d,f⟩:=h.no e
  rw[if_pos (by rw[e];rfl)];simp [a,b,c,d,f]
 ·obtain⟨a,b,c,d,f⟩:=h.is e
  rw[if_neg (fun k=>e (List.length_eq_zero_iff.1 k))]
  simp only[inB,Bool.and_eq_true,decide_eq_true_eq]
  omega
theorem beats_of {m:Mst} {r:Req} {q:List Req} (h:m.queue=r::q):m.beats=AL.beats r.burst:=by unfold Mst.beats;rw[h];rfl
theorem beats_pos {r:Req} (h:r.ok=true):1≤AL.beats r.burst:=by
 unfold Req.ok burstOk at h
 simp only[Bool.and_eq_true,decide_eq_true_eq] at h
 have h1:=h.1.1.2
 rcases Int.lt_or_le (AL.beats r.burst) 1 with k|k
 ·exfalso
  have e:(AL.beats r.burst).toNat=0:=by omega
  unfold burstL at h1
  rw[e] at h1
  simp [bl] at h1
 ·exact k
def flw (x:Beat) (k:Nat):Int:=if x.live=true∧x.who=(k:Int) then 1 else 0
theorem flw_no {x:Beat} {k:Nat} (h:x.live=false):flw x k=0:=by unfold flw;rw[if_neg (by rw[h];simp)]
theorem flw_at {x:Beat} (h:x.live=true) (h0:0≤x.who):flw x x.who.toNat=1:=by unfold flw;rw[if_pos ⟨h,by omega⟩]
theorem flw_ne {x:Beat} {k:Nat} (h0:0≤x.who) (h:x.who.toNat≠k):flw x k=0:=by unfold flw;rw[if_neg (by omega)]
theorem flw_bd (x:Beat) (k:Nat):0≤flw x k∧flw x k≤1:=by unfold flw;split <;> omega
theorem flw_same {x y:Beat} (h1:y.live=x.live) (h2:y.who=x.who) (k:Nat):flw y k=flw x k:=by unfold flw;rw[h1,h2]
structure MOk (m:Mst) (a d T:Int):Prop where
 rt:Rt m
 tr:m.tries≤T
 fl:m.beat=m.done+a+d
structure Core (ms:List Mst) (a d:Beat) (h T:Int):Prop where
 ok:∀ (k:Nat) m,ms[k]?=some m→MOk m (flw a k) (flw d k) T
 ad:a.live=true→∃ m,0≤a.who∧ms[a.who.toNat]?=some m∧a.num=m.beat-1∧a.second=false
 da:d.live=true→∃ m,0≤d.who∧ms[d.who.toNat]?=some m∧d.num=m.done
 sec:d.live=true→d.second=true→a.live=false
 ho:h=-1∨∃ m,0≤h∧ms[h.toNat]?=some m∧m.queue≠[]
theorem wset_at {α:Type} {xs:List α} {j k:Nat} {x y z:α} (hj:xs[j]?=some x) (h:(xs.set j y)[k]?=some z):(j=k∧z=y)∨(j≠k∧xs[k]?=some z):=by
 rw[List.getElem?_set] at h
 by_cases e:j=k
 ·left
  rw[if_pos e,if_pos (List.getElem?_eq_some_iff.1 hj).1] at h
  exact⟨e,(Option.some.inj h).symm⟩
 ·right
  rw[if_neg e] at h
  exact⟨e,h⟩
theorem wset_is {α:Type} {xs:List α} {j:Nat} {x y:α} (hj:xs[j]?=some x):(xs.set j y)[j]?=some y:=by
 rw[List.getElem?_set,if_pos rfl,if_pos (List.getElem?_eq_some_iff.1 hj).1]
theorem wset_ne {α:Type} {xs:List α} {j k:Nat} {y:α} (h:j≠k):(xs.set j y)[k]?=xs[k]?:=by
 rw[List.getElem?_set,if_neg h]
theorem Core.mono {ms:List Mst} {a d:Beat} {h T T':Int} (c:Core ms a d h T) (hT:T≤T'):Core ms a d h T':=
 ⟨fun k m hk=>⟨(c.ok k m hk).rt,Int.le_trans (c.ok k m hk).tr hT,(c.ok k m hk).fl⟩,c.ad,c.da,c.sec,c.ho⟩
theorem Core.free {ms:List Mst} {a d:Beat} {h T:Int} (c:Core ms a d h T):Core ms a d (-1) T:=⟨c.ok,c.ad,c.da,c.sec,.inl rfl⟩
theorem Core.same {ms:List Mst} {a d:Beat} {h T:Int} (c:Core ms a d h T) {j:Nat} {m m':Mst} (hj:ms[j]?=some m) (hr:Rt m') (ht:m'.tries≤T) (hb:m'.beat=m.beat) (hd:m'.done=m.done) (hq:m.queue≠[]→m'.queue≠[]):Core (ms.set j m') a d h T:=by
 refine⟨fun k x hk=>?_,fun h1=>?_,fun h1=>?_,c.sec,?_⟩
 ·rcases wset_at hj hk with⟨e,rfl⟩|⟨e,hk2⟩
  ·subst e;exact⟨hr,ht,by rw[hb,hd];exact(c.ok _ _ hj).fl⟩
  ·exact c.ok k x hk2
 ·obtain⟨x,h0,hx,h2,h3⟩:=c.ad h1
  by_cases e:j=a.who.toNat
  ·subst e
   rw[hj] at hx;cases hx
   exact⟨m',h0,wset_is hj,by rw[hb];exact h2,h3⟩
  ·exact⟨x,h0,by rw[wset_ne e];exact hx,h2,h3⟩
 ·obtain⟨x,h0,hx,h2⟩:=c.da h1
  by_cases e:j=d.who.toNat
  ·subst e
   rw[hj] at hx;cases hx
   exact⟨m',h0,wset_is hj,by rw[hd];exact h2⟩
  ·exact⟨x,h0,by rw[wset_ne e];exact hx,h2⟩
 ·rcases c.ho with h1|⟨x,h0,hx,h2⟩
  ·exact .inl h1
  ·right
   by_cases e:j=h.toNat
   ·subst e
    rw[hj] at hx;cases hx
    exact⟨m',h0,wset_is hj,hq h2⟩
   ·exact⟨x,h0,by rw[wset_ne e];exact hx,h2⟩
theorem Core.unadd {ms:List Mst} {a d:Beat} {h T:Int} (c:Core ms a d h T) (ha:a.live=true) {m m':Mst} (hj:ms[a.who.toNat]?=some m) (hr:Rt m') (ht:m'.tries≤T) (hb:m'.beat=m.beat-1) (hd:m'.done=m.done) (hq:m.queue≠[]→m'.queue≠[]):Core (ms.set a.who.toNat m') beat0 d h T:=by
 obtain⟨x,h0,hx,h2,h3⟩:=c.ad ha
 refine⟨fun k x hk=>?_,fun h1=>(by cases h1),fun h1=>?_,fun _ _=>Y,?_⟩
 ·rw[flw_no (x:=beat0) rfl]
  rcases wset_at hj hk with⟨e,rfl⟩|⟨e,hk2⟩
  ·subst e
   have:=(c.ok _ _ hj).fl
   rw[flw_at ha h0] at this
   exact⟨hr,ht,by rw[hb,hd];omega⟩
  ·have:=c.ok k x hk2
   rw[flw_ne h0 e] at this
   exact this
 ·obtain⟨x,h0,hx,h2⟩:=c.da h1
  by_cases e:a.who.toNat=d.who.toNat
  ·rw[←e,hj] at hx;cases hx
   exact⟨m',h0,by rw[←e];exact wset_is hj,by rw[hd];exact h2⟩
  ·exact⟨x,h0,by rw[wset_ne e];exact hx,h2⟩
 ·rcases c.ho with h1|⟨x,h0,hx,h2⟩
  ·exact .inl h1
  ·right
   by_cases e:a.who.toNat=h.toNat
   ·rw[←e,hj] at hx;cases hx
    exact⟨m',h0,by rw[←e];exact wset_is hj,hq h2⟩
   ·exact⟨x,h0,by rw[wset_ne e];exact hx,h2⟩
theorem Core.undata {ms:List Mst} {a d:Beat} {h h' T:Int} (c:Core ms a d h T) (hl:d.live=true) {m m':Mst} (hj:ms[d.who.toNat]?=some m) (hr:Rt m') (ht:m'.tries≤T) (hf:m'.beat-m'.done=m.beat-m.done-1) (hb:flw a d.who.toNat=1→m'.beat=m.beat) (hh:h'=-1∨(h'=h∧(h=d.who→m.queue≠[]→m'.queue≠[]))):Core (ms.set d.who.toNat m') a beat0 h' T:=by
 obtain⟨x,h0,hx,h2⟩:=c.da hl
 refine⟨fun k x hk=>?_,fun h1=>?_,fun h1=>(by cases h1),fun h1=>(by cases h1),?_⟩
 ·rw[flw_no (x:=beat0) rfl]
  rcases wset_at hj hk with⟨e,rfl⟩|⟨e,hk2⟩
  ·subst e
   have:=(c.ok _ _ hj).fl
   rw[flw_at hl h0] at this
   exact⟨hr,ht,by omega⟩
  ·have:=c.ok k x hk2
   rw[flw_ne h0 e] at this
   exact this
 ·obtain⟨x,h0,hx,h2,h3⟩:=c.ad h1
  by_cases e:d.who.toNat=a.who.toNat
  ·rw[←e,hj] at hx;cases hx
   exact⟨m',h0,by rw[←e];exact wset_is hj,by rw[hb (by rw[e];exact flw_at h1 h0)];exact h2,h3⟩
  ·exact⟨x,h0,by rw[wset_ne e];exact hx,h2,h3⟩
 ·rcases hh with h1|⟨rfl,hq⟩
  ·exact .inl h1
  ·rcases c.ho with h1|⟨x,h1,hx,h2⟩
   ·exact .inl h1
   ·right
    by_cases e:d.who.toNat=h'.toNat
    ·rw[←e,hj] at hx;cases hx
     exact⟨m',h1,by rw[←e];exact wset_is hj,hq (by omega) h2⟩
    ·exact⟨x,h1,by rw[wset_ne e];exact hx,h2⟩
theorem Core.move {ms:List Mst} {a d d':Beat} {h T:Int} (c:Core ms a d h T) (ha:a.live=true) (hd:d.live=false) (e1:d'.live=a.live) (e2:d'.who=a.who) (e3:d'.num=a.num):Core ms beat0 d' h T:=by
 obtain⟨x,h0,hx,h2,h3⟩:=c.ad ha
 refine⟨fun k m hk=>?_,fun h1=>(by cases h1),fun h1=>?_,fun _ _=>Y,c.ho⟩
 ·have:=c.ok k m hk
  rw[flw_no hd] at this
  rw[flw_no (x:=beat0) rfl,flw_same e1 e2]
  exact⟨this.rt,this.tr,by have:=this.fl;omega⟩
 ·refine⟨x,by rw[e2];exact h0,by rw[e2];exact hx,?_⟩
  have:=(c.ok _ _ hx).fl
  rw[flw_no hd,flw_at ha h0] at this
  rw[e3,h2];omega
theorem Core.grant {ms:List Mst} {a d a':Beat} {h h' T:Int} (c:Core ms a d h T) (ha:a.live=false) (h1:a'.live=true) (h0:0≤a'.who) {m m':Mst} (hj:ms[a'.who.toNat]?=some m) (hr:Rt m') (ht:m'.tries≤T) (hb:m'.beat=m.beat+1) (hd:m'.done=m.done) (hq:m'.queue≠[]) (hn:a'.num=m.beat) (hs:a'.second=false) (hsec:d.live=true→d.second=false) (hh:h'=h∨h'=a'.who):Core (ms.set a'.who.toNat m') a' d h' T:=by
 refine⟨fun k x hk=>?_,fun _=>⟨m',h0,wset_is hj,by rw[hb];omega,hs⟩,fun h1=>?_,fun h2 h3=>(by rw[hsec h2] at h3;cases h3),?_⟩
 ·rcases wset_at hj hk with⟨e,rfl⟩|⟨e,hk2⟩
  ·subst e
   have:=(c.ok _ _ hj).fl
   rw[flw_no ha] at this
   exact⟨hr,ht,by rw[hb,hd,flw_at h1 h0];omega⟩
  ·have:=c.ok k x hk2
   rw[flw_no ha] at this
   rw[flw_ne h0 e]
   exact this
 ·obtain⟨x,k0,hx,h2⟩:=c.da h1
  by_cases e:a'.who.toNat=d.who.toNat
  ·rw[←e,hj] at hx;cases hx
   exact⟨m',k0,by rw[←e];exact wset_is hj,by rw[hd];exact h2⟩
  ·exact⟨x,k0,by rw[wset_ne e];exact hx,h2⟩
 ·rcases hh with rfl|rfl
  ·rcases c.ho with k1|⟨x,k0,hx,h2⟩
   ·exact .inl k1
   ·right
    by_cases e:a'.who.toNat=h'.toNat
    ·rw[←e,hj] at hx;cases hx
     exact⟨m',k0,by rw[←e];exact wset_is hj,hq⟩
    ·exact⟨x,k0,by rw[wset_ne e];exact hx,h2⟩
  ·exact .inr ⟨m',h0,wset_is hj,hq⟩
theorem Core.data {ms:List Mst} {a d d':Beat} {h T:Int} (c:Core ms a d h T) (e1:d'.live=d.live) (e2:d'.who=d.who) (e3:d'.num=d.num) (hs:d'.second=true→d.second=true∨a.live=false):Core ms a d' h T:=
 ⟨fun k m hk=>by rw[flw_same e1 e2];exact c.ok k m hk,c.ad,fun h1=>by rw[e2,e3];exact c.da (e1 ▸ h1),fun h1 h2=>(hs h2).elim (c.sec (e1 ▸ h1)) id,c.ho⟩
theorem Rt.post {m:Mst} {x:Req} (h:Rt m):Rt (m.post x).1∧(m.post x).1.beat=m.beat∧(m.post x).1.done=m.done∧(m.post x).1.tries=m.tries∧(m.queue≠[]→(m.post x).1.queue≠[]):=by
 unfold Mst.post
 split
 ·rename_i hc
  unfold Mst.postC at hc
  simp only[Bool.and_eq_true,decide_eq_true_eq] at hc
  have hl:=h.len
  have h4:m.queue.length≤3:=by omega
  refine⟨⟨by simp only[List.length_append,List.length_cons,List.length_nil];omega,h.tr,fun r hr=>?_,fun e=>by simp at e,fun _=>?_⟩,Y,Y,Y,fun _ e=>by simp at e⟩
  ·rcases List.mem_append.1 hr with k|k
   ·exact h.ok r k
   ·rw[List.mem_singleton.1 k];exact hc.1.2
  ·cases e:m.queue with
   | nil =>
     obtain⟨a,b,_⟩:=h.no e
     have hp:=beats_pos hc.1.2
     have hb:Mst.beats ⟨[]++[x],m.beat,m.done,m.tries,m.parted,m.broken⟩=AL.beats x.burst:=rfl
     simp only[hb];omega
   | cons r q =>
     have k:=h.is (by rw[e];simp)
     rw[beats_of e] at k
     have hb:Mst.beats ⟨r::q++[x],m.beat,m.done,m.tries,m.parted,m.broken⟩=AL.beats r.burst:=rfl
     simp only[hb];exact k
 ·exact⟨h,Y,Y,Y,id⟩
theorem Rt.back {m:Mst} (h:Rt m) (hb:m.done<m.beat):m.back.1=⟨m.queue,m.beat-1,m.done,m.tries,m.parted,m.broken⟩∧Rt m.back.1:=by
 have e:m.back.1=⟨m.queue,m.beat-1,m.done,m.tries,m.parted,m.broken⟩:=by
  unfold Mst.back Mst.backC
  rw[h.to,if_pos (by simp;omega)]
 refine⟨e,?_⟩
 rw[e]
 refine⟨h.len,h.tr,h.ok,fun k=>?_,fun k=>?_⟩
 ·have:=h.no k;omega
 ·have:=h.is k
  have hb2:Mst.beats ⟨m.queue,m.beat-1,m.done,m.tries,m.parted,m.broken⟩=m.beats:=rfl
  rw[hb2];simp only;omega
theorem Rt.fin {m:Mst} (h:Rt m) (hb:m.done<m.beat):Rt m.fin.1∧m.fin.1.tries=0∧m.fin.1.beat-m.fin.1.done=m.beat-m.done-1+(if m.done+1=m.beats then m.done+1-m.beat else 0)∧(m.done+1≠m.beats→m.fin.1.beat=m.beat∧m.fin.1.queue=m.queue)∧(m.done+1=m.beats→m.fin.1.queue.length<m.queue.length):=by
 have hq:m.queue≠[]:=fun k=>by have:=h.no k;omega
 obtain⟨h1,h2,h3,h4,h5⟩:=h.is hq
 unfold Mst.fin Mst.finC
 rw[h.to,if_pos (by simp;omega)]
 by_cases e:m.done+1=m.beats
 ·rw[if_pos e,if_pos e]
  refine⟨⟨?_,Int.le_refl 0,fun r hr=>h.ok r (List.mem_of_mem_drop hr),fun _=>⟨Y,Y,Y,Y,Y⟩,fun k=>?_⟩,Y,by simp only;omega,fun k=>absurd e k,fun _=>?_⟩
  ·have:=h.len;simp only[List.length_drop];omega
  ·cases eq:m.queue.drop 1 with
   | nil=>exact absurd eq k
   | cons r q =>
     have hb:=beats_pos (h.ok r (List.mem_of_mem_drop (by rw[eq];simp)))
     have hb2:Mst.beats ⟨r::q,0,0,0,false,false⟩=AL.beats r.burst:=rfl
     simp only[hb2];omega
  ·have:0<m.queue.length:=List.length_pos_iff.2 hq
   simp only[List.length_drop];omega
 ·rw[if_neg e,if_neg e]
  refine⟨⟨h.len,Int.le_refl 0,h.ok,fun k=>absurd k hq,fun _=>?_⟩,Y,by simp only;omega,fun _=>⟨rfl,rfl⟩,fun k=>absurd k e⟩
  have hb2:Mst.beats ⟨m.queue,m.beat,m.done+1,0,false,m.broken⟩=m.beats:=rfl
  simp only[hb2];omega
theorem Rt.issue {m:Mst} (h:Rt m) (hb:m.beat<m.beats) (h2:m.beat≠m.done+2):m.issue.1=⟨m.queue,m.beat+1,m.done,m.tries,m.parted,m.broken⟩∧Rt m.issue.1∧m.queue≠[]:=by
 have hq:m.queue≠[]:=fun k=>by
  have:=h.no k
  unfold Mst.beats at hb
  rw[k] at hb
  have e:([]:List Req)[0]?=none:=rfl
  rw[e] at hb
  simp only at hb;omega
 have e:m.issue.1=⟨m.queue,m.beat+1,m.done,m.tries,m.parted,m.broken⟩:=by
  unfold Mst.issue Mst.issueC
  rw[h.to,if_pos (by simp;omega)]
 refine⟨e,?_,hq⟩
 rw[e]
 refine⟨h.len,h.tr,h.ok,fun k=>absurd k hq,fun k=>?_⟩
 have:=h.is k
 have hb2:Mst.beats ⟨m.queue,m.beat+1,m.done,m.tries,m.parted,m.broken⟩=m.beats:=rfl
 rw[hb2];simp only;omega
theorem Rt.put {m m':Mst} (h:Rt m) (hq:m.queue≠[]) (e1:m'.queue=m.queue) (e2:m'.beat=m.beat) (e3:m'.done=m.done) (e4:0≤m'.tries):Rt m':=by
 have hb:m'.beats=m.beats:=by unfold Mst.beats;rw[e1]
 refine⟨by rw[e1];exact h.len,e4,by rw[e1];exact h.ok,fun k=>absurd (e1 ▸ k) hq,fun _=>?_⟩
 rw[hb,e2,e3];exact h.is hq
theorem Core.live {ms:List Mst} {a d:Beat} {h T:Int} (c:Core ms a d h T) {k:Nat} {m:Mst} (hk:ms[k]?=some m) (hf:1≤flw a k+flw d k):m.queue≠[]∧m.done<m.beat:=by
 have h1:=c.ok k m hk
 have hf2:=h1.fl
 exact⟨fun e=>by have:=h1.rt.no e;omega,by omega⟩
theorem Mst.wants_t {m:Mst} (h:m.wants=true):m.right=true∧m.beat<m.beats:=by
 unfold Mst.wants at h
 simp only[Bool.and_eq_true,decide_eq_true_eq] at h
 exact h
theorem back_small {m:Mst} (h:m.small):m.back.1.small:=by
 unfold Mst.back;split <;> exact h
theorem fin_small {m:Mst} (h:m.small):m.fin.1.small:=by
 unfold Mst.fin
 split
 ·split
  ·exact⟨by simp only[List.length_drop];have:=h.1;omega,fun y hy=>h.2 y (List.mem_of_mem_drop hy)⟩
  ·exact h
 ·exact h
theorem issue_small {m:Mst} (h:m.small):m.issue.1.small:=by
 unfold Mst.issue;split <;> exact h
structure Inv (b:Bus):Prop where
 f:b.fine
 c:Core b.ms b.addr b.data b.holder b.now
 n:0≤b.now∧b.now<100000
 lg:(b.log.length:Int)≤b.now
 lf:b.data.left≤5
theorem some_len {α:Type} {xs:List α} {k:Int} {y:α} (h0:0≤k) (h:xs[k.toNat]?=some y):0≤k∧k<xs.length:=by
 have:=(List.getElem?_eq_some_iff.1 h).1
 omega
theorem Core.posts {c:Conf} {a d:Beat} {h T:Int}:∀ (ps:List Post) (ms:List Mst),(∀ p,p∈ps→p.req.small)→Core ms a d h T→(∀ y,y∈ms→y.small) →
 Core (postsM c ms ps) a d h T∧(postsM c ms ps).length=ms.length∧∀ y,y∈postsM c ms ps→y.small
 | [],ms,_,hc,hs=>⟨hc,rfl,hs⟩
 | p::ps,ms,hp,hc,hs=>by
   have key:Core (postStep c ms p) a d h T∧(postStep c ms p).length=ms.length∧∀ y,y∈postStep c ms p→y.small:=by
    unfold postStep
    split
    ·cases e:ms[p.who.toNat]? with
     | none =>
       have hl:ms.length≤p.who.toNat:=List.getElem?_eq_none_iff.1 e
       rw[List.set_eq_of_length_le hl]
       exact⟨hc,Y,hs⟩
     | some m =>
       have hm:=hc.ok _ m e
       obtain⟨h1,h2,h3,h4,h5⟩:=hm.rt.post (x:=p.req)
       refine⟨hc.same e h1 (by show(m.post p.req).1.tries≤T;rw[h4];exact hm.tr) h2 h3 h5,List.length_set ..,fun y hy=>?_⟩
       rcases List.mem_or_eq_of_mem_set hy with k|k
       ·exact hs y k
       ·rw[k];exact post_small (hs m (List.mem_of_getElem? e)) (hp p (List.mem_cons_self ..))
    ·exact⟨hc,Y,hs⟩
   obtain⟨k1,k2,k3⟩:=key
   obtain⟨l1,l2,l3⟩:=Core.posts ps (postStep c ms p) (fun q hq=>hp q (List.mem_cons_of_mem _ hq)) k1 k3
   exact⟨l1,l2.trans k2,l3⟩
theorem Inv.pre {b:Bus} {s:Script} (h:Inv b) (hs:s.small):Inv (b.pre s):=by
 obtain⟨h1,h2,h3⟩:=Core.posts (c:=b.conf) (s.postsAt b.now) b.ms (fun p hp=>hs.2.1 p (List.mem_filter.1 hp).1) h.c h.f.small.2.2.1
 have hf1:(b.posted s).fine:=posted_fine h.f h2 h3
 have hf2:(b.posted s).ticked.fine:=ticked_fine hf1
 exact⟨⟨hf2.small,hf2.cok,hf2.tiny,hf2.lm,hf2.lb,hf2.ls⟩,h1,h.n,h.lg,h.lf⟩
theorem Inv.who {b:Bus} (h:Inv b):(b.data.live=true→0≤b.data.who∧b.data.who<b.ms.length)∧(b.addr.live=true→0≤b.addr.who∧b.addr.who<b.ms.length)∧(b.holder=-1∨(0≤b.holder∧b.holder<b.ms.length)):=by
 refine⟨fun k=>?_,fun k=>?_,?_⟩
 ·obtain⟨m,h0,hm,_⟩:=h.c.da k;exact some_len h0 hm
 ·obtain⟨m,h0,hm,_⟩:=h.c.ad k;exact some_len h0 hm
 ·rcases h.c.ho with k|⟨m,h0,hm,_⟩
  ·exact .inl k
  ·exact .inr (some_len h0 hm)
theorem Inv.h3 {b:Bus} (h:Inv b) (hl:b.data.live=true):(0≤b.data.who∧b.data.who<b.ms.length)∧b.data.left≤1000000∧∃ r,(mAt b b.data.who).queue[0]?=some r∧(r.write=true→0≤b.data.num∧b.data.num<r.data.length):=by
 obtain⟨m,h0,hm,hn⟩:=h.c.da hl
 refine⟨some_len h0 hm,by have:=h.lf;omega,?_⟩
 rw[mAt_of hm]
 have ho:=h.c.ok _ m hm
 obtain⟨hq,hb⟩:=h.c.live hm (by rw[flw_at hl h0];have:=flw_bd b.addr b.data.who.toNat;omega)
 cases e:m.queue with
 | nil=>exact absurd e hq
 | cons r q =>
   refine⟨r,Y,fun hw=>?_⟩
   have hi:=ho.rt.is hq
   rw[beats_of e] at hi
   have hr:=ho.rt.ok r (by rw[e];exact List.mem_cons_self ..)
   simp only[Req.ok,Bool.and_eq_true,decide_eq_true_eq,hw,if_true] at hr
   have:=hr.1.2
   omega
theorem fine_ms {b:Bus} (hf:b.fine) {k:Nat} {m:Mst} (hm:m.small):({ b with ms:=b.ms.set k m }:Bus).fine:=by
 have h:=small_set hf (k:=k) hm
 exact⟨⟨hf.small.1,h.1,h.2,hf.small.2.2.2⟩,hf.cok,hf.tiny,by show(b.ms.set _ _).length=_;rw[List.length_set];exact hf.lm,hf.lb,hf.ls⟩
theorem fine_revoke {b:Bus} (hf:b.fine) (x:Beat):(b.revoke x).fine:=by
 have hm:=back_small (mAt_small hf.small x.who)
 have h:=small_set hf (k:=x.who.toNat) hm
 unfold Bus.revoke
 split
 ·exact⟨⟨hf.small.1,h.1,h.2,by show(b.buckets.set _ _).length≤_;rw[List.length_set];exact hf.small.2.2.2.1,hf.small.2.2.2.2⟩,hf.cok,hf.tiny,by show(b.ms.set _ _).length=_;rw[List.length_set];exact hf.lm,by show(b.buckets.set _ _).length=_;rw[List.length_set];exact hf.lb,hf.ls⟩
 ·split
  ·exact⟨⟨hf.small.1,h.1,h.2,hf.small.2.2.2⟩,hf.cok,hf.tiny,by show(b.ms.set _ _).length=_;rw[List.length_set];exact hf.lm,hf.lb,hf.ls⟩
  ·exact fine_ms hf hm
theorem revoke_same (b:Bus) (x:Beat):(b.revoke x).ms=b.ms.set x.who.toNat (mAt b x.who).back.1∧(b.revoke x).addr=b.addr∧(b.revoke x).data=b.data∧(b.revoke x).holder=b.holder∧(b.revoke x).now=b.now∧(b.revoke x).log=b.log∧(b.revoke x).conf=b.conf∧(b.revoke x).kept=b.kept∧(b.revoke x).splits=b.splits∧∀ j,x.who.toNat≠j→(b.revoke x).buckets[j]?=b.buckets[j]?:=by
 unfold Bus.revoke
 split
 ·exact⟨Y,Y,Y,Y,Y,Y,Y,Y,Y,fun j hj=>wset_ne hj⟩
 ·split <;> exact⟨Y,Y,Y,Y,Y,Y,Y,Y,Y,fun j hj=>Y⟩
theorem devDo_small {d:Dev} (h:d.small) (w:Bool) (a v:Int):(devDo d w a v).1.small:=by
 unfold devDo
 repeat' split
 all_goals first
  | exact h
  | exact⟨by simp only[List.length_set];exact h.1,h.2⟩
  | exact⟨h.1,by simp only[List.length_append,List.length_cons,List.length_nil];omega⟩
  | exact⟨h.1,by simp only[List.length_drop];have:=h.2;omega⟩
theorem modelDo_small {m:Model} (h:m.small) (w:Bool) (a z v:Int):(modelDo m w a z v).1.small:=by
 unfold modelDo
 repeat' split
 all_goals first
  | exact h
  | exact⟨h.1,devDo_small h.2 ..⟩
  | (refine⟨?_,h.2⟩;show(putN _ _ _ _).1.length≤_;unfold putN;split
     ·rw[pset_len];exact h.1
     ·exact h.1)
theorem fine_complete {b:Bus} (hf:b.fine) (x:Beat) (hl:b.log.length≤1000000):(b.complete x).fine:=by
 have h:=small_set hf (k:=x.who.toNat) (fin_small (mAt_small hf.small x.who))
 refine⟨⟨hf.small.1,h.1,h.2,hf.small.2.2.2.1,hf.small.2.2.2.2.1,?_,?_⟩,hf.cok,hf.tiny,by show(b.ms.set _ _).length=_;rw[List.length_set];exact hf.lm,hf.lb,hf.ls⟩
 ·show(if x.resp=0 then(b.did x).1 else b.model).small
  split
  ·exact modelDo_small hf.small.2.2.2.2.2.1 ..
  ·exact hf.small.2.2.2.2.2.1
 ·show(b.log++[_]).length≤_
  simp only[List.length_append,List.length_cons,List.length_nil];omega
theorem wrap_id {x:Int} (h:-1000000000≤x∧x≤1000000000):IntKind.wrap .i64 x=x:=by
 exact wrap_in _ (by omega)
structure Behind (b:Bus) (T:Int):Prop where
 f:b.fine
 c:Core b.ms b.addr b.data b.holder T
 lf:b.data.left≤5
theorem Inv.finish {b b4:Bus} {s:Script} {rdy st:Bool} (h:Inv b) (e:b.finish s=(b4,rdy,st)):Behind b4 (b.now+1)∧b4.now=b.now∧(b4.log.length:Int)≤b.now+1∧(rdy=true→b4.data.live=false):=by
 have hf:=h.f
 have hn:=h.n
 have hg:=h.lg
 have hT:b.now≤b.now+1:=by omega
 unfold Bus.finish at e
 split at e
 ·rename_i hl
  cases e
  exact⟨⟨hf,h.c.mono hT,h.lf⟩,Y,by omega,fun _=>hl⟩
 ·rename_i hl
  rw[Bool.not_eq_false] at hl
  obtain⟨m,h0,hm,hnum⟩:=h.c.da hl
  have hmm:=mAt_of hm
  have ho:=h.c.ok _ m hm
  obtain⟨hq,hlt⟩:=h.c.live hm (by rw[flw_at hl h0];have:=flw_bd b.addr b.data.who.toNat;omega)
  split at e
  ·cases e
   exact⟨⟨⟨hf.small,hf.cok,hf.tiny,hf.lm,hf.lb,hf.ls⟩,(h.c.mono hT).data Y Y Y .inl,by have:=h.lf;show b.data.left-1≤5;omega⟩,Y,by show(b.log.length:Int)≤_;omega,fun k=>by cases k⟩
  ·split at e
   ·by_cases ha:b.addr.live=true
    ·rw[if_pos ha] at e
     cases e
     obtain⟨x,k0,hx,_⟩:=h.c.ad ha
     obtain⟨r1,r2,r3,r4,r5,r6,_⟩:=revoke_same b.bad1 b.addr
     have hxm:mAt b.bad1 b.addr.who=x:=mAt_of hx
     obtain⟨_,hlt2⟩:=h.c.live hx (by rw[flw_at ha k0];have:=flw_bd b.data b.addr.who.toNat;omega)
     have hxo:=h.c.ok _ x hx
     obtain⟨b1,b2⟩:=hxo.rt.back hlt2
     have hfr:(b.bad1.revoke b.addr).fine:=fine_revoke (b:=b.bad1) ⟨hf.small,hf.cok,hf.tiny,hf.lm,hf.lb,hf.ls⟩ _
     refine⟨⟨⟨hfr.small,hfr.cok,hfr.tiny,hfr.lm,hfr.lb,hfr.ls⟩,?_,by show(b.bad1.revoke b.addr).data.left≤5;rw[r3];exact h.lf⟩,r5,by show((b.bad1.revoke b.addr).log.length:Int)≤_;rw[r6];show(b.log.length:Int)≤_;omega,fun k=>by cases k⟩
     show Core (b.bad1.revoke b.addr).ms beat0 (b.bad1.revoke b.addr).data (b.bad1.revoke b.addr).holder _
     rw[r1,r3,r4,hxm]
     have hc2:=(h.c.mono hT).unadd ha hx b2 (by rw[b1];have:=hxo.tr;simp only;omega) (by rw[b1]) (by rw[b1]) (fun _=>by rw[b1];exact fun k=>by have:=hxo.rt.no k;omega)
     exact hc2.data Y Y Y (fun _=>.inr Y)
    ·rw[if_neg ha] at e
     cases e
     exact⟨⟨⟨hf.small,hf.cok,hf.tiny,hf.lm,hf.lb,hf.ls⟩,(h.c.mono hT).data Y Y Y (fun _=>.inr (by simpa using ha)),h.lf⟩,Y,by show(b.log.length:Int)≤_;omega,fun k=>by cases k⟩
   ·rename_i hrs
    by_cases h2:b.data.resp=2
    ·rw[if_pos h2] at e
     cases e
     have hsec:b.addr.live=false:=h.c.sec hl (by
      cases k:b.data.second with
      | true=>rfl
      | false=>exact absurd ⟨by omega,k⟩ hrs)
     obtain⟨r1,r2,r3,r4,r5,r6,_⟩:=revoke_same b.again b.data
     have hset:b.again.ms[b.data.who.toNat]?=some m.again:=by show(b.ms.set _ _)[_]?=_;rw[hmm];exact wset_is hm
     have hma:mAt b.again b.data.who=m.again:=mAt_of hset
     have hw:IntKind.wrap .i64 (m.tries+1)=m.tries+1:=wrap_id (by have:=ho.tr;have:=ho.rt.tr;omega)
     have hra:Rt m.again:=ho.rt.put hq rfl rfl rfl (by show 0≤IntKind.wrap .i64 (m.tries+1);rw[hw];have:=ho.rt.tr;omega)
     obtain⟨b1,b2⟩:=hra.back hlt
     refine⟨⟨fine_revoke (fine_again hf) _,?_,by rw[r3];show(0:Int)≤5;omega⟩,r5,by rw[r6];show(b.log.length:Int)≤_;omega,fun _=>by rw[r3];rfl⟩
     rw[r1,r2,r3,r4,hma]
     show Core ((b.ms.set b.data.who.toNat (mAt b b.data.who).again).set b.data.who.toNat m.again.back.1) b.addr beat0 b.holder _
     rw[List.set_set]
     exact(h.c.mono hT).undata hl hm b2 (by rw[b1];show IntKind.wrap .i64 (m.tries+1)≤_;rw[hw];have:=ho.tr;omega) (by rw[b1];show m.beat-1-m.done=_;omega) (fun k=>by rw[flw_no hsec] at k;omega) (.inr ⟨Y,fun _ _=>by rw[b1];exact hq⟩)
    ·rw[if_neg h2] at e
     by_cases h3:b.data.resp=3
     ·rw[if_pos h3] at e
      cases e
      have hsec:b.addr.live=false:=h.c.sec hl (by
       cases k:b.data.second with
       | true=>rfl
       | false=>exact absurd ⟨by omega,k⟩ hrs)
      obtain⟨r1,r2,r3,r4,r5,r6,_⟩:=revoke_same (b.part s) b.data
      have hset:(b.part s).ms[b.data.who.toNat]?=some m.part:=by show(b.ms.set _ _)[_]?=_;rw[hmm];exact wset_is hm
      have hma:mAt (b.part s) b.data.who=m.part:=mAt_of hset
      have hra:Rt m.part:=ho.rt.put hq rfl rfl rfl ho.rt.tr
      obtain⟨b1,b2⟩:=hra.back hlt
      refine⟨⟨fine_revoke (fine_part hf s) _,?_,by rw[r3];show(0:Int)≤5;omega⟩,r5,by rw[r6];show(b.log.length:Int)≤_;omega,fun _=>by rw[r3];rfl⟩
      rw[r1,r2,r3,r4,hma]
      show Core ((b.ms.set b.data.who.toNat (mAt b b.data.who).part).set b.data.who.toNat m.part.back.1) b.addr beat0 b.holder _
      rw[List.set_set]
      exact(h.c.mono hT).undata hl hm b2 (by rw[b1];show m.tries≤_;have:=ho.tr;omega) (by rw[b1];show m.beat-1-m.done=_;omega) (fun k=>by rw[flw_no hsec] at k;omega) (.inr ⟨Y,fun _ _=>by rw[b1];exact hq⟩)
     ·rw[if_neg h3] at e
      cases e
      obtain⟨f1,f2,f3,f4,f5⟩:=ho.rt.fin hlt
      have hfl:=ho.fl
      rw[flw_at hl h0] at hfl
      have hi:=ho.rt.is hq
      refine⟨⟨fine_complete (b:=({ b with data:=beat0 }:Bus)) ⟨hf.small,hf.cok,hf.tiny,hf.lm,hf.lb,hf.ls⟩ _ (by show b.log.length≤_;omega),?_,by show(0:Int)≤5;omega⟩,Y,?_,fun _=>Y⟩
      ·show Core (b.ms.set b.data.who.toNat (mAt b b.data.who).fin.1) b.addr beat0 (if Bus.endsLock ({ b with data:=beat0 }:Bus) b.data then -1 else b.holder) _
       have hfb:=flw_bd b.addr b.data.who.toNat
       rw[hmm]
       refine(h.c.mono hT).undata hl hm f1 (by rw[f2];omega) ?_ (fun k=>?_) ?_
       ·rw[f3]
        split
        ·omega
        ·omega
       ·by_cases k2:m.done+1=m.beats
        ·omega
        ·exact(f4 k2).1
       ·by_cases k:Bus.endsLock ({ b with data:=beat0 }:Bus) b.data
        ·exact .inl (if_pos k)
        ·refine .inr ⟨if_neg k,fun k1 _=>?_⟩
         by_cases k2:m.done+1=m.beats
         ·exact absurd ⟨k1,by show(mAt b b.data.who).fin.1.queue.length<(mAt b b.data.who).queue.length;rw[hmm];exact f5 k2⟩ k
         ·rw[(f4 k2).2];exact hq
      ·show((b.log++[_]).length:Int)≤_
       simp only[List.length_append,List.length_cons,List.length_nil];omega
theorem conf_bits {c:Conf} (h:c.ok=true):(0≤c.maxWait∧c.maxWait≤3)∧(1≤c.lockMost∧c.lockMost≤40)∧12≤c.cost∧c.slot=2 * c.cost+c.lockMost:=by
 unfold Conf.ok at h
 simp only[Bool.and_eq_true,decide_eq_true_eq] at h
 have h1:=h.1.2
 unfold Conf.slot at h1 ⊢
 by_cases hc:c.cost=0
 ·rw[if_pos (.inl hc)] at h1;exact absurd Y h1
 ·cases hl:inB c.lockMost 1 40 with
  | false=>rw[if_pos (.inr hl)] at h1;exact absurd rfl h1
  | true =>
    have hl2:=inB_t hl
    rw[if_neg (by simp [hc])]
    unfold Conf.cost at hc ⊢
    split at hc
    ·rename_i h2
     rw[if_pos h2]
     simp only[Bool.and_eq_true] at h2
     have a:=inB_t h2.1
     have b:=inB_t h2.2
     refine⟨b,hl2,?_,Y⟩
     have hm:2 * 6≤(c.maxRetry+2) * (c.maxWait+6):=Int.mul_le_mul (by omega) (by omega) (by omega) (by omega)
     omega
    ·exact absurd Y hc
theorem answer_bd {b:Bus} {s:Script} {x:Beat} (h:b.conf.ok=true):(b.answer s x).2≤5:=by
 have h1:=(conf_bits h).1
 have h2:b.conf.waitAt s b.picks≤3:=by unfold Conf.waitAt;omega
 unfold Bus.answer
 split
 ·show(0:Int)≤5;omega
 ·simp only;split <;> omega
theorem getD_t {l:List Bool} {k:Nat} (h:(l[k]?).getD false=true):l[k]?=some true:=by
 cases e:l[k]? with
 | none=>rw[e] at h;cases h
 | some y=>rw[e] at h;simp only[Option.getD_some] at h;rw[h]
theorem wants_of {b:Bus} {k:Nat} (h:b.wants[k]?=some true):b.want k=true:=by
 have hk:=(List.getElem?_eq_some_iff.1 h).1
 rw[wants_len] at hk
 rw[wants_at hk] at h
 exact Option.some.inj h
theorem wpick_want {w:Wrr} {c:Conf} {req:List Bool} (h:0≤(w.pick c req).2):req[(w.pick c req).2.toNat]?=some true:=by
 unfold Wrr.pick at h ⊢
 split at h
 ·rename_i hk
  rw[if_pos hk]
  split at h
  ·rename_i h1
   rw[if_pos h1]
   simp only[Bool.and_eq_true] at h1
   exact getD_t h1.2
  ·rename_i h1
   rw[if_neg h1]
   cases e:(List.range req.length).find? (w.hit req) with
   | none=>rw[e] at h;simp only at h;omega
   | some i =>
     have h2:=List.find?_some e
     exact getD_t h2
 ·rename_i hk
  rw[if_neg hk]
  simp only at h;omega
theorem pick_more {b b1:Bus} {who via:Int} (h:b.pick=(b1,who,via)):(∃ bs w,b1={ b with buckets:=bs,arb:=w })∧(0≤who→b.want who.toNat=true)∧∀ j:Nat,who≠(j:Int)→b1.buckets[j]?=b.buckets[j]?:=by
 unfold Bus.pick at h
 split at h
 ·rename_i hc
  cases h
  exact⟨⟨_,_,Y⟩,fun _=>hc.2,fun _ _=>Y⟩
 ·split at h
  ·rename_i k hk
   have h2:=List.find?_some hk
   cases h
   refine⟨⟨_,_,Y⟩,fun _=>?_,fun j hj=>wset_ne (by omega)⟩
   unfold Bus.hit at h2
   simp only[Bool.and_eq_true] at h2
   rw[Int.toNat_natCast];exact h2.1
  ·split at h
   ·cases h;exact⟨⟨_,_,Y⟩,fun k=>absurd k (by decide),fun _ _=>Y⟩
   ·cases h;exact⟨⟨_,_,Y⟩,fun k=>wants_of (wpick_want k),fun _ _=>Y⟩
theorem Behind.unlocked {b:Bus} {T:Int} (h:Behind b T):Behind b.unlocked T:=by
 refine⟨unlocked_fine h.f,?_,?_⟩
 ·unfold Bus.unlocked
  split
  ·rename_i hc
   rcases h.c.ho with k|⟨m,h0,hm,hq⟩
   ·exact absurd k hc.1
   ·have ho:=h.c.ok _ m hm
    show Core (b.ms.set b.holder.toNat (mAt b b.holder).broke) b.addr b.data (-1) T
    rw[mAt_of hm]
    exact(h.c.same (m':=m.broke) hm (ho.rt.put hq Y Y Y ho.rt.tr) ho.tr Y Y id).free
  ·exact h.c
 ·unfold Bus.unlocked
  split <;> exact h.lf
theorem unlocked_more (b:Bus):b.unlocked.data=b.data∧b.unlocked.now=b.now∧b.unlocked.log=b.log∧b.unlocked.conf=b.conf:=by
 unfold Bus.unlocked;split <;> exact⟨Y,Y,Y,Y⟩
theorem Behind.moved {b:Bus} {s:Script} {T:Int} (h:Behind b T) (hd:b.data.live=false):Behind (b.moved s) T∧(b.moved s).addr.live=false∧((b.moved s).data.live=true→(b.moved s).data.second=false):=by
 unfold Bus.moved
 split
 ·rename_i ha
  obtain⟨m,h0,hm,h2,h3⟩:=h.c.ad ha
  exact⟨⟨⟨h.f.small,h.f.cok,h.f.tiny,h.f.lm,h.f.lb,h.f.ls⟩,h.c.move ha hd Y Y Y,answer_bd h.f.cok⟩,Y,fun _=>h3⟩
 ·rename_i ha
  exact⟨h,by simpa using ha,fun k=>by rw[hd] at k;cases k⟩
theorem moved_more (b:Bus) (s:Script):(b.moved s).now=b.now∧(b.moved s).log=b.log∧(b.moved s).conf=b.conf∧(b.moved s).kept=b.kept∧(b.moved s).buckets=b.buckets∧(b.moved s).splits=b.splits:=by
 unfold Bus.moved;split <;> exact⟨Y,Y,Y,Y,Y,Y⟩
theorem fine_grantTo {b:Bus} (hf:b.fine) (who via:Int):(b.grantTo who via).fine:=by
 have h:=fine_ms hf (k:=who.toNat) (issue_small (mAt_small hf.small who))
 exact⟨h.small,h.cok,h.tiny,h.lm,h.lb,h.ls⟩
theorem Behind.grant {b:Bus} {T:Int} (h:Behind b T) (ha:b.addr.live=false) (hs:b.data.live=true→b.data.second=false) (hh:b.holder=-1∨(0≤b.holder∧b.holder<b.ms.length)):Behind b.grant.1 T∧b.grant.1.now=b.now∧b.grant.1.log=b.log:=by
 obtain⟨b1,who,via,hp⟩:∃ x y z,b.pick=(x,y,z):=⟨_,_,_,rfl⟩
 obtain⟨hf1,_,_,_,_,hr⟩:=pick_facts h.f hh hp
 obtain⟨⟨bs,w,rfl⟩,hw,_⟩:=pick_more hp
 have hm1:Behind ({ b with buckets:=bs,arb:=w }:Bus) T:=⟨hf1,h.c,h.lf⟩
 by_cases hn:who<0
 ·rw[grant_no hp hn];exact⟨hm1,Y,Y⟩
 ·rw[grant_yes hp hn]
  have hwant:=hw (by omega)
  obtain⟨m,hm⟩:∃ y,b.ms[who.toNat]?=some y:=at_of (by omega) (by have:=hr;simp only at this;omega)
  have hmm:mAt ({ b with buckets:=bs,arb:=w }:Bus) who=m:=mAt_of hm
  have hmw:mAt b who.toNat=m:=mAt_of (by rw[Int.toNat_natCast];exact hm)
  unfold Bus.want at hwant
  rw[hmw] at hwant
  simp only[Bool.and_eq_true] at hwant
  obtain⟨_,hlt⟩:=Mst.wants_t hwant.1.1
  have ho:=h.c.ok _ m hm
  have hfl:=ho.fl
  rw[flw_no ha] at hfl
  have hfd:=flw_bd b.data who.toNat
  obtain⟨i1,i2,i3⟩:=ho.rt.issue hlt (by omega)
  refine⟨⟨fine_grantTo hf1 who via,?_,h.lf⟩,Y,Y⟩
  have hg:=h.c.grant (a':=⟨true,who,m.beat,decide (m.beat=0∨¬ b.last=who),via,0,0,false⟩) (h':=if m.locks=true∧b.holder=-1 then who else b.holder) ha rfl (by show 0≤who;omega) hm i2 (by rw[i1];exact ho.tr) (by rw[i1]) (by rw[i1]) (by rw[i1];exact i3) rfl rfl hs (by split;exact .inr Y;exact .inl Y)
  show Core (b.ms.set who.toNat (mAt ({ b with buckets:=bs,arb:=w }:Bus) who).issue.1) ⟨true,who,(mAt ({ b with buckets:=bs,arb:=w }:Bus) who).beat,decide ((mAt ({ b with buckets:=bs,arb:=w }:Bus) who).beat=0∨¬ b.last=who),via,0,0,false⟩ b.data (if(mAt ({ b with buckets:=bs,arb:=w }:Bus) who).locks=true∧b.holder=-1 then who else b.holder) T
  rw[hmm]
  exact hg
theorem Behind.holder {b:Bus} {T:Int} (h:Behind b T):b.holder=-1∨(0≤b.holder∧b.holder<b.ms.length):=by
 rcases h.c.ho with k|⟨m,h0,hm,_⟩
 ·exact .inl k
 ·exact .inr (some_len h0 hm)
theorem Behind.next {b:Bus} {s:Script} {rdy:Bool} {T:Int} (h:Behind b T) (hd:rdy=true→b.data.live=false):Behind (b.next rdy s).1 T∧(b.next rdy s).1.now=b.now∧(b.next rdy s).1.log=b.log:=by
 unfold Bus.next
 split
 ·rename_i hr
  obtain⟨u1,u2,u3,_⟩:=unlocked_more b
  obtain⟨h1,h2,h3⟩:=h.unlocked.moved (s:=s) (by rw[u1];exact hd hr)
  obtain⟨v1,v2,_⟩:=moved_more b.unlocked s
  obtain⟨g1,g2,g3⟩:=h1.grant h2 h3 h1.holder
  exact⟨g1,by rw[g2,v1,u2],by rw[g3,v2,u3]⟩
 ·exact⟨h,Y,Y⟩
theorem Inv.stepOk {b:Bus} {s:Script} (h:Inv b) (hs:s.small):StepOk b s:=by
 have hp:=h.pre hs
 refine⟨h.f,h.who.1,h.who.2.1,hp.h3,hp.who.2.1,fun b4 rdy st e=>?_⟩
 obtain⟨hm,_⟩:=hp.finish e
 exact⟨hm.f,hm.holder,fun k=>by obtain⟨m,h0,hm,_⟩:=hm.c.ad k;exact some_len h0 hm⟩
theorem Inv.step {b:Bus} {s:Script} (h:Inv b) (hs:s.small) (hn:b.now<90000):Inv (b.step s).1∧(b.step s).1.now=b.now+1:=by
 have hp:=h.pre hs
 obtain⟨b4,rdy,st,e⟩:∃ x y z,(b.pre s).finish s=(x,y,z):=⟨_,_,_,rfl⟩
 obtain⟨hm,f2,f3,f4⟩:=hp.finish e
 obtain⟨n1,n2,n3⟩:=hm.next (s:=s) f4
 have hpn:(b.pre s).now=b.now:=rfl
 have hw:IntKind.wrap .i64 ((b4.next rdy s).1.now+1)=b.now+1:=by rw[n2,f2,hpn];exact wrap_id (by have:=h.n;omega)
 have he:b.step s=({ (b4.next rdy s).1 with now:=IntKind.wrap .i64 ((b4.next rdy s).1.now+1) },(b4.next rdy s).2):=by unfold Bus.step;rw[e]
 rw[he]
 refine⟨⟨⟨n1.f.small,n1.f.cok,n1.f.tiny,n1.f.lm,n1.f.lb,n1.f.ls⟩,?_,?_,?_,n1.lf⟩,hw⟩
 ·show Core _ _ _ _ (IntKind.wrap .i64 _)
  rw[hw];exact n1.c
 ·show 0≤IntKind.wrap .i64 _∧IntKind.wrap .i64 _<100000
  rw[hw];have:=h.n;omega
 ·show((b4.next rdy s).1.log.length:Int)≤IntKind.wrap .i64 _
  rw[hw,n3];rw[hpn] at f3;exact f3
theorem Inv.runs {b:Bus} {s:Script} (h:Inv b) (hs:s.small) (k:Nat) (hk:b.now+k≤90000):Inv (b.runs s k)∧(b.runs s k).now=b.now+k:=by
 induction k with
 | zero=>exact⟨h,by show b.now=_;simp⟩
 | succ k ih =>
   obtain⟨i1,i2⟩:=ih (by omega)
   obtain⟨j1,j2⟩:=i1.step hs (by omega)
   exact⟨j1,by show((b.runs s k).step s).1.now=_;rw[j2,i2];omega⟩
structure Zero (b:Bus) (q:List Req):Prop where
 z0:b.ms[0]?=some ⟨q,0,0,0,false,false⟩
 zh:b.holder≠0
 zs:b.splits[0]?=some 0
 zb:∃ bk mc,b.buckets[0]?=some bk∧b.conf.masters[0]?=some mc∧mc.prio=true∧1≤mc.cap∧bk.tokens=mc.cap∧0≤bk.count∧bk.count<mc.every
 zk:0≤b.kept∧b.kept≤b.conf.lockMost
theorem Core.zero {ms:List Mst} {a d:Beat} {h T:Int} {q:List Req} (c:Core ms a d h T) (hz:ms[0]?=some ⟨q,0,0,0,false,false⟩):(a.live=true→0<a.who∧a.who.toNat≠0)∧(d.live=true→0<d.who∧d.who.toNat≠0):=by
 have ho:=(c.ok 0 _ hz).fl
 have h1:=flw_bd a 0
 have h2:=flw_bd d 0
 simp only at ho
 refine⟨fun k=>?_,fun k=>?_⟩
 ·obtain⟨m,h0,_⟩:=c.ad k
  rcases Int.lt_or_le 0 a.who with e|e
  ·omega
  ·have:=flw_at k h0
   rw[show a.who.toNat=0 by omega] at this;omega
 ·obtain⟨m,h0,_⟩:=c.da k
  rcases Int.lt_or_le 0 d.who with e|e
  ·omega
  ·have:=flw_at k h0
   rw[show d.who.toNat=0 by omega] at this;omega
theorem posts_zero {c:Conf} {m:Mst}:∀ (ps:List Post) (ms:List Mst),(∀ p,p∈ps→p.who≠0)→ms[0]?=some m→(postsM c ms ps)[0]?=some m
 | [],ms,_,h=>h
 | p::ps,ms,hp,h=>by
   refine posts_zero ps (postStep c ms p) (fun q hq=>hp q (List.mem_cons_of_mem _ hq)) ?_
   unfold postStep
   split
   ·rename_i k
    have:=inB_t k
    have:=hp p (List.mem_cons_self ..)
    rw[wset_ne (by omega)];exact h
   ·exact h
theorem down0:down1 0=0:=by decide
theorem minL_1 (x y:Int):minL x [y]=min x y:=by
 show(if y<x then y else x)=min x y
 split <;> omega
theorem Zero.pre {b:Bus} {s:Script} {q q':List Req} (h:Zero b q) (hl:b.kept<1000000) (hf:b.fine) (hp:(b.posted s).ms[0]?=some ⟨q',0,0,0,false,false⟩):Zero (b.pre s) q'∧(b.pre s).kept=(if b.holder=-1 then b.kept else min (b.kept+1) b.conf.lockMost):=by
 have hk:(b.pre s).kept=(if b.holder=-1 then b.kept else min (b.kept+1) b.conf.lockMost):=by
  show(if b.holder=-1 then b.kept else minL (IntKind.wrap .i64 (b.kept+1)) [b.conf.lockMost])=_
  rw[minL_1,wrap_id (by have:=h.zk;omega)]
 have h0:0<(b.posted s).ms.length:=(List.getElem?_eq_some_iff.1 hp).1
 obtain⟨bk,mc,e1,e2,e3,e4,e5,e6,e7⟩:=h.zb
 have hzk:=h.zk
 refine⟨⟨hp,h.zh,?_,?_,?_⟩,hk⟩
 ·show((List.range (b.posted s).ms.length).map fun (k:Nat)=>down1 (sAt b k))[0]?=some 0
  rw[List.getElem?_map,List.getElem?_range h0]
  show some (down1 (sAt b ((0:Nat):Int)))=some 0
  rw[sAt_of (k:=((0:Nat):Int)) h.zs,down0]
 ·refine⟨bk.tick mc,mc,?_,e2,e3,e4,?_⟩
  ·show((List.range (b.posted s).ms.length).map fun (k:Nat)=>(bAt b k).tick (cAt b k))[0]?=_
   rw[List.getElem?_map,List.getElem?_range h0]
   show some ((bAt b ((0:Nat):Int)).tick (cAt b ((0:Nat):Int)))=_
   rw[bAt_of (k:=((0:Nat):Int)) e1,cAt_of (k:=((0:Nat):Int)) e2]
  ·have hok:bk.ok mc=true:=by
    unfold Bucket.ok inB
    rw[if_pos e3]
    simp only[Bool.and_eq_true,decide_eq_true_eq];omega
   unfold Bucket.tick
   rw[e3,hok,if_pos (by decide)]
   split
   ·simp only;omega
   ·simp only;omega
 ·rw[hk]
  show 0≤_∧_≤b.conf.lockMost
  split <;> omega
def gap (d:Beat):Int:=if d.live=true then max d.left 0+(if ¬ d.resp=0∧d.second=false then 1 else 0) else 0
theorem gap_bd {d:Beat} (h:d.left≤5):0≤gap d∧gap d≤6:=by
 unfold gap
 split
 ·split <;> omega
 ·omega
theorem Zero.of {b b':Bus} {q:List Req} (h:Zero b q) (h1:b'.ms[0]?=b.ms[0]?) (h2:b'.holder≠0) (h3:b'.splits[0]?=b.splits[0]?) (h4:b'.buckets[0]?=b.buckets[0]?) (h5:b'.conf=b.conf) (h6:b'.kept=b.kept∨b'.kept=0):Zero b' q:=by
 refine⟨by rw[h1];exact h.z0,h2,by rw[h3];exact h.zs,by rw[h4,h5];exact h.zb,?_⟩
 have:=h.zk
 rw[h5];omega
theorem Zero.finish {b b4:Bus} {s:Script} {rdy st:Bool} {q:List Req} (h:Zero b q) (hi:Inv b) (e:b.finish s=(b4,rdy,st)) :
 Zero b4 q∧b4.conf=b.conf∧(rdy=false→b4.holder=b.holder∧b4.kept=b.kept∧gap b4.data+1≤gap b.data)∧(b4.holder=-1∨(b4.holder=b.holder∧b4.kept=b.kept)):=by
 obtain⟨za,zd⟩:=hi.c.zero h.z0
 unfold Bus.finish at e
 split at e
 ·cases e
  exact⟨h,Y,fun k=>(by cases k),.inr ⟨Y,Y⟩⟩
 ·rename_i hl
  rw[Bool.not_eq_false] at hl
  obtain⟨_,hd0⟩:=zd hl
  split at e
  ·rename_i hlf
   cases e
   refine⟨h.of Y h.zh Y Y Y (.inl Y),Y,fun _=>⟨Y,Y,?_⟩,.inr ⟨Y,Y⟩⟩
   unfold gap
   simp only[hl,if_true]
   omega
  ·split at e
   ·rename_i hlf hrs
    have hg:gap b.bad1.data+1≤gap b.data:=by
     unfold gap Bus.bad1
     simp only[hl,if_true]
     rw[if_pos hrs,if_neg (by simp)];omega
    by_cases ha:b.addr.live=true
    ·rw[if_pos ha] at e
     cases e
     obtain⟨_,ha0⟩:=za ha
     obtain⟨r1,r2,r3,r4,r5,r6,r7,r8,r9,r10⟩:=revoke_same b.bad1 b.addr
     refine⟨h.of (by show(b.bad1.revoke b.addr).ms[0]?=_;rw[r1,wset_ne ha0];rfl) (by show(b.bad1.revoke b.addr).holder≠0;rw[r4];exact h.zh) (by show(b.bad1.revoke b.addr).splits[0]?=_;rw[r9];rfl) (by show(b.bad1.revoke b.addr).buckets[0]?=_;rw[r10 0 ha0];rfl) (by show(b.bad1.revoke b.addr).conf=_;rw[r7];rfl) (.inl (by show(b.bad1.revoke b.addr).kept=_;rw[r8];rfl)),r7,fun _=>⟨r4,r8,by show gap (b.bad1.revoke b.addr).data+1≤_;rw[r3];exact hg⟩,.inr ⟨r4,r8⟩⟩
    ·rw[if_neg ha] at e
     cases e
     exact⟨h.of Y h.zh Y Y Y (.inl Y),Y,fun _=>⟨Y,Y,hg⟩,.inr ⟨Y,Y⟩⟩
   ·by_cases h2:b.data.resp=2
    ·rw[if_pos h2] at e
     cases e
     obtain⟨r1,r2,r3,r4,r5,r6,r7,r8,r9,r10⟩:=revoke_same b.again b.data
     exact⟨h.of (by rw[r1,wset_ne hd0];exact wset_ne hd0) (by rw[r4];exact h.zh) (by rw[r9];rfl) (by rw[r10 0 hd0];rfl) (by rw[r7];rfl) (.inl (by rw[r8];rfl)),r7,fun k=>(by cases k),.inr ⟨r4,r8⟩⟩
    ·rw[if_neg h2] at e
     by_cases h3:b.data.resp=3
     ·rw[if_pos h3] at e
      cases e
      obtain⟨r1,r2,r3,r4,r5,r6,r7,r8,r9,r10⟩:=revoke_same (b.part s) b.data
      exact⟨h.of (by rw[r1,wset_ne hd0];exact wset_ne hd0) (by rw[r4];exact h.zh) (by rw[r9];exact wset_ne hd0) (by rw[r10 0 hd0];rfl) (by rw[r7];rfl) (.inl (by rw[r8];rfl)),r7,fun k=>(by cases k),.inr ⟨r4,r8⟩⟩
     ·rw[if_neg h3] at e
      cases e
      by_cases k:Bus.endsLock ({ b with data:=beat0 }:Bus) b.data
      ·have k1:(Bus.complete ({ b with data:=beat0 }:Bus) b.data).holder=-1:=if_pos k
       exact⟨h.of (wset_ne hd0) (by rw[k1];decide) Y Y Y (.inr (if_pos k)),Y,fun k=>(by cases k),.inl k1⟩
      ·have k1:(Bus.complete ({ b with data:=beat0 }:Bus) b.data).holder=b.holder:=if_neg k
       have k2:(Bus.complete ({ b with data:=beat0 }:Bus) b.data).kept=b.kept:=if_neg k
       exact⟨h.of (wset_ne hd0) (by rw[k1];exact h.zh) Y Y Y (.inl k2),Y,fun k=>(by cases k),.inr ⟨k1,k2⟩⟩
theorem Zero.want {b:Bus} {q:List Req} (h:Zero b q) (hq:b.want 0=true):q≠[]∧b.holder=-1:=by
 unfold Bus.want at hq
 have hm:mAt b ((0:Nat):Int)=⟨q,0,0,0,false,false⟩:=mAt_of (k:=((0:Nat):Int)) h.z0
 rw[hm] at hq
 simp only[Bool.and_eq_true,Bool.or_eq_true,decide_eq_true_eq] at hq
 refine⟨fun e=>?_,hq.2.elim id (fun k=>absurd k h.zh)⟩
 subst e
 have:=(Mst.wants_t hq.1.1).2
 simp [Mst.beats] at this
theorem Zero.hits {b:Bus} {r:Req} (h:Zero b [r]) (hr:r.ok=true) (hh:b.holder=-1):b.pick.2.1=0:=by
 have hm:mAt b ((0:Nat):Int)=⟨[r],0,0,0,false,false⟩:=mAt_of (k:=((0:Nat):Int)) h.z0
 have hs:sAt b ((0:Nat):Int)=0:=sAt_of (k:=((0:Nat):Int)) h.zs
 have hpos:=beats_pos hr
 have hb:Mst.beats ⟨[r],0,0,0,false,false⟩=AL.beats r.burst:=rfl
 have hrt:Rt ⟨[r],0,0,0,false,false⟩:=⟨show 1≤4 by decide,Int.le_refl 0,fun x hx=>by rw[List.mem_singleton.1 hx];exact hr,fun e=>(by cases e),fun _=>by rw[hb];simp only;omega⟩
 have hw:b.want 0=true:=by
  unfold Bus.want Mst.wants
  rw[hm,hs,hrt.to,hh,hb]
  simp;omega
 obtain⟨bk,mc,e1,e2,e3,e4,e5,e6,e7⟩:=h.zb
 have hok:bk.ok mc=true:=by
  unfold Bucket.ok inB
  rw[if_pos e3]
  simp only[Bool.and_eq_true,decide_eq_true_eq];omega
 have ht:b.hit 0=true:=by
  unfold Bus.hit
  rw[hw,bAt_of (k:=((0:Nat):Int)) e1,cAt_of (k:=((0:Nat):Int)) e2]
  unfold Bucket.take
  rw[e3,hok,if_pos (by simp;omega)];rfl
 rw[pick_b (.inl hh) (fun j hj=>absurd hj (Nat.not_lt_zero j)) (List.getElem?_eq_some_iff.1 h.z0).1 ht];rfl
theorem Zero.grant {b:Bus} {q:List Req} (h:Zero b q) (hr:b.pick.2.1=-1∨0≤b.pick.2.1):(b.grant.2=0∧b.pick.2.1=0∧q≠[])∨(b.grant.2≠0∧b.pick.2.1≠0∧Zero b.grant.1 q∧b.grant.1.data=b.data∧b.grant.1.conf=b.conf∧(b.holder≠-1→b.grant.1.holder=b.holder∧b.grant.1.kept=b.kept)):=by
 obtain⟨b1,who,via,hp⟩:∃ x y z,b.pick=(x,y,z):=⟨_,_,_,rfl⟩
 obtain⟨⟨bs,w,rfl⟩,hw,hbk⟩:=pick_more hp
 rw[hp] at hr ⊢
 simp only at hr ⊢
 rcases hr with e|e
 ·right
  subst e
  rw[grant_no hp (by decide)]
  exact⟨(show(-1:Int)≠0 by decide),by decide,h.of rfl h.zh rfl (hbk 0 (by decide)) rfl (.inl rfl),rfl,rfl,fun _=>⟨rfl,rfl⟩⟩
 ·by_cases h0:who=0
  ·subst h0
   left
   rw[grant_yes hp (by decide)]
   exact⟨Y,Y,(h.want (hw (by decide))).1⟩
  ·right
   rw[grant_yes hp (by omega)]
   refine⟨h0,h0,h.of (wset_ne (by omega)) ?_ Y (hbk 0 h0) Y ?_,Y,Y,fun k=>⟨if_neg (fun k2=>k k2.2),if_neg (fun k2=>k k2.2)⟩⟩
   ·show(if _ then who else b.holder)≠0
    split
    ·exact h0
    ·exact h.zh
   ·show(if _ then 0 else b.kept)=_∨(if _ then 0 else b.kept)=_
    split
    ·exact .inr Y
    ·exact .inl Y
def mu (b:Bus):Int:=(if b.holder=-1 then 0 else 7 * (b.conf.lockMost-b.kept))+gap b.data
theorem pick_rg {b:Bus} {T:Int} (h:Behind b T):b.pick.2.1=-1∨0≤b.pick.2.1:=by
 unfold Bus.pick
 split
 ·rcases h.holder with k|k
  ·exact .inl k
  ·exact .inr k.1
 ·split
  ·exact .inr (by simp only;omega)
  ·split
   ·exact .inl Y
   ·rcases wpick_bd (w:=b.arb) (req:=b.wants) h.f.cok with k|k
    ·exact .inl k
    ·exact .inr k.1
theorem Inv.zstep {b:Bus} {s:Script} {q:List Req} (h:Inv b) (hs:s.small) (hz:Zero (b.pre s) q) (hk:(b.pre s).kept=(if b.holder=-1 then b.kept else min (b.kept+1) b.conf.lockMost)) (hk2:b.kept≤b.conf.lockMost) :
 ((b.step s).2=0∧q≠[])∨((b.step s).2≠0∧Zero (b.step s).1 q∧(b.step s).1.conf=b.conf∧(∀ r,q=[r]→r.ok=true→mu (b.step s).1<mu b)):=by
 have hp:=h.pre hs
 obtain⟨b4,rdy,st,e⟩:∃ x y z,(b.pre s).finish s=(x,y,z):=⟨_,_,_,rfl⟩
 obtain⟨hm,_,_,f4⟩:=hp.finish e
 obtain⟨z4,zc,zn,zr⟩:=hz.finish hp e
 have hph:(b.pre s).holder=b.holder:=rfl
 have hpd:(b.pre s).data=b.data:=rfl
 have hpc:(b.pre s).conf=b.conf:=rfl
 rw[hph] at zn zr
 rw[hpd] at zn
 rw[hpc] at zc
 rw[hk] at zn zr
 have he:b.step s=({ (b4.next rdy s).1 with now:=IntKind.wrap .i64 ((b4.next rdy s).1.now+1) },(b4.next rdy s).2):=by unfold Bus.step;rw[e]
 rw[he]
 cases rdy with
 | false =>
   right
   obtain⟨n1,n2,n3⟩:=zn rfl
   have hnx:b4.next false s=(b4,-1):=rfl
   rw[hnx]
   refine⟨(show(-1:Int)≠0 by decide),z4.of Y z4.zh Y Y Y (.inl Y),zc,fun r _ _=>?_⟩
   show(if b4.holder=-1 then 0 else 7 * (b4.conf.lockMost-b4.kept))+gap b4.data<_
   unfold mu
   rw[n1,n2,zc]
   split
   ·omega
   ·omega
 | true =>
   obtain⟨u1,u2,u3,u4⟩:=unlocked_more b4
   obtain⟨h1,h2,h3⟩:=hm.unlocked.moved (s:=s) (by rw[u1];exact f4 Y)
   obtain⟨v1,v2,v3,v4,v5,v6⟩:=moved_more b4.unlocked s
   obtain⟨w1,w2⟩:=moved_same b4.unlocked s
   have hnx:b4.next true s=(b4.unlocked.moved s).grant:=rfl
   rw[hnx]
   have zu:Zero b4.unlocked q:=by
    unfold Bus.unlocked
    split
    ·rename_i hc
     have h0:=z4.zh
     refine z4.of (wset_ne ?_) (show(-1:Int)≠0 by decide) Y Y Y (.inr Y)
     rcases hm.holder with k|k
     ·exact absurd k hc.1
     ·omega
    ·exact z4
   have zm:Zero (b4.unlocked.moved s) q:=zu.of (by rw[w1]) (by rw[w2];exact zu.zh) (by rw[v6]) (by rw[v5]) v3 (.inl v4)
   rcases zm.grant (pick_rg h1) with⟨g1,_,g3⟩|⟨g1,g0,g2,g3,g4,g5⟩
   ·exact .inl ⟨g1,g3⟩
   ·right
    refine⟨g1,g2.of Y g2.zh Y Y Y (.inl Y),?_,fun r hq hr=>?_⟩
    ·show(b4.unlocked.moved s).grant.1.conf=_
     rw[g4,v3,u4,zc]
    ·subst hq
     have hne:(b4.unlocked.moved s).holder≠-1:=fun k=>g0 (zm.hits hr k)
     rw[w2] at hne
     have hun:b4.unlocked=b4:=by
      unfold Bus.unlocked
      split
      ·rename_i hc
       exfalso
       apply hne
       unfold Bus.unlocked
       rw[if_pos hc];rfl
      ·rfl
     have hkl:b4.kept≠b4.conf.lockMost:=fun k=>by
      apply hne
      rw[hun] at hne
      unfold Bus.unlocked
      rw[if_pos ⟨hne,k⟩];rfl
     obtain⟨g6,g7⟩:=g5 (by rw[w2];exact hne)
     rw[hun] at hne
     obtain⟨q1,q2⟩:=zr.resolve_left hne
     have hlf:=(h1.lf)
     have hgd:=gap_bd (d:=(b4.unlocked.moved s).data) hlf
     have hgb:=gap_bd h.lf
     show(if(b4.unlocked.moved s).grant.1.holder=-1 then 0 else 7 * ((b4.unlocked.moved s).grant.1.conf.lockMost-(b4.unlocked.moved s).grant.1.kept))+gap (b4.unlocked.moved s).grant.1.data<_
     unfold mu
     rw[g6,g7,g3,g4,w2,v3,v4,u4,zc]
     rw[hun] at hgd ⊢
     rw[zc] at hkl
     rw[if_neg hne,if_neg (by rw[←q1];exact hne),q2,if_neg (by rw[←q1];exact hne)]
     rw[q2,if_neg (by rw[←q1];exact hne)] at hkl
     omega
theorem mconf_bits {c:Conf} (h:c.ok=true) {m:MConf} (hm:m∈c.masters):m.mild∧(m.prio=true→1≤m.cap∧m.cap≤8∧1≤m.every):=by
 have hb:=conf_bits h
 have h2:=h
 unfold Conf.ok at h2
 simp only[Bool.and_eq_true,List.all_eq_true] at h2
 have hk:=h2.2 m hm
 unfold MConf.ok at hk
 simp only[Bool.and_eq_true] at hk
 by_cases hp:m.prio=true
 ·rw[if_pos hp] at hk
  simp only[Bool.and_eq_true] at hk
  have a:=inB_t hk.2.1
  have b:=inB_t hk.2.2
  have hq:1≤priosOf c.masters:=List.countP_pos_iff.2 ⟨m,hm,hp⟩
  have hl:1 * 1≤(2 * c.slot) * (priosOf c.masters:Int):=Int.mul_le_mul (by omega) (by omega) (by omega) (by omega)
  have hl2:1≤c.least:=by unfold Conf.least;omega
  exact⟨⟨by omega,by omega,by omega,by omega,fun _=>by omega⟩,fun _=>⟨by omega,by omega,by omega⟩⟩
 ·rw[if_neg hp] at hk
  simp only[Bool.and_eq_true,decide_eq_true_eq] at hk
  exact⟨⟨by omega,by omega,by omega,by omega,fun k=>absurd k hp⟩,fun k=>absurd k hp⟩
theorem new_is {c:Conf} (h:c.ok=true):newBus c=bus1 c:=by unfold newBus;rw[if_pos h]
theorem new_fine {c:Conf} (h:c.ok=true):(newBus c).fine:=by
 have hc:=conf_pos h
 refine⟨newBus_small c (by omega),by rw[new_is h];exact h,fun m hm=>?_,?_,?_,?_⟩
 ·rw[new_is h] at hm;exact(mconf_bits h hm).1
 ·rw[new_is h];simp [bus1]
 ·rw[new_is h];simp [bus1]
 ·rw[new_is h];simp [bus1]
theorem rt0:Rt mst0:=⟨by decide,Int.le_refl 0,fun r hr=>(nomatch hr),fun _=>⟨rfl,rfl,rfl,rfl,rfl⟩,fun k=>absurd rfl k⟩
theorem new_inv {c:Conf} (h:c.ok=true):Inv (newBus c):=by
 refine⟨new_fine h,?_,?_,?_,?_⟩
 ·rw[new_is h]
  refine⟨fun k m hm=>?_,fun e=>(by cases e),fun e=>(by cases e),fun e=>(by cases e),.inl Y⟩
  have e:m=mst0:=List.eq_of_mem_replicate (List.mem_of_getElem? hm)
  subst e
  exact⟨rt0,Int.le_refl 0,by rw[flw_no rfl,flw_no rfl];rfl⟩
 ·rw[new_is h];exact⟨Int.le_refl 0,by show(0:Int)<_;omega⟩
 ·rw[new_is h];exact Int.le_refl 0
 ·rw[new_is h];show(0:Int)≤5;omega
theorem new_zero {c:Conf} {m:MConf} (h:c.ok=true) (hm:c.masters[0]?=some m) (hp:m.prio=true):Zero (newBus c) []:=by
 have hb:=conf_bits h
 obtain⟨_,h2⟩:=mconf_bits h (List.mem_of_getElem? hm)
 obtain⟨a,b,d⟩:=h2 hp
 have hc:=conf_pos h
 rw[new_is h]
 refine⟨?_,by show(-1:Int)≠0;decide,?_,⟨⟨m.cap,0⟩,m,?_,hm,hp,a,rfl,Int.le_refl 0,by show(0:Int)<_;omega⟩,by show(0:Int)≤0∧(0:Int)≤c.lockMost;omega⟩
 ·show(List.replicate _ mst0)[0]?=_
  rw[List.getElem?_replicate,if_pos (by omega)];rfl
 ·show(List.replicate _ (0:Int))[0]?=_
  rw[List.getElem?_replicate,if_pos (by omega)]
 ·show(c.masters.map MConf.newB)[0]?=_
  rw[List.getElem?_map,hm]
  show some (MConf.newB m)=_
  unfold MConf.newB
  rw[if_pos hp,show max 0 m.cap=m.cap by omega]
theorem all_rg {n:Nat} {p:Nat→Bool} (h:∀ i,i<n→p i=true):(List.range n).all p=true:=List.all_eq_true.2 fun i hi=>h i (List.mem_range.1 hi)
theorem model0_ok:model0.ok=true:=by
 have e1:((model0.ram.length:Nat):Int)=192:=by show((List.replicate 192 (0:Int)).length:Int)=192;rw[List.length_replicate];rfl
 have e2:model0.ram.all byteB=true:=List.all_eq_true.2 fun x hx=>by rw[List.eq_of_mem_replicate (show x∈List.replicate 192 (0:Int) from hx)];rfl
 unfold Model.ok
 rw[decide_eq_true e1,e2];rfl
theorem new_okB {c:Conf} (h:c.ok=true):(newBus c).okB=true:=by
 have hb:=conf_bits h
 have hc:=conf_pos h
 rw[new_is h]
 have hl:(bus1 c).ms.length=c.masters.length:=by simp [bus1]
 have hmA:∀ i:Nat,i<c.masters.length→mAt (bus1 c) i=mst0:=fun i hi=>mAt_of (k:=(i:Int)) (by rw[Int.toNat_natCast];show(List.replicate _ mst0)[i]?=_;rw[List.getElem?_replicate,if_pos hi])
 have hsA:∀ i:Nat,i<c.masters.length→sAt (bus1 c) i=0:=fun i hi=>sAt_of (k:=(i:Int)) (by rw[Int.toNat_natCast];show(List.replicate _ (0:Int))[i]?=_;rw[List.getElem?_replicate,if_pos hi])
 have h1:mastersB (bus1 c)=true:=by
  unfold mastersB evenB
  simp only[Bool.and_eq_true]
  refine⟨by simp [bus1],all_rg fun i hi=>?_⟩
  rw[hl] at hi
  obtain⟨m,hm⟩:∃ m,c.masters[i]?=some m:=⟨_,List.getElem?_eq_getElem hi⟩
  unfold mOkAt
  rw[hmA i hi,hsA i hi,cAt_of (k:=(i:Int)) (m:=m) (by rw[Int.toNat_natCast];exact hm),bAt_of (k:=(i:Int)) (m:=m.newB) (by rw[Int.toNat_natCast];show(c.masters.map MConf.newB)[i]?=_;rw[List.getElem?_map,hm];rfl),rt0.to]
  have hk:=h
  unfold Conf.ok Conf.slot at hk
  obtain⟨h3,h4⟩:=mconf_bits h (List.mem_of_getElem? hm)
  have hms:0≤c.maxSplit:=by
   simp only[Bool.and_eq_true] at hk
   have:=inB_t hk.1.1.2;omega
  have hmr:0≤c.maxRetry:=by
   have hz:=hb.2.2.1
   unfold Conf.cost at hz
   split at hz
   ·rename_i h2
    simp only[Bool.and_eq_true] at h2
    exact(inB_t h2.1).1
   ·omega
  have hbk:m.newB.ok m=true:=by
   unfold MConf.newB Bucket.ok inB
   split
   ·rename_i hp
    have:=h4 hp
    simp;omega
   ·simp
  rw[hbk]
  show(true && decide ((0:Int)≤c.maxRetry) && true && inB 0 0 c.maxSplit)=true
  simp [inB,hms,hmr]
 have h2:beatsB (bus1 c)=true:=by
  unfold beatsB
  simp only[Bool.and_eq_true]
  refine⟨⟨all_rg fun i hi=>?_,Y⟩,Y⟩
  rw[hl] at hi
  unfold wOkAt
  rw[hmA i hi]
  exact Y
 have h3:heldB (bus1 c)=true:=by
  unfold heldB
  simp only[Bool.and_eq_true]
  refine⟨all_rg fun i hi=>?_,Y⟩
  rw[hl] at hi
  unfold heldAt
  rw[hmA i hi];rfl
 have h4:(bus1 c).arb.ok c=true:=by
  unfold Wrr.ok
  have ht:0≤c.turn 0:=(by have:=ok_turn (k:=0) h (by unfold inB;simp;omega);omega)
  rw[h]
  show(true && inB 0 0 _ && inB 0 0 (c.turn 0))=true
  simp [inB];omega
 unfold Bus.okB
 rw[h1,h2,h3]
 show(c.ok && inB 0 0 4000 && true && (bus1 c).arb.ok c && _ && model0.ok && inB 0 0 0 && true && true && true)=true
 rw[h,h4,model0_ok]
 rfl
theorem caps_ge {k:Int} (hk:0≤k∧k≤130):∀ (l:List MConf) (s:Int),(∀ m,m∈l→m.prio=true→1≤m.cap∧m.cap≤8)→0≤s→s+1170 * l.length≤1000000→s≤l.foldl (caps1 k) s∧l.foldl (caps1 k) s≤s+1170 * l.length
 | [],s,_,_,_=>by simp
 | m::l,s,h,h0,h1=>by
   simp only[List.length_cons] at h1
   have hstep:s≤caps1 k s m∧caps1 k s m≤s+1170:=by
    unfold caps1
    split
    ·rename_i hp
     have hc:=h m (List.mem_cons_self ..) hp
     have e1:0 * 0≤(m.cap+1) * k:=Int.mul_le_mul (by omega) hk.1 (by omega) (by omega)
     have e2:(m.cap+1) * k≤9 * 130:=Int.mul_le_mul (by omega) hk.2 (by omega) (by omega)
     rw[wrap_id (show _∧m.cap+1≤_ by omega),wrap_id (show _∧(m.cap+1) * k≤_ by omega),wrap_id (by omega)]
     omega
    ·omega
   obtain⟨i1,i2⟩:=caps_ge hk l (caps1 k s m) (fun x hx=>h x (List.mem_cons_of_mem _ hx)) (by omega) (by omega)
   simp only[List.foldl_cons,List.length_cons]
   omega
theorem first_ge {c:Conf} {m:MConf} (h:c.ok=true) (hm:c.masters[0]?=some m) (hp:m.prio=true):7 * c.lockMost+7≤c.first:=by
 obtain⟨_,h2,h3,h4⟩:=conf_bits h
 have hs:=c.slot_bd
 have hc:=conf_pos h
 have hcap:=fun x (hx:x∈c.masters) (hp:x.prio=true)=>(mconf_bits h hx).2 hp
 have hb:2 * c.slot≤c.caps∧c.caps≤4680:=by
  unfold Conf.caps
  cases e:c.masters with
  | nil=>rw[e] at hm;cases hm
  | cons x l =>
    rw[e] at hm;cases hm
    rw[e] at hc
    simp only[List.length_cons] at hc
    have hc1:=hcap m (by rw[e];exact List.mem_cons_self ..) hp
    have e1:2 * c.slot≤(m.cap+1) * c.slot:=Int.mul_le_mul_of_nonneg_right (by omega) hs.1
    have e2:(m.cap+1) * c.slot≤9 * 130:=Int.mul_le_mul (by omega) hs.2 (by omega) (by omega)
    have e3:caps1 c.slot 0 m=(m.cap+1) * c.slot:=by
     unfold caps1
     rw[if_pos hp,wrap_id (show _∧m.cap+1≤_ by omega),wrap_id (show _∧(m.cap+1) * c.slot≤_ by omega),Int.zero_add,wrap_id (by omega)]
    have:=caps_ge hs l ((m.cap+1) * c.slot) (fun x hx hp=>by have:=hcap x (by rw[e];exact List.mem_cons_of_mem _ hx) hp;omega) (by omega) (by omega)
    rw[List.foldl_cons,e3]
    omega
 unfold Conf.first
 rw[if_pos h,wrap_id (show _∧c.caps+c.slot≤_ by omega),wrap_id (show _∧2 * (c.caps+c.slot)≤_ by omega),wrap_id (by omega)]
 omega
theorem first_bd (c:Conf):0≤c.first∧c.first≤20000:=by
 unfold Conf.first
 cases h:c.ok with
 | false=>simp
 | true =>
   have hs:=c.slot_bd
   have hc:=conf_pos h
   have hb:=caps_ge hs c.masters 0 (fun x hx hp=>by have:=(mconf_bits h hx).2 hp;omega) (by omega) (by omega)
   have hb2:0≤c.caps∧c.caps≤4680:=by unfold Conf.caps;omega
   rw[if_pos rfl,wrap_id (show _∧c.caps+c.slot≤_ by omega),wrap_id (show _∧2 * (c.caps+c.slot)≤_ by omega),wrap_id (by omega)]
   omega
theorem fit_small {s:Script} (h:s.fit):s.small:=by
 refine⟨?_,fun p hp=>?_,?_,?_⟩
 ·have:=h.1;omega
 ·show p.req.data.length≤1048576
  have:=h.2.1 p hp;omega
 ·have:=h.2.2.1.1;omega
 ·have:=h.2.2.2.1;omega
theorem posted_no {b:Bus} {s:Script} {t:Int} {q:List Req} (hz:b.ms[0]?=some ⟨q,0,0,0,false,false⟩) (hn:b.now≠t):(b.posted (scr s t)).ms[0]?=some ⟨q,0,0,0,false,false⟩:=by
 refine posts_zero _ _ (fun p hp=>?_) hz
 have h:=List.mem_filter.1 hp
 rcases List.mem_append.1 h.1 with k|k
 ·exact(keepP_in k).2
 ·rw[List.mem_singleton.1 k] at h
  have:=h.2
  simp only[decide_eq_true_eq] at this
  exact absurd this.symm hn
theorem posted_yes {b:Bus} {s:Script} {t:Int} (hf:b.fine) (hz:b.ms[0]?=some ⟨[],0,0,0,false,false⟩) (hn:b.now=t) (hr:req2.ok=true):(b.posted (scr s t)).ms[0]?=some ⟨[req2],0,0,0,false,false⟩:=by
 have hc:=conf_pos hf.cok
 have e:(scr s t).postsAt b.now=((keepP t s.posts).filter fun p=>decide (p.moment=b.now))++[⟨t,0,req2⟩]:=by
  unfold Script.postsAt scr
  rw[List.filter_append]
  simp [hn]
 show(postsM b.conf b.ms ((scr s t).postsAt b.now))[0]?=_
 rw[e]
 unfold postsM
 rw[List.foldl_append]
 have h1:=posts_zero (c:=b.conf) ((keepP t s.posts).filter fun p=>decide (p.moment=b.now)) b.ms (fun p hp=>(keepP_in (List.mem_filter.1 hp).1).2) hz
 show(postStep b.conf (postsM b.conf b.ms _) ⟨t,0,req2⟩)[0]?=_
 unfold postStep
 rw[if_pos (by unfold inB;simp;omega)]
 show((postsM b.conf b.ms _).set 0 _)[0]?=_
 rw[wset_is h1]
 congr 1
 show((((postsM b.conf b.ms _)[0]?).getD mstQ).post req2).1=_
 rw[h1]
 show(Mst.post ⟨[],0,0,0,false,false⟩ req2).1=_
 unfold Mst.post Mst.postC
 rw[hr]
 rfl
theorem first_go {c:Conf} {s:Script} {t:Int} {m:MConf} {N:Nat} (hs:s.fit) (hm:c.masters[0]?=some m) (hp:m.prio=true) (hok:(scr s t).ok c=true) (ht:0≤t) (hN:(N:Int)=t+c.first+1) (h4:t+c.first+1≤4000) :
 (newBus c).okB=true∧(newBus c).now=0∧((newBus c).runs (scr s t) N).small∧(∀ k,k<N→StepOk ((newBus c).runs (scr s t) k) (scr s t))∧∃ i:Nat,t≤i∧i<N∧(((newBus c).runs (scr s t) i).step (scr s t)).2=0:=by
 have hok2:=hok
 unfold Script.ok at hok2
 simp only[Bool.and_eq_true] at hok2
 have hc:c.ok=true:=hok2.1.1.1.1
 have hr:req2.ok=true:=by
  have h1:=List.all_eq_true.1 hok2.2 (keepP t s.posts).length (List.mem_range.2 (by simp [scr]))
  unfold okAt at h1
  rw[show(scr s t).posts[(keepP t s.posts).length]?=some ⟨t,0,req2⟩ by simp [scr]] at h1
  simp only[Bool.and_eq_true] at h1
  exact h1.1.2
 have hsm:=scr_small hs t
 have hi:=new_inv hc
 have hb:=conf_bits hc
 have h0:(newBus c).now=0:=by rw[new_is hc];rfl
 have hcf:(newBus c).conf=c:=by rw[new_is hc];rfl
 have hru:=fun (k:Nat) (hk:k≤4000)=>hi.runs hsm k (by omega)
 have hge:=first_ge hc hm hp
 obtain⟨T,rfl⟩:∃ T:Nat,t=(T:Int):=⟨t.toNat,by omega⟩
 refine⟨new_okB hc,h0,(hru N (by omega)).1.f.small,fun k hk=>(hru k (by omega)).1.stepOk hsm,?_⟩
 have before:∀ k:Nat,k≤T→Zero ((newBus c).runs (scr s T) k) []∧((newBus c).runs (scr s T) k).conf=c:=by
  intro k
  induction k with
  | zero=>exact fun _=>⟨new_zero hc hm hp,hcf⟩
  | succ k ih =>
    intro hk
    obtain⟨z,zc⟩:=ih (by omega)
    obtain⟨ri,rn⟩:=hru k (by omega)
    have hzk:=z.zk
    rw[zc] at hzk
    obtain⟨zp,zk⟩:=z.pre (s:=scr s T) (by omega) ri.f (posted_no z.z0 (by rw[rn,h0];omega))
    rcases ri.zstep hsm zp zk (by rw[zc];exact hzk.2) with⟨_,k2⟩|⟨_,z2,c2,_⟩
    ·exact absurd Y k2
    ·exact⟨z2,c2.trans zc⟩
 have after:∀ j:Nat,T+j<N→(∃ i:Nat,(T:Int)≤i∧i<N∧(((newBus c).runs (scr s T) i).step (scr s T)).2=0)∨(Zero ((newBus c).runs (scr s T) (T+(j+1))) [req2]∧((newBus c).runs (scr s T) (T+(j+1))).conf=c∧mu ((newBus c).runs (scr s T) (T+(j+1)))+(j+1)≤7 * c.lockMost+6):=by
  intro j
  have go:∀ k:Nat,T≤k→k<N→((newBus c).runs (scr s T) k).conf=c→(Zero ((newBus c).runs (scr s T) k) []∧k=T∨Zero ((newBus c).runs (scr s T) k) [req2]∧T<k)→(∃ i:Nat,(T:Int)≤i∧i<N∧(((newBus c).runs (scr s T) i).step (scr s T)).2=0)∨(Zero ((newBus c).runs (scr s T) (k+1)) [req2]∧((newBus c).runs (scr s T) (k+1)).conf=c∧mu ((newBus c).runs (scr s T) (k+1))<mu ((newBus c).runs (scr s T) k)):=by
   intro k hk1 hk2 zc hz
   obtain⟨ri,rn⟩:=hru k (by omega)
   have hzk:0≤((newBus c).runs (scr s T) k).kept∧((newBus c).runs (scr s T) k).kept≤c.lockMost:=by
    rcases hz with⟨z,_⟩|⟨z,_⟩
    ·have:=z.zk;rw[zc] at this;exact this
    ·have:=z.zk;rw[zc] at this;exact this
   obtain⟨zp,zk⟩:Zero (((newBus c).runs (scr s T) k).pre (scr s T)) [req2]∧_:=by
    rcases hz with⟨z,e⟩|⟨z,e⟩
    ·exact z.pre (s:=scr s T) (by omega) ri.f (posted_yes ri.f z.z0 (by rw[rn,h0];omega) hr)
    ·exact z.pre (s:=scr s T) (by omega) ri.f (posted_no z.z0 (by rw[rn,h0];omega))
   rcases ri.zstep hsm zp zk (by rw[zc];exact hzk.2) with⟨k1,_⟩|⟨_,z2,c2,m2⟩
   ·exact .inl ⟨k,by omega,hk2,k1⟩
   ·exact .inr ⟨z2,c2.trans zc,m2 req2 Y hr⟩
  induction j with
  | zero =>
    intro hj
    obtain⟨z,zc⟩:=before T (Nat.le_refl _)
    obtain⟨ri,_⟩:=hru T (by omega)
    rcases go T (Nat.le_refl _) (by omega) zc (.inl ⟨z,rfl⟩) with h|⟨z2,c2,m2⟩
    ·exact .inl h
    ·refine .inr ⟨z2,c2,?_⟩
     have hg:=gap_bd ri.lf
     have hzk:=z.zk
     rw[zc] at hzk
     have hmu:mu ((newBus c).runs (scr s T) T)≤7 * c.lockMost+6:=by
      unfold mu
      rw[zc]
      split <;> omega
     show mu ((newBus c).runs (scr s T) (T+1))+_≤_
     have m3:mu ((newBus c).runs (scr s T) (T+1))<mu ((newBus c).runs (scr s T) T):=m2
     omega
  | succ j ih =>
    intro hj
    rcases ih (by omega) with h|⟨z,zc,zm⟩
    ·exact .inl h
    ·rcases go (T+(j+1)) (by omega) (by omega) zc (.inr ⟨z,by omega⟩) with h|⟨z2,c2,m2⟩
     ·exact .inl h
     ·refine .inr ⟨z2,c2,?_⟩
      have m3:mu ((newBus c).runs (scr s T) (T+(j+1+1)))<mu ((newBus c).runs (scr s T) (T+(j+1))):=m2
      omega
 obtain⟨J,hJ⟩:∃ J:Nat,(J:Int)=7 * c.lockMost+6:=⟨(7 * c.lockMost+6).toNat,by omega⟩
 rcases after J (by omega) with h|⟨z,zc,zm⟩
 ·exact h
 ·exfalso
  obtain⟨ri,_⟩:=hru (T+(J+1)) (by omega)
  have hg:=gap_bd ri.lf
  have hzk:=z.zk
  unfold mu at zm
  split at zm <;> omega
set_option maxHeartbeats 1000000 in
theorem c_120 (code:List Int) (hw:code.length≤140737488355328) (hu:∀ y,y∈code→u8 y):CV prg 120 [.sl 1 (code.map uR)] (fun res=>res=.w (.bool true)):=by
 refine cv_in g120 (Ei [0] Y (Et (Ea Y (Em [0] Y (Ey (Et (Ea Y (Ev Y Y (c_123 _ (by assumption)) (Em [0,16] Y (Ew Y ?_ ?_))))))))))
 intro h1
 refine Et (Ea Y (Em [2] Y (Eh (Ep (Ef Y Y ?_)))))
 rotate_left
 intro h1
 have hc:code.length≤1048576:=by simp at h1;omega
 refine z_s [0] Y (Et (Ea Y (s_callP Y Y (c_194 _ hc) ?_)))
 rintro u ⟨x,s,k,rfl,hx,hs⟩
 refine Ea Y (u_ext Y Y (u_ext Y Y (u_ext Y Y (Fu Y Y (Fu Y Y (Eo (Er Y Y Y Y Y Y Y) (Eo (Er Y Y Y Y Y Y Y) (Ea Y (Em [0,3,4] Y (Ey (Et (En Y Y Y (En Y Y Y (Ev Y Y (c_212 x s (fit_small hs) (by omega)) (Fk Y (Ea Y (s_gNF Y ?_ ?_)))))))))))))))))
 intro h2
 refine Ee Y (Ec Y (Ej Y Y Y (Ec Y (s_iaM Y Y (by have:=(sok_pos (by assumption)).1;omega) ?_))))
 intro y3 e3
 have hm0:x.masters[0]?=some y3:=e3
 refine Ec Y (u_fa Y (Ec Y (u_ld Y Y (Ec Y (Fk Y (Ed Y Y (Em [0,3,4,34] Y (s_condNB Y ?_ ?_))))))))
 intro h4
 refine Et (En Y Y Y (Ev Y Y (c_44 x (by omega)) (En Y Y Y (Ev Y Y (c_197 x (by omega)) (Fm Y Y (Ea Y (Em [2] Y (Eh (Ep (Ef Y Y ?_))))))))))
 rotate_left
 intro h4
 refine z_s [0,3,4] Y (Et (Ee Y (Ej Y Y Y (Ee Y (Ej Y Y Y (u_bd Y Y (Fu Y Y (Eo (Er Y Y Y Y Y Y Y) (z_q [0,3,4,6] Y (Ea Y (s_callP Y Y (c_122z _ hu hc) ?_)))))))))))
 rintro u ⟨v,rfl,hv⟩
 refine u_rem Y Y (by decide) ?_
 obtain⟨t,ht⟩:∃ t,t=v.tmod 20:=⟨_,rfl⟩
 rw[←ht]
 have htb:0≤t∧t<20:=by rw[ht];exact tmod_bd hv (by omega)
 refine Ea Y (Em [3,4,6,7] Y (Ey (Et (Ea Y (Em [3,4,6,7,8] Y (Fh (s_nilC 2 0 8 Y Y Y Y Y (S_loop (ι:=Nat) (fun i=>i≤s.posts.length) (fun i=>[(8,.w (.int .i64 (i:Int)))]) (fun i=>[.cell x.r,.cell s.r,.cell [.ls 3 ((keepP t (s.posts.take i)).map Post.r).length,.sl 1 (s.waits.map iR),.sl 1 (s.says.map iR)],.arr 8 ((keepP t (s.posts.take i)).map Post.r)]) (fun i=>s.posts.length-i) 4 0 (by simp) Y (hasOf ⟨Y,trivial⟩ Y) Y (fun _ _=>Y) (fun _ _=>⟨Y,Y⟩) ?_))))))))
 intro i hi
 have hkl:=keepP_len hs t i
 have hs1:=hs.1
 obtain⟨p0,hp0⟩:=posAt0 s.posts i
 refine Ei [3,4,6,7,8] Y (Ey (Et (Ea Y (Ee Y (Ej Y Y Y (Fw Y (u_lss Y Y (Em [3,4,6,7,8,52] Y (Ew Y ?_ ?_)))))))))
 intro h5
 have hc:code.length≤1048576:=by simp at h5;omega
 refine z_s [3,4,6,7,8] Y (Ey (Fh (Et (Ee Y (Ej Y Y Y (Ea Y (s_iaM Y Y (by omega) ?_)))))))
 intro y6 e6
 simp only[Int.toNat_natCast] at e6
 have hQ:=(hp0 (by omega)).symm.trans e6;cases hQ
 refine u_fa Y (u_ld Y Y (u_neq Y Y (Ea Y (Ft Y ?_ ?_))))
 intro h7
 refine Ee Y (Ec Y (Ej Y Y Y (Ec Y (Ea Y (Ec Y (s_iaM Y Y (by omega) ?_))))))
 intro y8 e8
 simp only[Int.toNat_natCast] at e8
 have hQ:=(hp0 (by omega)).symm.trans e8;cases hQ
 refine Ec Y (u_fa Y (Ec Y (u_ld Y Y (Ek (is:=[3,4,6,7,8,62,63,64,65,66,67,68]) Y (Ec Y (Ea Y (Ec Y (u_leq Y Y (Eg Y Y (Em [3,4,6,7,8,63,64,65,66,67,68,69,70,71] Y (Ew Y ?_ ?_)))))))))))
 intro h9
 refine Fs (Ee Y (Ej Y Y Y (Ee Y (Ej Y Y Y (Ea Y (s_iaM Y Y (by omega) ?_))))))
 intro y10 e10
 simp only[Int.toNat_natCast] at e10
 have hQ:=(hp0 (by omega)).symm.trans e10;cases hQ
 refine u_ldn Y Y (Fa (o_bs Y Y Y Y) ?_)
 refine Fa (o_appL Y Y Y Y Y Y Y (by simp [roomy];omega)) ?_
 refine Ee Y (Eo (o_stC Y Y Y Y Y Y) (Ez (Fb (Eu (Ei [3,4,6,7,8,63,64,65,66,67,68,69,70] Y (Fs (Ea Y (Fa (Fn Y Y (by omega)) (Ea Y (Ez (Fp ?_)))))))))))
 ·refine⟨i+1,by omega,by omega,hasOf ⟨rfl,trivial⟩ ?_⟩;rw[keepP_yes (hp0 (by omega)) (by assumption) (by assumption),List.map_append];rfl
 intro h9
 have hc:code.length≤1048576:=by simp at h9;omega
 refine Fr (Fb (Eu (Ei [3,4,6,7,8,63,64,65,66,67,68,69,70] Y (Fs (Ea Y (Fa (Fn Y Y (by omega)) (Ea Y (Ez (Fp ?_)))))))))
 ·refine⟨i+1,by omega,by omega,hasOf ⟨rfl,trivial⟩ ?_⟩;rw[keepP_no (hp0 (by omega)) (by exact .inr (by assumption))];rfl
 intro h7
 rw[nnp] at h7
 iterate 6 refine Eb rfl ?_
 refine Ek (is:=[3,4,6,7,8,62,63,64,65,66,67,68]) Y (Eb Y (Eb Y (Ed Y Y (Em [3,4,6,7,8,63,64,65,66,67,68,69,70,71] Y (Fi Y (Fr (Fb (Eu (Ei [3,4,6,7,8,63,64,65,66,67,68,69,70] Y (Fs (Ea Y (Fa (Fn Y Y (by omega)) (Ea Y (Ez (Fp ?_)))))))))))))))
 ·refine⟨i+1,by omega,by omega,hasOf ⟨rfl,trivial⟩ ?_⟩;rw[keepP_no (hp0 (by omega)) (by exact .inl (by assumption))];rfl
 intro h5
 have hc:code.length≤1048576:=by simp at h5;omega
 refine s_exit (q_seqX (q_loopX (q_blkH (Eu (Ei [3,6,7] Y (Et ?_))))))
 have hkl2:(keepP t s.posts).length≤6:=by have:=keepP_len hs t s.posts.length;rwa [List.take_of_length_le (Nat.le_refl _)] at this
 rw[List.take_of_length_le (show s.posts.length≤i by omega)]
 refine Ee Y (Ej Y Y Y (Ea Y (u_bd Y Y (u_bd Y Y (Fa (o_bs Y Y Y Y) ?_)))))
 refine Fa (o_appL Y Y Y Y Y Y Y (by simp [roomy];omega)) ?_
 refine Ee Y (Eo (o_stC Y Y Y Y Y Y) (z_q [3,6,7] Y (En Y Y Y (Ev Y Y (c_44 x (by omega)) ?_))))
 have hfb:=first_bd x
 refine Ea Y (Em [3,6,7,9] Y (Ey (Et (En Y Y Y (En Y Y Y (s_callL Y Y (by simp) (c_212n x s t hs (by omega)) Y (Fk Y (Ea Y (s_gNF Y ?_ ?_)))))))))
 intro h11
 refine Ea Y (Ec Y (u_lss Y Y (Ed Y Y (Ea Y (s_gDF Y ?_ ?_)))))
 intro h12
 have hc:code.length≤1048576:=by simp at h12;omega
 refine Ea Y (Ec Y (Ea Y (Ec Y (Fa (Fn Y Y (by omega)) (Ec Y (Fa (Fn Y Y (by omega)) (Ec Y (u_gtr Y Y (Ed Y Y (Em [3,6,7,9,106] Y (Ew Y ?_ ?_)))))))))))
 intro h13
 refine Et (Ea Y (En Y Y Y (Ev Y Y (c_197 x (by omega)) (Fm Y Y (Ea Y (Em [2] Y (Eh (Ep (Ef Y Y ?_)))))))))
 rotate_left
 intro h13
 have hc:code.length≤1048576:=by simp at h13;omega
 refine z_s [3,6,7,9] Y (Et (En Y Y Y (Ev Y Y (c_181 x (by omega)) (Ea Y (u_ext Y Y (u_ext Y Y (Fu Y Y (Eo (Er Y Y Y Y Y Y Y) (Ea Y (z_q [6,7,9,10] Y ?_))))))))))
 obtain⟨N,hN⟩:∃ N:Nat,(N:Int)=t+x.first+1:=⟨(t+x.first+1).toNat,by omega⟩
 obtain⟨gok,g0,gz,gst,j0,gj1,gj2,gj3⟩:=first_go (N:=N) hs hm0 (by assumption) (by assumption) htb.1 hN (by omega)
 refine En Y Y Y (En Y Y Y (s_frzL [3] 118 (by simp) Y Y (by simp) Y (Ea Y (Ea Y (Fa (Fn Y Y (by omega)) (Fa (Fn Y Y (by omega)) ?_))))))
 rw[←hN]
 refine s_callP Y Y (c_32n x s t N hs (by omega) gok (by rw[g0];omega) (by rw[g0];omega) gz gst) ?_
 rintro u ⟨rows,rfl,hR⟩
 have hrl:=hR.1
 rw[←List.map_id rows]
 refine Ea Y (u_ext Y Y (u_ext Y Y (Fu Y Y (Eo (Er Y Y Y Y Y Y Y) (Ea Y (Em [7,13] Y (Ey (Et ?_))))))))
 refine Ea Y (Ea Y (Em [13,14] Y (Fh (S_loop (ι:=Nat) (fun i=>(t≤i∧i≤N)∧∀ j:Nat,t≤j→j<i→(((newBus x).runs (scr s t) j).step (scr s t)).2≠0) (fun i=>[(14,.w (.int .i64 (i:Int)))]) (fun i=>[.cell x.r,.cell s.r,.cell [.ls 3 ((keepP t s.posts).map Post.r++[pRow t]).length,.sl 1 (s.waits.map iR),.sl 1 (s.says.map iR)],.dead,.arr 8 [pRow t],.cell (newBus x).n,.cell ((newBus x).runs (scr s t) N).r]) (fun i=>N-i) 7 t.toNat ⟨by omega,fun j h1 h2=>by omega⟩ Y (hasOf ⟨by rw[Int.toNat_of_nonneg htb.1];rfl,trivial⟩ Y) Y (fun _ _=>Y) (fun _ _=>⟨Y,Y⟩) ?_))))
 intro i hi
 refine Ei [13,14] Y (Ey (Et (Ea Y (Ea Y (Fw Y (u_lss Y Y (Em [13,14,130] Y (Ew Y ?_ ?_))))))))
 intro h14
 have hc:code.length≤1048576:=by simp at h14;omega
 refine z_s [13,14] Y (Ey (Fh (Et (Ea Y (Ea Y (s_iaM Y Y (by omega) ?_))))))
 intro y15 e15
 simp only[Int.toNat_natCast] at e15
 have hk9:rows[i]?=some y15:=e15;obtain⟨ad,ki,wh,da,fr,rd,rs,rfl⟩:=hR.2 _ _ hk9
 refine u_fa Y (u_ld Y Y (Fm Y Y (Em [13,14,138] Y (Ew Y ?_ ?_))))
 intro h16
 refine Et (Ea Y (Em [2] Y (Eh (Fc (Ep (q_loopR (Fc (Ep (Ef Y Y ?_)))))))))
 rotate_left
 intro h16
 refine Fr (Fb (Eu (Ei [13,14] Y (Fs (Ea Y (Fa (Fn Y Y (by omega)) (Ea Y (Ez (Fp ?_)))))))))
 ·exact⟨i+1,⟨by omega,fun j k1 k2=>(by rcases Nat.lt_or_ge j i with k3|k3;exact hi.2 j k1 k3;rw[show j=i by omega];assumption)⟩,by omega,hasOf ⟨rfl,trivial⟩ rfl⟩
 intro h14
 have hc:code.length≤1048576:=by simp at h14;omega
 refine s_exit (q_seqX (q_loopX (q_blkH (Eu (Ei [] Y (Et (Ea Y (Em [2] Y (Eh (Ef Y Y ?_))))))))))
 rotate_left
 intro h12
 refine Eb Y (Eb Y (Eb Y (Eb Y (Eb Y (Eg Y Y (Em [3,6,7,9,106] Y (Fd Y (Et (Ea Y (En Y Y Y (Ev Y Y (c_197 x (by omega)) (Fm Y Y (Ea Y (Em [2] Y (Eh (Ep (Ef Y Y ?_)))))))))))))))))
 rotate_left
 intro h11
 refine Eb Y (Eb Y (Eg Y Y (Ea Y (Eb Y (Eb Y (Eb Y (Eb Y (Eb Y (Eg Y Y (Em [3,6,7,9,106] Y (Fd Y (Et (Ea Y (En Y Y Y (Ev Y Y (c_197 x (by omega)) (Fm Y Y (Ea Y (Em [2] Y (Eh (Ep (Ef Y Y ?_)))))))))))))))))))))
 rotate_left
 intro h2
 iterate 6 refine Eb rfl ?_
 refine Eg Y Y (Em [0,3,4,34] Y (Fd Y (Et (En Y Y Y (Ev Y Y (c_44 x (by omega)) (En Y Y Y (Ev Y Y (c_197 x (by omega)) (Fm Y Y (Ea Y (Em [2] Y (Eh (Ep (Ef Y Y ?_)))))))))))))
 rotate_left
 all_goals
  first|rfl|(simp;done)|(exfalso;exact hi.2 j0 gj1 (by omega) gj3)
end Go.Proofs.YtoppcdecolponaaGreat.AL
