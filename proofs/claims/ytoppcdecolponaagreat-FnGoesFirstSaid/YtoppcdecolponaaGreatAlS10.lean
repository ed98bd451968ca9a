/- Each step of the small language is a step of the model's: slices and strings,rows made. -/
import Derived.Test.YtoppcdecolponaaGreatAlS4
import Derived.Laws.IdiomStrings
import Derived.Laws.MakeOwn
import Derived.Laws.BytesArg
namespace Go.Proofs.YtoppcdecolponaaGreat.AL
open Go
set_option linter.unusedVariables false
set_option linter.unusedSimpArgs false
variable {no : No} {P : Program}
theorem rep_get' (z:List Value):∀ (n i:Nat) (u:Value),(List.replicate n z).flatten[i]?=some u→i<n * z.length∧z[i % z.length]?=some u
 | 0,i,u,h=>by simp at h
 | n+1,i,u,h=>by
   rw[List.replicate_succ,List.flatten_cons] at h
   by_cases hi:i<z.length
   ·rw[List.getElem?_append_left hi] at h
    exact⟨by rw[Nat.add_mul];omega,by rw[Nat.mod_eq_of_lt hi];exact h⟩
   ·rw[List.getElem?_append_right (by omega)] at h
    obtain⟨h1,h2⟩:=rep_get' z n (i-z.length) u h
    refine⟨by rw[Nat.add_mul];omega,?_⟩
    rw[Nat.mod_eq_sub_mod (by omega)]
    exact h2
theorem rep_len' (z:List Value) (n:Nat):(List.replicate n z).flatten.length=n * z.length:=by simp
section
variable {nt : Nat} {β : Inj} {tm : Tm} {a : Act} {m m1 : Mem} {w : World} {bs n n1 : Nat} {v : Value} {o : Oper}
theorem run_bltn (ρ:Operand→Value) {b:Builtin} {args:Array Operand} {ts:Array TypeId} (ho:o.op=.call { callee:=.builtin b,args,argTypes:=ts }) :
 (execOp ρ o).run P w=(builtin b ts o.type (args.map fun|.const _=>true|_=>false) (args.map ρ)).run P w:=by
 simp only[execOp,ho,resolve,Sem.run_bind,Sem.run_pure,Result.andThen_ok,invoke]
 rfl
theorem slice_of {β:Inj} {ad:Option Addr} {l c:Nat} {r:Value} (h:VRel no β (.slice ad l c) r):∃ ra c',r=.slice ra l c'∧c≤c'∧(ad=none→ra=none∧c'=c):=by
 cases h with
 | snil=>exact⟨_,_,rfl,Nat.le_refl _,fun _=>⟨rfl,rfl⟩⟩
 | slice hL hc hr=>exact⟨_,_,rfl,hc,fun h=>by cases h⟩
 | empty=>exact⟨_,_,rfl,Nat.zero_le _,fun h=>by cases h⟩
theorem s_cvbs {src dst e:TypeId} {x:Operand} {ex:E} (ho:o.op=.convert src dst x) (hx:cE no x=some ex) (hsrc:P.underlying src=some (.slice e)) (he8:P.underlying e=some (.int .u8)) (hdst:P.underlying dst=some .string)
 (hF:FRel no nt β tm a) (hM:MRel no β m w) (hs:stepO bs (.cvbs ex) tm m n=some (v,m1,n1)):Runs P no β m bs n n1 w (execOp a.eval o) v m1:=by
 have h1:=E.sim hF hx
 simp only[stepO] at hs
 split at hs
 ·rename_i ad l c hev
  rw[hev] at h1
  split at hs
  ·rename_i cs hcs
   split at hs
   ·rename_i bys hbs
    simp only[Option.some.injEq,Prod.mk.injEq] at hs
    obtain⟨rfl,rfl,rfl⟩:=hs
    obtain⟨hlen,hat⟩:=bytesV_at hbs
    unfold rdn at hcs
    split at hcs
    ·cases hcs
    ·rename_i hsp
     split at hcs
     ·rename_i blk hb
      split at hcs
      ·rename_i hle
       cases hcs
       generalize hr:a.eval x=rx at h1
       cases h1 with
       | @slice b o2 L _ _ c' hL hc hroom =>
         have hl:bys.length=l:=by rw[hlen];simp;simp at hle;omega
         subst hl
         refine .quiet hM (rv:=.string ⟨bys.toArray⟩) ?_ (.string _)
         have key:=run_convert_bytes_back (P:=P) w src dst e ⟨L.B,L.O+o2,none⟩ c' bys hsrc he8 hdst fun j hj=>by
          have h3:=hat j bys[j] (List.getElem?_eq_getElem hj)
          rw[List.getElem?_take_of_lt hj,List.getElem?_drop] at h3
          obtain⟨r,hr1,hr2⟩:=hM.cells b blk L hb hL _ _ h3
          cases hr2
          rw[addr_add,Nat.add_assoc]
          exact hr1
         simp [execOp,ho,hr,key]
       | empty=>simp at hsp
      ·cases hcs
     ·cases hcs
   ·cases hs
  ·cases hs
 ·rename_i l c hev
  rw[hev] at h1
  simp only[Option.some.injEq,Prod.mk.injEq] at hs
  obtain⟨rfl,rfl,rfl⟩:=hs
  generalize hr:a.eval x=rx at h1
  cases h1 with
  | snil =>
    refine .quiet hM (rv:=.string ⟨#[]⟩) ?_ (.string _)
    have key:=run_convert_bytes_nil (P:=P) (w:=w) src e hsrc he8 l c dst hdst
    simp [execOp,ho,hr,key]
    rfl
 ·cases hs
theorem s_len {t e:TypeId} {x:Operand} {ex:E} {args:Array Operand} {ts:Array TypeId} (ho:o.op=.call { callee:=.builtin .len,args,argTypes:=ts }) (ha:args = #[x]) (hts:ts[0]?=some t) (ht:P.underlying t=some (.slice e))
 (hx:cE no x=some ex) (hF:FRel no nt β tm a) (hM:MRel no β m w)
 (hs:stepO bs (.len ex) tm m n=some (v,m1,n1)):Runs P no β m bs n n1 w (execOp a.eval o) v m1:=by
 have h1:=E.sim hF hx
 simp only[stepO] at hs
 split at hs
 ·rename_i ad l c he
  simp only[Option.some.injEq,Prod.mk.injEq] at hs
  obtain⟨rfl,rfl,rfl⟩:=hs
  rw[he] at h1
  obtain⟨ra,c',hr,_⟩:=slice_of h1
  refine .quiet hM (rv:=.int .i64 l) ?_ (.int _ _)
  rw[run_bltn _ ho]
  simp [ha,builtin,Builtin.len_,hts,run_underlying ht,hr,goInt]
 ·cases hs
theorem s_lens {t:TypeId} {x:Operand} {ex:E} {args:Array Operand} {ts:Array TypeId} (ho:o.op=.call { callee:=.builtin .len,args,argTypes:=ts }) (ha:args = #[x]) (hts:ts[0]?=some t) (ht:P.underlying t=some .string)
 (hx:cE no x=some ex) (hF:FRel no nt β tm a) (hM:MRel no β m w)
 (hs:stepO bs (.lens ex) tm m n=some (v,m1,n1)):Runs P no β m bs n n1 w (execOp a.eval o) v m1:=by
 have h1:=E.sim hF hx
 simp only[stepO] at hs
 split at hs
 ·rename_i s he
  simp only[Option.some.injEq,Prod.mk.injEq] at hs
  obtain⟨rfl,rfl,rfl⟩:=hs
  rw[he] at h1
  cases hr:a.eval x <;> rw[hr] at h1 <;> cases h1
  refine .quiet hM (rv:=.int .i64 s.size) ?_ (.int _ _)
  rw[run_bltn _ ho]
  simp [ha,builtin,Builtin.len_,hts,run_underlying ht,hr,goInt]
 ·cases hs
theorem s_ix {t:TypeId} {x i:Operand} {ex ei:E} (ho:o.op=.index t x i) (ht:P.underlying t=some .string) (hx:cE no x=some ex) (hi:cE no i=some ei) (hF:FRel no nt β tm a) (hM:MRel no β m w)
 (hs:stepO bs (.ix ex ei) tm m n=some (v,m1,n1)):Runs P no β m bs n n1 w (execOp a.eval o) v m1:=by
 have h1:=E.sim hF hx
 have h2:=E.sim hF hi
 simp only[stepO] at hs
 split at hs
 ·rename_i s k j he hj
  split at hs
  ·rename_i hj0
   split at hs
   ·rename_i b hb
    simp only[Option.some.injEq,Prod.mk.injEq] at hs
    obtain⟨rfl,rfl,rfl⟩:=hs
    rw[he] at h1
    rw[hj] at h2
    cases hr:a.eval x <;> rw[hr] at h1 <;> cases h1
    cases hr2:a.eval i <;> rw[hr2] at h2 <;> cases h2
    refine .quiet hM (rv:=.int .u8 b.toNat) ?_ (.int _ _)
    simp [execOp,ho,Instr.index,asIntOf,run_underlying ht,hr,hr2,hj0,hb]
   ·cases hs
  ·cases hs
 ·cases hs
theorem s_fld {s:TypeId} {x:Operand} {e:E} {f:Nat} {fd:Field} {k:Option Nat} {b:Bool} (ho:o.op=.field s x f) (hx:cE no x=some e) (hfd:fieldT P s f=some fd) (hb:aggT P fd.type=some b)
 (hk:if b then ∃ j,sizeT P fd.type=some j∧k=some j else k=none) (hF:FRel no nt β tm a) (hM:MRel no β m w)
 (hs:stepO bs (.fld fd.offset k e) tm m n=some (v,m1,n1)):Runs P no β m bs n n1 w (execOp a.eval o) v m1:=by
 have h1:=E.sim hF hx
 simp only[stepO] at hs
 split at hs
 ·rename_i cs he
  rw[he] at h1
  obtain⟨rs,hr,hsz,hc⟩:=agg_of h1
  unfold fieldT at hfd
  split at hfd
  ·rename_i fs hfs
   cases b with
   | false =>
     simp only[Bool.false_eq_true,if_false] at hk
     subst hk
     simp only at hs
     split at hs
     ·rename_i u hu
      simp only[Option.some.injEq,Prod.mk.injEq] at hs
      obtain⟨rfl,rfl,rfl⟩:=hs
      have hlt:=(Array.getElem?_eq_some_iff.1 hu).1
      have hri:rs[fd.offset]?=some (rs[fd.offset]'(by omega)):=Array.getElem?_eq_getElem _
      refine .quiet hM (rv:=rs[fd.offset]'(by omega)) ?_ (hc _ _ _ hu hri)
      simp [execOp,ho,Instr.field,run_underlying hfs,hfd,hr,asAgg,part,run_aggT hb,hri]
     ·cases hs
   | true =>
     simp only[if_true] at hk
     obtain⟨j,hj,rfl⟩:=hk
     simp only[Option.some.injEq,Prod.mk.injEq] at hs
     obtain⟨rfl,rfl,rfl⟩:=hs
     refine .quiet hM (rv:=.agg (rs.extract fd.offset (fd.offset+j))) ?_ (.agg (by simp [hsz]) fun i x y hx hy=>?_)
     ·simp [execOp,ho,Instr.field,run_underlying hfs,hfd,hr,asAgg,part,run_aggT hb,run_sizeT hj]
     ·rw[Array.getElem?_extract] at hx hy
      split at hx
      ·split at hy
       ·exact hc _ _ _ hx hy
       ·cases hy
      ·cases hx
  ·cases hfd
 ·cases hs
theorem run_bnd {x:Option Operand} {e:Option E} {dflt most most' k:Nat} (hF:FRel no nt β tm a) (hx:x.elim (some none) (fun y=>(cE no y).map some)=some e) (hb:bnd tm e dflt most=some k) (hle:most≤most') (code:BoundsCode) :
 match x with
 | none=>e=none∧k=dflt
 | some y=>∃ r,a.eval y=r∧(Instr.sliceBound r most' code).run P w=.ok k w∧k≤most∧e.isSome=true:=by
 cases x with
 | none =>
   simp at hx;subst hx
   simp [bnd] at hb
   exact⟨rfl,hb.symm⟩
 | some y =>
   simp only[Option.elim_some,Option.map_eq_some_iff] at hx
   obtain⟨e',he',rfl⟩:=hx
   have h1:=E.sim hF he'
   simp only[bnd] at hb
   split at hb
   ·rename_i kd i hi
    split at hb
    ·rename_i hc
     cases hb
     rw[hi] at h1
     have:(i:Int)≤(most':Int):=by omega
     exact⟨_,rfl,by rw[h1.inv_int];simp [Instr.sliceBound,asIntOf,hc.1,this],by omega,rfl⟩
    ·cases hb
   ·cases hb
theorem s_sls {t:TypeId} {x:Operand} {lo hi:Option Operand} {ex:E} {el eh:Option E} (ho:o.op=.slice t x lo hi none) (ht:P.underlying t=some .string) (hx:cE no x=some ex)
 (hl:lo.elim (some none) (fun y=>(cE no y).map some)=some el) (hh:hi.elim (some none) (fun y=>(cE no y).map some)=some eh) (hF:FRel no nt β tm a) (hM:MRel no β m w)
 (hs:stepO bs (.sls ex el eh) tm m n=some (v,m1,n1)):Runs P no β m bs n n1 w (execOp a.eval o) v m1:=by
 have h1:=E.sim hF hx
 simp only[stepO] at hs
 split at hs
 ·rename_i s he
  split at hs
  ·cases hs
  ·rename_i h hbh
   split at hs
   ·cases hs
   ·rename_i l hbl
    simp only[Option.some.injEq,Prod.mk.injEq] at hs
    obtain⟨rfl,rfl,rfl⟩:=hs
    rw[he] at h1
    cases hr:a.eval x <;> rw[hr] at h1 <;> cases h1
    have kh:=run_bnd (P:=P) (w:=w) hF hh hbh (Nat.le_refl _) .sliceAlen
    have kl:=run_bnd (P:=P) (w:=w) hF hl hbl (Nat.le_refl _) .sliceB
    refine .quiet hM (rv:=.string (s.extract l h)) ?_ (.string _)
    have hb:(Instr.sliceBounds false s.size s.size (lo.map a.eval) (hi.map a.eval) none).run P w=.ok (l,h,s.size) w:=by
     cases hi with
     | none =>
       obtain⟨_,rfl⟩:=kh
       cases lo with
       | none=>obtain⟨_,rfl⟩:=kl;simp [Instr.sliceBounds]
       | some y=>obtain⟨r,hr1,hr2,_⟩:=kl;simp [Instr.sliceBounds,hr1,hr2]
     | some z =>
       obtain⟨r,hr1,hr2,_⟩:=kh
       cases lo with
       | none=>obtain⟨_,rfl⟩:=kl;simp [Instr.sliceBounds,hr1,hr2]
       | some y=>obtain⟨r',hr1',hr2',_⟩:=kl;simp [Instr.sliceBounds,hr1,hr2,hr1',hr2']
    simp [execOp,ho,Instr.sliceAt,Instr.slice,run_underlying ht,hr,hb]
 ·cases hs
theorem s_sl {t e:TypeId} {x:Operand} {lo hi mx:Option Operand} {ex:E} {el eh em:Option E} {sz:Nat} (ho:o.op=.slice t x lo hi mx) (ht:P.underlying t=some (.slice e)) (hsz:sizeT P e=some sz) (hx:cE no x=some ex)
 (hl:lo.elim (some none) (fun y=>(cE no y).map some)=some el) (hh:hi.elim (some none) (fun y=>(cE no y).map some)=some eh) (hm:mx.elim (some none) (fun y=>(cE no y).map some)=some em)
 (hF:FRel no nt β tm a) (hM:MRel no β m w)
 (hs:stepO bs (.sl sz ex el eh em) tm m n=some (v,m1,n1)):Runs P no β m bs n n1 w (execOp a.eval o) v m1:=by
 have h1:=E.sim hF hx
 simp only[stepO] at hs
 split at hs
 case h_2=>cases hs
 rename_i ad len cap he
 split at hs
 ·cases hs
 rename_i k hbk
 split at hs
 ·cases hs
 rename_i h hbh
 split at hs
 ·cases hs
 rename_i l hbl
 split at hs
 case isFalse=>cases hs
 rename_i hcond
 obtain⟨hhl,hlc,hmh,hmk⟩:=hcond
 rw[he] at h1
 obtain⟨ra,c',hr,hc',hnil⟩:=slice_of h1
 have kl:=run_bnd (P:=P) (w:=w) hF hl hbl (Nat.le_refl _) (if mx.isSome then .slice3C else .sliceB)
 have hlh:l≤h:=by
  cases lo with
  | none=>obtain⟨_,rfl⟩:=kl;omega
  | some y=>obtain⟨_,_,_,hle,_⟩:=kl;exact hle
 have hbounds:∃ k',(Instr.sliceBounds true len c' (lo.map a.eval) (hi.map a.eval) (mx.map a.eval)).run P w=.ok (l,h,k') w∧k≤k'∧(mx.isSome=true→k'=k)∧(mx=none→k'=c'∧k=cap)∧k'≤c':=by
  cases mx with
  | none =>
    simp at hm;subst hm
    simp [bnd] at hbk;subst hbk
    have kh:=run_bnd (P:=P) (w:=w) (most':=c') hF hh hbh hc' .sliceAcap
    refine⟨c',?_,hc',(fun h=>by cases h),fun _=>⟨rfl,rfl⟩,Nat.le_refl _⟩
    cases hi with
    | none =>
      obtain⟨_,rfl⟩:=kh
      cases lo with
      | none=>obtain⟨_,rfl⟩:=kl;simp [Instr.sliceBounds]
      | some y=>obtain⟨r,hr1,hr2,_⟩:=kl;simp at hr2;simp [Instr.sliceBounds,hr1,hr2]
    | some z =>
      obtain⟨r,hr1,hr2,_⟩:=kh
      cases lo with
      | none=>obtain⟨_,rfl⟩:=kl;simp [Instr.sliceBounds,hr1,hr2]
      | some y=>obtain⟨r',hr1',hr2',_⟩:=kl;simp at hr2';simp [Instr.sliceBounds,hr1,hr2,hr1',hr2']
  | some u =>
    have km:=run_bnd (P:=P) (w:=w) (most':=c') hF hm hbk hc' .slice3Acap
    obtain⟨rm,hm1,hm2,hmle,hms⟩:=km
    have kh:=run_bnd (P:=P) (w:=w) hF hh hbh (Nat.le_refl _) .slice3B
    refine⟨k,?_,Nat.le_refl _,fun _=>rfl,(fun h=>by cases h),by omega⟩
    cases hi with
    | none =>
      simp at hh;subst hh
      have:=hmh hms
      cases this
    | some z =>
      obtain⟨r,hr1,hr2,_⟩:=kh
      cases lo with
      | none=>obtain⟨_,rfl⟩:=kl;simp [Instr.sliceBounds,hm1,hm2,hr1,hr2]
      | some y=>obtain⟨r',hr1',hr2',_⟩:=kl;simp at hr2';simp [Instr.sliceBounds,hm1,hm2,hr1,hr2,hr1',hr2']
 obtain⟨k',hb,hkk,hkm,hkn,hkc⟩:=hbounds
 have hrun:(execOp a.eval o).run P w=.ok (.value (.slice (if k'=l then ra else ra.map (·.add (l * sz))) (h-l) (k'-l))) w:=by
  simp only[execOp,ho,Instr.sliceAt,Sem.run_bind,run_underlying ht,Result.andThen_ok,Instr.slice,hr,hb,run_sizeT hsz,Sem.run_pure]
 cases ad with
 | none =>
   simp only[Option.some.injEq,Prod.mk.injEq] at hs
   obtain⟨rfl,rfl,rfl⟩:=hs
   obtain⟨rfl,rfl⟩:=hnil rfl
   have:k'=k:=by
    cases mx with
    | none=>exact(hkn rfl).1.trans (hkn rfl).2.symm
    | some u=>exact hkm rfl
   subst this
   refine .quiet hM (rv:=_) hrun ?_
   simp only[Option.map_none,ite_self]
   exact .snil _ _
 | some ad =>
   simp only at hs
   split at hs
   ·rename_i hk
    simp only[Option.some.injEq,Prod.mk.injEq] at hs
    obtain⟨rfl,rfl,rfl⟩:=hs
    have hmn:mx=none:=by
     cases mx with
     | none=>rfl
     | some u =>
       have:em.isSome=true:=by
        simp only[Option.elim_some,Option.map_eq_some_iff] at hm
        obtain⟨_,_,rfl⟩:=hm;rfl
       rw[Option.isNone_iff_eq_none] at hk
       rw[hk.2] at this;cases this
    have hkc2:=(hkn hmn).2
    have e0:h-l=0:=by omega
    refine .quiet hM (rv:=_) hrun ?_
    rw[e0]
    have hra:∃ r,ra=some r:=by
     rw[hr] at h1
     cases h1 <;> exact⟨_,rfl⟩
    obtain⟨r,rfl⟩:=hra
    split
    ·exact .empty
    ·exact .empty
   ·rename_i hk
    split at hs
    ·cases hs
    ·rename_i hsp
     split at hs
     ·cases hs
     ·rename_i blk hblk
      split at hs
      ·rename_i hbsz
       simp only[Option.some.injEq,Prod.mk.injEq] at hs
       obtain⟨rfl,rfl,rfl⟩:=hs
       obtain⟨L,c2,hL,hr2,hc2,hroom⟩:=h1.inv_slice (by simpa using hsp)
       rw[hr] at hr2
       cases hr2
       have hade:ad=⟨ad.block,ad.off,none⟩:=by
        cases ad;simp at hsp;simp [hsp]
       have hlk:l≤k':=by
        cases hmx:mx with
        | none=>have:=hkn hmx;omega
        | some u =>
          have h1:=hkm (by rw[hmx];rfl)
          have:em.isSome=true:=by
           rw[hmx] at hm
           simp only[Option.elim_some,Option.map_eq_some_iff] at hm
           obtain⟨_,_,rfl⟩:=hm;rfl
          have:=hmk this
          omega
       refine .quiet hM (rv:=_) hrun ?_
       by_cases e1:k=l
       ·skip
        have hms:mx.isSome=true:=by
         cases mx with
         | none =>
           simp at hm;subst hm
           exact absurd ⟨e1,rfl⟩ hk
         | some u=>rfl
        have:=hkm hms
        rw[this,if_pos e1,if_pos e1]
        rw[hade]
        refine VRel.slice (o:=ad.off) hL (Nat.le_refl _) ?_
        ·intro k0 N0 h0
         have:=hroom k0 N0 h0
         have h3:(k-l) * k0≤c' * k0:=Nat.mul_le_mul_right _ (by omega)
         omega
       ·have e2:¬ k'=l:=by
         intro e
         cases hmx:mx with
         | none =>
           have h4:=hkn hmx
           omega
         | some u=>have:=hkm (by rw[hmx];rfl);omega
        rw[if_neg e1,if_neg e2]
        simp only[Option.map_some,addr_add]
        rw[Nat.add_assoc]
        refine VRel.slice (o:=ad.off+l * sz) hL (by omega) ?_
        intro k0 N0 h0
        have h5:=hroom k0 N0 h0
        by_cases hown:blk.own=true
        ·obtain⟨cs,t0,_,hroom0,_⟩:=hM.own _ blk L hblk hL hown
         rw[h0] at hroom0
         cases hroom0
         rw[hbsz] at *
         have h6:(k'-l) * sz+l * sz=k' * sz:=by rw[←Nat.add_mul];congr 1;omega
         have h7:k' * sz≤c' * sz:=Nat.mul_le_mul_right _ hkc
         omega
        ·rw[hM.ro _ blk L hblk hL (by simpa using hown)] at h0
         cases h0
      ·cases hs
theorem s_slA {t e:TypeId} {x:Operand} {lo hi:Option Operand} {ex:E} {el eh:Option E} {sz:Nat} (ho:o.op=.slice t x lo hi none) (ht:P.underlying t=some (.slice e)) (hsz:sizeT P e=some sz) (hx:cE no x=some ex)
 (hl:lo.elim (some none) (fun y=>(cE no y).map some)=some el) (hh:hi.elim (some none) (fun y=>(cE no y).map some)=some eh)
 (hF:FRel no nt β tm a) (hM:MRel no β m w) (hfr:Fresh m n) (hd:β n=none)
 (hs:stepA bs (.sl sz ex el eh none) tm m n=some (v,m1,n1)):Runs P no β m bs n n1 w (execOp a.eval o) v m1:=by
 have h1:=E.sim hF hx
 obtain⟨sz',x',lo',hi',ad,len,cap,h,l,blk,he',he,hbh,hbl,hhl,hlc,hlh,hsp,hblk,hbs,hown,hbsz,hroomy,rfl,rfl,rfl⟩:=stepA_inv hs
 cases he'
 rw[he] at h1
 obtain⟨L,c',hL,hr,hc',hroom⟩:=h1.inv_slice hsp
 have kl:=run_bnd (P:=P) (w:=w) hF hl hbl (Nat.le_refl _) .sliceB
 have kh:=run_bnd (P:=P) (w:=w) (most':=c') hF hh hbh hc' .sliceAcap
 have hb:(Instr.sliceBounds true len c' (lo.map a.eval) (hi.map a.eval) none).run P w=.ok (l,h,c') w:=by
  cases hi with
  | none =>
    obtain⟨_,rfl⟩:=kh
    cases lo with
    | none=>obtain⟨_,rfl⟩:=kl;simp [Instr.sliceBounds]
    | some y=>obtain⟨r,hr1,hr2,_⟩:=kl;simp [Instr.sliceBounds,hr1,hr2]
  | some z =>
    obtain⟨r,hr1,hr2,_⟩:=kh
    cases lo with
    | none=>obtain⟨_,rfl⟩:=kl;simp [Instr.sliceBounds,hr1,hr2]
    | some y=>obtain⟨r',hr1',hr2',_⟩:=kl;simp [Instr.sliceBounds,hr1,hr2,hr1',hr2']
 have hrun:(execOp a.eval o).run P w=.ok (.value (.slice (if c'=l then some ⟨L.B,L.O+ad.off,none⟩ else(some (⟨L.B,L.O+ad.off,none⟩:Addr)).map (·.add (l * sz))) (h-l) (c'-l))) w:=by
  simp only[execOp,ho,Instr.sliceAt,Sem.run_bind,run_underlying ht,Result.andThen_ok,Instr.slice,hr,Option.map_none,hb,run_sizeT hsz,Sem.run_pure]
 obtain⟨cs,t0,hw0,hroom0,hcs⟩:=hM.own _ blk L hblk hL hown
 have hr9:=hroom _ _ hroom0
 rw[hbsz] at hr9 hroom0
 obtain⟨O1,hO1⟩:∃ O1,O1=if c'=l then L.O+ad.off else L.O+ad.off+l * sz:=⟨_,rfl⟩
 have hO1c:O1+(c'-l) * sz≤cs.size∧(0<h-l→O1=L.O+ad.off+l * sz):=by
  rw[hO1]
  split
  ·rename_i e
   refine⟨?_,fun h0=>by omega⟩
   rw[e,Nat.sub_self,Nat.zero_mul]
   have:0≤c' * sz:=Nat.zero_le _
   omega
  ·rename_i e
   refine⟨?_,fun _=>rfl⟩
   have h6:(c'-l) * sz+l * sz=c' * sz:=by rw[←Nat.add_mul];congr 1;omega
   omega
 have hval:(if c'=l then some (⟨L.B,L.O+ad.off,none⟩:Addr) else(some (⟨L.B,L.O+ad.off,none⟩:Addr)).map (·.add (l * sz)))=some ⟨L.B,O1,none⟩:=by
  rw[hO1]
  split
  ·rfl
  ·simp only[Option.map_some,addr_add]
 rw[hval] at hrun
 have hlt:ad.block<n:=by
  rcases Nat.lt_or_ge ad.block n with h2|h2
  ·exact h2
  ·rw[hfr _ h2] at hblk;cases hblk
 let β1:Inj:=upd β n (some ⟨L.B,O1,some (sz,cs.size)⟩)
 have hβ1:β1 n=some ⟨L.B,O1,some (sz,cs.size)⟩:=by simp [β1,upd]
 have ex:Ext0 β β1:=by
  intro b L' e
  simp only[β1,upd]
  split
  ·rename_i e1;subst e1;rw[hd] at e;cases e
  ·exact e
 have hβb:∀ b,b≠n→β1 b=β b:=fun b hb=>by simp only[β1,upd,if_neg hb]
 have hmb:∀ b blk',b≠n→upd (upd m ad.block none) n (some ⟨(blk.cells.drop (ad.off+l * sz)).take ((h-l) * sz),true,sz⟩) b=some blk'→b≠ad.block∧m b=some blk':=by
  intro b blk' hb e
  simp only[upd,if_neg hb] at e
  split at e
  ·cases e
  ·exact⟨by assumption,e⟩
 have hmn:∀ blk',upd (upd m ad.block none) n (some (⟨(blk.cells.drop (ad.off+l * sz)).take ((h-l) * sz),true,sz⟩:Blk)) n=some blk'→blk'=⟨(blk.cells.drop (ad.off+l * sz)).take ((h-l) * sz),true,sz⟩:=by
  intro blk' e
  simp only[upd,if_true] at e
  cases e;rfl
 have hlen:((blk.cells.drop (ad.off+l * sz)).take ((h-l) * sz)).length=(h-l) * sz:=by
  have h6:(h-l) * sz+l * sz=h * sz:=by rw[←Nat.add_mul];congr 1;omega
  rw[List.length_take,List.length_drop];omega
 have hle2:(h-l) * sz≤(c'-l) * sz:=Nat.mul_le_mul_right _ (by omega)
 refine⟨_,_,w,β1,hrun,.inl rfl,?_,⟨ex,fun b e=>?_,fun b L' e e0=>?_⟩,⟨fun b L' e=>?_,fun b blk' L' hbk e i u hu=>?_,fun b blk' L' hbk e ho1=>?_,fun b blk' L' hbk e ho1=>?_,fun b b' blk' blk2 L' L2 hbk ho1 e hbk2 e2 hne=>?_,hM.kept,fun b blk' L' hbk e ho1=>?_⟩,Frm.refl ..⟩
 ·have:=VRel.slice (no:=no) (b:=n) (o:=0) (l:=h-l) (c:=h-l) (c':=c'-l) hβ1 (by omega) (by intro k0 N0 h0;simp at h0;obtain⟨rfl,rfl⟩:=h0;have:=hO1c.1;simpa using this)
  unfold slc
  simpa using this
 ·by_cases hb:b=n
  ·subst hb;omega
  ·exact absurd (hβb b hb) e
 ·by_cases hb:b=n
  ·subst hb
   rw[hβ1] at e;cases e
   exact .inr ⟨ad.block,L,hL,⟨blk,hblk,hown⟩,hbs,hlt,rfl⟩
  ·rw[hβb b hb,e0] at e;cases e
 ·by_cases hb:b=n
  ·subst hb;rw[hβ1] at e;cases e;have:=hM.bound _ _ hL;exact this
  ·rw[hβb b hb] at e;exact hM.bound b L' e
 ·by_cases hb:b=n
  ·subst hb
   rw[hβ1] at e;cases e
   have:=hmn blk' hbk;subst this
   simp only[List.getElem?_take] at hu
   split at hu
   ·rename_i hi
    rw[List.getElem?_drop] at hu
    obtain⟨r,hr1,hr2⟩:=hM.cells _ blk L hblk hL _ u hu
    refine⟨r,?_,hr2.mono ex⟩
    have h0:0<h-l:=by
     rcases Nat.eq_zero_or_pos (h-l) with h0|h0
     ·rw[h0] at hi;simp at hi
     ·exact h0
    have:=hO1c.2 h0
    rw[←hr1];simp only;congr 2;omega
   ·cases hu
  ·rw[hβb b hb] at e
   obtain⟨_,h3⟩:=hmb b blk' hb hbk
   obtain⟨r,hr1,hr2⟩:=hM.cells b blk' L' h3 e i u hu
   exact⟨r,hr1,hr2.mono ex⟩
 ·by_cases hb:b=n
  ·subst hb
   rw[hβ1] at e;cases e
   have:=hmn blk' hbk;subst this
   exact⟨cs,t0,hw0,rfl,by simp only;rw[hlen];have:=hO1c.1;omega⟩
  ·rw[hβb b hb] at e
   exact hM.own b blk' L' (hmb b blk' hb hbk).2 e ho1
 ·by_cases hb:b=n
  ·subst hb
   have:=hmn blk' hbk;subst this
   cases ho1
  ·rw[hβb b hb] at e
   exact hM.ro b blk' L' (hmb b blk' hb hbk).2 e ho1
 ·by_cases hb:b=n
  ·by_cases hb':b'=n
   ·omega
   ·subst hb
    rw[hβ1] at e;cases e
    rw[hβb b' hb'] at e2
    obtain⟨h3,h4⟩:=hmb b' blk2 hb' hbk2
    exact hM.apart ad.block b' blk blk2 L L2 hblk hown hL h4 e2 (Ne.symm h3)
  ·rw[hβb b hb] at e
   obtain⟨h3,h4⟩:=hmb b blk' hb hbk
   by_cases hb':b'=n
   ·subst hb'
    rw[hβ1] at e2;cases e2
    exact hM.apart b ad.block blk' blk L' L h4 ho1 e hblk hL h3
   ·rw[hβb b' hb'] at e2
    exact hM.apart b b' blk' blk2 L' L2 h4 ho1 e (hmb b' blk2 hb' hbk2).2 e2 hne
 ·by_cases hb:b=n
  ·subst hb
   rw[hβ1] at e;cases e
   exact hM.ownS ad.block blk L hblk hL hown
  ·rw[hβb b hb] at e
   exact hM.ownS b blk' L' (hmb b blk' hb hbk).2 e ho1
theorem s_clr {t e:TypeId} {x:Operand} {ex:E} {args:Array Operand} {ts:Array TypeId} {z:List Value} (ho:o.op=.call { callee:=.builtin .clear,args,argTypes:=ts }) (ha:args = #[x]) (hts:ts[0]?=some t) (ht:P.underlying t=some (.slice e)) (hz:zeroOf P e=some z)
 (hx:cE no x=some ex) (hF:FRel no nt β tm a) (hM:MRel no β m w) (hfr:Fresh m n)
 (hs:stepO bs (.clr z.length z ex) tm m n=some (v,m1,n1)):Runs P no β m bs n n1 w (execOp a.eval o) v m1:=by
 have h1:=E.sim hF hx
 simp only[stepO] at hs
 split at hs
 ·rename_i ad len cap he
  rw[he] at h1
  obtain⟨ra,c',hr,hc',hnil⟩:=slice_of h1
  split at hs
  ·rename_i h0
   subst h0
   simp only[Option.some.injEq,Prod.mk.injEq] at hs
   obtain⟨rfl,rfl,rfl⟩:=hs
   refine .quiet hM (rv:=.tuple #[]) ?_ .junk
   rw[run_bltn _ ho]
   cases ra <;> simp [ha,builtin,Builtin.clear_,hts,run_underlying ht,hr]
  ·rename_i h0
   split at hs
   ·rename_i ad
    simp only[if_true] at hs
    split at hs
    ·rename_i m2 hw
     simp only[Option.some.injEq,Prod.mk.injEq] at hs
     obtain⟨rfl,rfl,rfl⟩:=hs
     have hsp:ad.spot=none:=by
      cases hsp:ad.spot with
      | none=>rfl
      | some k=>simp [AL.wrn,hsp] at hw
     obtain⟨L,c2,hL,hr2,_,_⟩:=h1.inv_slice hsp
     rw[hr] at hr2
     cases hr2
     obtain⟨zv,hzrun,hzc,hflat,hsz⟩:=run_zeroOf hz w
     have hptr:VRel no β (.pointer (some ad)) (.pointer (some ⟨L.B,L.O+ad.off,none⟩)):=by
      have:ad=⟨ad.block,ad.off,none⟩:=by cases ad;simp at hsp;simp [hsp]
      rw[this];exact .ptr hL
     obtain⟨w1,hrun,hM1,hF1⟩:=wrn_sim P hM hfr hptr hw (rs:=(Builtin.zeroCells zv.cells len).toList) (by
      intro u hu
      rw[List.mem_flatten] at hu
      obtain⟨l,hl1,hl2⟩:=hu
      rw[List.mem_replicate] at hl1
      rw[hl1.2] at hl2
      have:=hflat u hl2
      cases u <;> first|rfl|cases this) (by simp [Builtin.zeroCells,hzc,rep_len']) (by
      intro i u r hu hr'
      obtain⟨hi,hu'⟩:=rep_get' z _ _ _ hu
      have:r=u:=by
       have hlt:i % zv.cells.size<zv.cells.size:=by
        have:=(List.getElem?_eq_some_iff.1 hu').1
        rw[hzc];simpa using this
       have h3:zv.cells[i % zv.cells.size]?=some u:=by rw[hzc];simpa using hu'
       simp only[Builtin.zeroCells,Array.toList_map,Array.toList_range,List.getElem?_map] at hr'
       rw[List.getElem?_range (by rw[hzc];simpa using hi)] at hr'
       simp only[Option.map_some,Option.some.injEq] at hr'
       rw[←hr',getElem!_pos zv.cells _ hlt]
       rw[Array.getElem?_eq_getElem hlt] at h3
       exact Option.some.inj h3
      rw[this]
      exact .constW (hflat u (List.mem_of_getElem? hu')))
     refine⟨_,.tuple #[],w1,β,?_,.inl rfl,.junk,Ext.refl ..,hM1,hF1⟩
     rw[run_bltn _ ho]
     obtain⟨k,rfl⟩:∃ k,len=k+1:=⟨len-1,by omega⟩
     simp [ha,builtin,Builtin.clear_,hts,run_underlying ht,hr,hzrun,hrun]
    ·cases hs
   ·cases hs
 ·cases hs
end
end Go.Proofs.YtoppcdecolponaaGreat.AL
namespace Go.Proofs.YtoppcdecolponaaGreat.AL
open Go
set_option linter.unusedVariables false
set_option linter.unusedSimpArgs false
variable {no : No} {P : Program}
theorem rep_get (z:List Value):∀ (n i:Nat) v,(List.replicate n z).flatten[i]?=some v→i<n * z.length∧z[i % z.length]?=some v
 | 0,i,v,h=>by simp at h
 | n+1,i,v,h=>by
   rw[List.replicate_succ,List.flatten_cons] at h
   by_cases hi:i<z.length
   ·rw[List.getElem?_append_left hi] at h
    refine⟨?_,by rw[Nat.mod_eq_of_lt hi];exact h⟩
    calc i<1 * z.length:=by omega
     _≤(n+1) * z.length:=Nat.mul_le_mul_right _ (by omega)
   ·rw[List.getElem?_append_right (by omega)] at h
    obtain⟨h1,h2⟩:=rep_get z n _ v h
    refine⟨by rw[Nat.add_mul];omega,?_⟩
    rw[Nat.mod_eq_sub_mod (by omega)]
    exact h2
theorem rep_len (z:List Value) (n:Nat):(List.replicate n z).flatten.length=n * z.length:=by simp
section
variable {nt : Nat} {β : Inj} {tm : Tm} {a : Act} {m m1 : Mem} {w : World} {bs n n1 : Nat} {v : Value} {o : Oper}
theorem new_slice {β1:Inj} {w0:World} {k l c c':Nat} {sz:Nat} (h:β1 n=some ⟨w0.heap.size,0,some (sz,k)⟩) (hc:c≤c') (hk:c' * sz≤k) :
 VRel no β1 (slc n 0 l c) (.slice (some ⟨w0.heap.size,0,none⟩) l c'):=by
 have:=VRel.slice (no:=no) (b:=n) (o:=0) (l:=l) h hc (by intro k0 N0 h0;simp at h0;obtain⟨rfl,rfl⟩:=h0;simpa using hk)
 unfold slc
 simpa using this
theorem upd_self {α:Type} (f:Nat→α) (i:Nat) (x:α):upd f i x i=x:=by simp [upd]
theorem s_mk {t e:TypeId} {i:TypeInfo} {z:List Value} {l c:Operand} {el ec:E} (ho:o.op=.makeSlice t l c) (ht:P.underlying t=some (.slice e)) (hi:P.info? e=some i) (hz:zeroOf P e=some z)
 (hl:cE no l=some el) (hc:cE no c=some ec) (hF:FRel no nt β tm a) (hM:MRel no β m w) (hfr:Fresh m n)
 (hs:stepO bs (.mk i.size i.bytes z el ec) tm m n=some (v,m1,n1)) (hd:∀ b,n≤b→b<n1→β b=none):Runs P no β m bs n n1 w (execOp a.eval o) v m1:=by
 have h1:=E.sim hF hl
 have h2:=E.sim hF hc
 simp only[stepO] at hs
 split at hs
 ·rename_i x y hx hy
  split at hs
  ·rename_i hcond
   obtain⟨h0,hxy,hb1,hb2,hzl⟩:=hcond
   simp only[Option.some.injEq,Prod.mk.injEq] at hs
   obtain⟨rfl,rfl,rfl⟩:=hs
   rw[hx] at h1
   rw[hy] at h2
   have hn:=hd n (Nat.le_refl _) (by omega)
   obtain⟨zv,hzrun,hzc,hflat,hsz⟩:=run_zeroOf hz w
   have hzi:i.zero=some zv:=by
    unfold zeroOf at hz
    simp only[hi,Option.bind_eq_bind,Option.bind_some,Option.bind_eq_some_iff] at hz
    obtain⟨z0,hz0,_⟩:=hz
    have:zv=z0:=by
     simp [zeroValue,typeInfo,hi,hz0] at hzrun
     exact hzrun.symm
    rw[this];exact hz0
   have hbytes:(i.bytes:Int) * y≤281474976710656:=by
    have e1:((y.toNat * i.bytes:Nat):Int)=y * i.bytes:=by rw[Int.natCast_mul,Int.toNat_of_nonneg (by omega)]
    have:((y.toNat * i.bytes:Nat):Int)≤(2 ^ 44:Nat):=by exact_mod_cast hb1
    rw[Int.mul_comm];rw[e1] at this
    have e2:((2 ^ 44:Nat):Int)=17592186044416:=by decide
    omega
   have e2:((roomy:Nat):Int)=17592186044416:=by decide
   have hrun:=run_make (P:=P) w t e i zv ht hi hzi .i64 .i64 x y h0 hxy hbytes (by rw[e2] at hb2;omega)
   have hrel:∀ (j:Nat) u,(List.replicate y.toNat z).flatten[j]?=some u→∃ r,(madeCells zv.cells (y.toNat * i.size))[j]?=some r∧VRel no β u r:=by
    intro j u hu
    obtain⟨hj,hu'⟩:=rep_get z _ _ _ hu
    refine⟨u,?_,.constW (hflat u (List.mem_of_getElem? hu'))⟩
    rw[hzl] at hj
    unfold madeCells
    have hlt:j % zv.cells.size<zv.cells.size:=by
     have:=(List.getElem?_eq_some_iff.1 hu').1
     rw[hzc];simpa using this
    have:zv.cells[j % zv.cells.size]?=some u:=by rw[hzc];simpa using hu'
    simp [hj]
    rw[getElem!_pos zv.cells _ hlt]
    rw[Array.getElem?_eq_getElem hlt] at this
    exact Option.some.inj this
   obtain⟨e1',e2',e3'⟩:=alloc_sim bs hM hfr hn (List.replicate y.toNat z).flatten (madeCells zv.cells (y.toNat * i.size)) e i.size (by rw[rep_len,hzl];simp [madeCells]) hrel
   refine⟨_,.slice (some ⟨w.heap.size,0,none⟩) x.toNat y.toNat,_,_,?_,.inl rfl,?_,e1',e2',e3'⟩
   ·simp [execOp,ho,h1.inv_int,h2.inv_int,hrun]
   ·exact new_slice (upd_self _ _ _) (Nat.le_refl _) (by simp [madeCells])
  ·cases hs
 ·cases hs
theorem splice_get (cs:Array Value) (vs:Array Value) (off:Nat) (h:off+vs.size≤cs.size) :
 (vs.zipIdx.foldl (fun cs (x:Value×Nat)=>cs.setIfInBounds (off+x.2) x.1) cs).size=cs.size ∧
 ∀ i,(vs.zipIdx.foldl (fun cs (x:Value×Nat)=>cs.setIfInBounds (off+x.2) x.1) cs)[i]?=if off≤i∧i<off+vs.size then vs[i-off]? else cs[i]?:=by
 have key:∀ (l:List Value) (k:Nat) (cs:Array Value),off+k+l.length≤cs.size →
  ((l.zipIdx k).foldl (fun cs (x:Value×Nat)=>cs.setIfInBounds (off+x.2) x.1) cs).size=cs.size ∧
  ∀ i,((l.zipIdx k).foldl (fun cs (x:Value×Nat)=>cs.setIfInBounds (off+x.2) x.1) cs)[i]?=if off+k≤i∧i<off+k+l.length then l[i-off-k]? else cs[i]?:=by
  intro l
  induction l with
  | nil=>intro k cs _;simp;intro i h1 h2;omega
  | cons x l ih =>
    intro k cs hk
    simp only[List.zipIdx_cons,List.foldl_cons]
    simp only[List.length_cons] at hk
    obtain⟨h1,h2⟩:=ih (k+1) (cs.setIfInBounds (off+k) x) (by simp;omega)
    refine⟨by rw[h1];simp,fun i=>?_⟩
    rw[h2 i]
    simp only[List.length_cons]
    by_cases e:i=off+k
    ·subst e
     rw[if_neg (by omega),if_pos (by omega),Array.getElem?_setIfInBounds_self_of_lt (by omega)]
     have:off+k-off-k=0:=by omega
     rw[this];rfl
    ·by_cases e2:off+k≤i∧i<off+k+(l.length+1)
     ·rw[if_pos (by omega),if_pos e2]
      have:i-off-k=(i-off-(k+1))+1:=by omega
      rw[this,List.getElem?_cons_succ]
     ·rw[if_neg (by omega),if_neg e2,Array.getElem?_setIfInBounds_ne (by omega)]
 have:=key vs.toList 0 cs (by simpa using h)
 rw[←Array.foldl_toList,Array.toList_zipIdx]
 refine⟨this.1,fun i=>?_⟩
 rw[this.2 i]
 simp
theorem lay_get (l vs:List Value) (i j:Nat) (h:i+vs.length≤l.length):(l.take i++vs++l.drop (i+vs.length))[j]?=if i≤j∧j<i+vs.length then vs[j-i]? else l[j]?:=by
 by_cases h1:j<i
 ·rw[if_neg (by omega),List.append_assoc,List.getElem?_append_left (by simp;omega),List.getElem?_take_of_lt h1]
 ·by_cases h2:j<i+vs.length
  ·rw[if_pos (by omega),List.getElem?_append_left (by simp;omega),List.getElem?_append_right (by simp;omega)]
   congr 1;simp;omega
  ·rw[if_neg (by omega),List.getElem?_append_right (by simp;omega),List.getElem?_drop]
   congr 1;simp;omega
theorem fill_sim {β:Inj} (place:Nat→Option (Nat×Nat)):∀ (ps:List (Nat×Value)) (qs:List (Nat×List Value)) (cells:Array Value) (l:List Value),l.length=cells.size →
 (∀ (i:Nat) x y,l[i]?=some x→cells[i]?=some y→VRel no β x y)→ps.length=qs.length →
 (∀ (j:Nat) p q,ps[j]?=some p→qs[j]?=some q→∃ sz,place p.1=some (q.1,sz)∧p.2.cells.size=sz∧q.2.length=sz∧q.1+sz≤l.length∧∀ (i:Nat) x y,q.2[i]?=some x→p.2.cells[i]?=some y→VRel no β x y) →
 ∃ out,Instr.fill place cells ps=some out∧out.size=cells.size∧(fill l qs).length=l.length∧∀ (i:Nat) x y,(fill l qs)[i]?=some x→out[i]?=some y→VRel no β x y
 | [],qs,cells,l,hl,hrel,hlen,_=>by
   cases qs with
   | nil=>exact⟨cells,rfl,rfl,rfl,hrel⟩
   | cons=>simp at hlen
 | (i,v)::ps,qs,cells,l,hl,hrel,hlen,hp=>by
   cases qs with
   | nil=>simp at hlen
   | cons q qs =>
     obtain⟨off,vs⟩:=q
     obtain⟨sz,hpl,h1,h2,h3,h4⟩:=hp 0 (i,v) (off,vs) rfl rfl
     simp only at hpl h1 h2 h3 h4
     obtain⟨g1,g2⟩:=splice_get cells v.cells off (by omega)
     simp only[Instr.fill,hpl]
     rw[if_neg (by simp;omega)]
     have hnl:(l.take off++vs++l.drop (off+vs.length)).length=l.length:=by simp;omega
     obtain⟨out,r1,r2,r3,r4⟩:=fill_sim place ps qs _ (l.take off++vs++l.drop (off+vs.length)) (by rw[hnl,g1,hl]) (by
      intro j x y hx hy
      rw[lay_get l vs off j (by omega)] at hx
      rw[g2 j] at hy
      by_cases e:off≤j∧j<off+vs.length
      ·rw[if_pos e] at hx
       rw[if_pos (by omega)] at hy
       exact h4 _ x y hx hy
      ·rw[if_neg e] at hx
       rw[if_neg (by omega)] at hy
       exact hrel _ x y hx hy) (by simpa using hlen) (by
      intro j p q hj hq
      obtain⟨sz',k1,k2,k3,k4,k5⟩:=hp (j+1) p q hj hq
      exact⟨sz',k1,k2,k3,by rw[hnl];exact k4,k5⟩)
     exact⟨out,r1,by rw[r2,g1],by simp only[fill];rw[r3,hnl],by simpa only[fill] using r4⟩
theorem parts_mapM {α β':Type} (f:α→Option β'):∀ {l:List α} {r:List β'},l.mapM f=some r→r.length=l.length∧∀ (i:Nat) x y,l[i]?=some x→r[i]?=some y→f x=some y
 | [],r,h=>by simp at h;subst h;simp
 | x::l,r,h=>by
   simp only[List.mapM_cons,Option.bind_eq_bind,Option.bind_eq_some_iff,Option.pure_def,Option.some.injEq] at h
   obtain⟨y,hy,r',hr,rfl⟩:=h
   obtain⟨h1,h2⟩:=parts_mapM f hr
   refine⟨by simp [h1],fun i u v hu hv=>?_⟩
   cases i with
   | zero=>simp at hu hv;subst hu;subst hv;exact hy
   | succ i=>exact h2 i u v (by simpa using hu) (by simpa using hv)
theorem s_bs {t e:TypeId} {k:Nat} {z:List Value} {parts:Array (Nat×Operand)} {ps:List (Nat×E)} (ho:o.op=.buildSlice t k parts) (ht:P.underlying t=some (.slice e)) (hz:zeroOf P e=some z)
 (hk:k * z.length≤2 ^ 24) (hz0:z.length≠0) (hp:parts.toList.mapM (fun p=>(cE no p.2).bind fun x=>some (p.1,x))=some ps) (hF:FRel no nt β tm a) (hM:MRel no β m w) (hfr:Fresh m n)
 (hs:stepO bs (.bs z.length k z ps) tm m n=some (v,m1,n1)) (hd:∀ b,n≤b→b<n1→β b=none):Runs P no β m bs n n1 w (execOp a.eval o) v m1:=by
 obtain⟨zv,hzrun,hzc,hflat,hsz⟩:=run_zeroOf hz w
 obtain⟨hpl,hpp⟩:=parts_mapM _ hp
 simp only[stepO] at hs
 split at hs
 ·rename_i hcond
  obtain⟨_,hj,hb⟩:=hcond
  simp only[Option.some.injEq,Prod.mk.injEq] at hs
  obtain⟨rfl,rfl,rfl⟩:=hs
  have hn:=hd n (Nat.le_refl _) (by omega)
  let cells0:Array Value:=(Array.range (k * z.length)).map (zv.cells[· % zv.cells.size]!)
  have hc0:cells0.size=k * z.length:=by simp [cells0]
  have hrel0:∀ (i:Nat) x y,(List.replicate k z).flatten[i]?=some x→cells0[i]?=some y→VRel no β x y:=by
   intro i x y hx hy
   obtain⟨hi,hx'⟩:=rep_get z _ _ _ hx
   have hlt:i % zv.cells.size<zv.cells.size:=by
    have:=(List.getElem?_eq_some_iff.1 hx').1
    rw[hzc];simpa using this
   have h2:zv.cells[i % zv.cells.size]?=some x:=by rw[hzc];simpa using hx'
   have:y=x:=by
    simp [cells0,hi] at hy
    rw[getElem!_pos zv.cells _ hlt] at hy
    rw[Array.getElem?_eq_getElem hlt] at h2
    rw[←hy];exact Option.some.inj h2
   subst this
   exact .constW (hflat y (List.mem_of_getElem? hx'))
  obtain⟨out,r1,r2,r3,r4⟩:=fill_sim (no:=no) (β:=β) (fun i=>some (i * z.length,z.length)) (parts.toList.map fun p=>(p.1,a.eval p.2)) (ps.map fun p=>(p.1 * z.length,(p.2.ev tm).cells.toList)) cells0 (List.replicate k z).flatten
   (by rw[rep_len,hc0]) hrel0 (by simp [hpl]) (by
     intro j p q hpj hqj
     simp only[List.getElem?_map,Option.map_eq_some_iff] at hpj hqj
     obtain⟨p0,hp0,rfl⟩:=hpj
     obtain⟨q0,hq0,rfl⟩:=hqj
     have hpq:=hpp j p0 q0 hp0 hq0
     simp only[Option.bind_eq_some_iff,Option.some.injEq] at hpq
     obtain⟨x,hx,rfl⟩:=hpq
     have hjj:=List.all_eq_true.1 hj _ (List.mem_of_getElem? hq0)
     have hbb:=List.all_eq_true.1 hb _ (List.mem_map.2 ⟨_,List.mem_of_getElem? hq0,rfl⟩)
     simp only[Bool.and_eq_true,beq_iff_eq,decide_eq_true_eq] at hbb
     obtain⟨c1,c2⟩:=cells_rel (by simpa using hjj) (E.sim hF hx)
     have hb2:p0.1 * z.length+(x.ev tm).cells.toList.length≤k * z.length:=hbb.2
     have hb1:(x.ev tm).cells.toList.length=z.length:=hbb.1
     refine⟨z.length,rfl,by rw[←c1];simpa using hb1,hb1,by rw[rep_len];show p0.1 * z.length+z.length≤_;omega,fun i x y hx hy=>c2 i x y (by simpa using hx) hy⟩)
  have hal:=alloc_sim (t:=e) (sz:=z.length) bs hM hfr hn (fill (List.replicate k z).flatten (ps.map fun p=>(p.1 * z.length,(p.2.ev tm).cells.toList))) out (by rw[r3,r2,rep_len,hc0];exact Nat.le_refl _) (by
   intro i x hx
   have hlt:=(List.getElem?_eq_some_iff.1 hx).1
   rw[r3,rep_len] at hlt
   exact⟨_,Array.getElem?_eq_getElem (by omega),r4 i x _ hx (Array.getElem?_eq_getElem (by omega))⟩)
  obtain⟨e1,e2,e3⟩:=hal
  refine⟨_,.slice (some ⟨w.heap.size,0,none⟩) k k,_,_,?_,.inl rfl,?_,e1,e2,e3⟩
  ·have hne:¬ (k * z.length > 2 ^ 24):=by omega
   by_cases h0:k * z.length=0
   ·have e0:∀ f:Nat→Value,(Array.range (k * z.length)).map f = #[]:=by intro f;simp [h0]
    have:cells0 = #[]:=e0 _
    rw[this] at r1
    simp only[execOp,ho,Instr.buildSlice,Sem.run_bind,run_underlying ht,Result.andThen_ok,run_sizeT hsz,if_neg hne,if_pos h0,Sem.run_pure,e0,Array.toList_map,r1,run_newRow]
   ·simp only[execOp,ho,Instr.buildSlice,Sem.run_bind,run_underlying ht,Result.andThen_ok,run_sizeT hsz,if_neg hne,if_neg h0,Sem.run_pure,hzrun,Array.toList_map]
    have r1':=r1
    simp only[cells0] at r1'
    simp only[r1',run_newRow,Sem.run_bind,Sem.run_pure,Result.andThen_ok]
  ·exact new_slice (upd_self _ _ _) (Nat.le_refl _) (by rw[r2,hc0];exact Nat.le_refl _)
 ·cases hs
theorem s_bd {t:TypeId} {fs:Array Field} {z:List Value} {parts:Array (Nat×Operand)} {ps:List (Nat×Nat×E)} (ho:o.op=.build t parts) (ht:P.underlying t=some (.struct fs)) (hz:zeroOf P t=some z)
 (hfs:∀ f∈fs.toList,(sizeT P f.type).isSome=true)
 (hp:parts.toList.mapM (fun p=>(fs[p.1]?).bind fun f=>(sizeT P f.type).bind fun k=>(cE no p.2).bind fun x=>some (f.offset,k,x))=some ps) (hF:FRel no nt β tm a) (hM:MRel no β m w)
 (hs:stepO bs (.bd z ps) tm m n=some (v,m1,n1)):Runs P no β m bs n n1 w (execOp a.eval o) v m1:=by
 obtain⟨zv,hzrun,hzc,hflat,hsz⟩:=run_zeroOf hz w
 obtain⟨hpl,hpp⟩:=parts_mapM _ hp
 simp only[stepO] at hs
 split at hs
 ·rename_i hcond
  simp only[Option.some.injEq,Prod.mk.injEq] at hs
  obtain⟨rfl,rfl,rfl⟩:=hs
  have hplaces:∃ pl:Array (Nat×Nat),(fs.mapM (fun f=>do pure (f.offset,←sizeOf f.type):Field→Sem (Nat×Nat))).run P w=.ok pl w∧∀ (i:Nat) (f:Field) k,fs[i]?=some f→sizeT P f.type=some k→pl[i]?=some (f.offset,k):=by
   have key:∀ l:List Field,(∀ f∈l,(sizeT P f.type).isSome=true)→∃ pl:List (Nat×Nat),(l.mapM (fun f=>do pure (f.offset,←sizeOf f.type):Field→Sem (Nat×Nat))).run P w=.ok pl w ∧
    ∀ (i:Nat) (f:Field) k,l[i]?=some f→sizeT P f.type=some k→pl[i]?=some (f.offset,k):=by
    intro l
    induction l with
    | nil=>intro _;exact⟨[],by simp,fun i f k h=>by simp at h⟩
    | cons f l ih =>
      intro hl
      obtain⟨pl,h1,h2⟩:=ih (fun g hg=>hl g (List.mem_cons_of_mem _ hg))
      obtain⟨k,hk⟩:=Option.isSome_iff_exists.1 (hl f (List.mem_cons_self ..))
      refine⟨(f.offset,k)::pl,?_,fun i g j hg hj=>?_⟩
      ·simp only[List.mapM_cons,Sem.run_bind,run_sizeT hk,Result.andThen_ok,Sem.run_pure,h1]
      ·cases i with
       | zero=>simp at hg;subst hg;rw[hk] at hj;cases hj;rfl
       | succ i=>exact h2 i g j (by simpa using hg) hj
   obtain⟨pl,h1,h2⟩:=key fs.toList hfs
   refine⟨pl.toArray,?_,fun i f k hf hk=>by simpa using h2 i f k (by simpa using hf) hk⟩
   rw[←Array.toArray_toList (xs:=fs),List.mapM_toArray]
   simp only[map_eq_pure_bind,Sem.run_bind,h1,Result.andThen_ok,Sem.run_pure]
  obtain⟨pl,hplr,hpl2⟩:=hplaces
  obtain⟨out,r1,r2,r3,r4⟩:=fill_sim (no:=no) (β:=β) (pl[·]?) (parts.toList.map fun p=>(p.1,a.eval p.2)) (ps.map fun p=>(p.1,(p.2.2.ev tm).cells.toList)) zv.cells z
   (by rw[hzc];simp) (fun i x y hx hy=>by
     rw[hzc] at hy
     simp at hy
     rw[hx] at hy;cases hy
     exact .constW (hflat x (List.mem_of_getElem? hx))) (by simp [hpl]) (by
     intro j p q hpj hqj
     simp only[List.getElem?_map,Option.map_eq_some_iff] at hpj hqj
     obtain⟨p0,hp0,rfl⟩:=hpj
     obtain⟨q0,hq0,rfl⟩:=hqj
     have hpq:=hpp j p0 q0 hp0 hq0
     simp only[Option.bind_eq_some_iff,Option.some.injEq] at hpq
     obtain⟨f,hf,k,hk,x,hx,rfl⟩:=hpq
     have hcc:=List.all_eq_true.1 hcond _ (List.mem_of_getElem? hq0)
     simp only[Bool.and_eq_true,Bool.not_eq_true',beq_iff_eq,decide_eq_true_eq] at hcc
     obtain⟨⟨hj,hsz1⟩,hle⟩:=hcc
     obtain⟨c1,c2⟩:=cells_rel hj (E.sim hF hx)
     exact⟨k,hpl2 _ f k hf hk,by rw[←c1];exact hsz1,by simpa using hsz1,hle,fun i x y hx hy=>c2 i x y (by simpa using hx) hy⟩)
  refine .quiet hM (rv:=.agg out) ?_ (.agg (by rw[r2,hzc];simp [r3]) fun i x y hx hy=>r4 i x y (by simpa using hx) hy)
  simp only[execOp,ho,Instr.build,Sem.run_bind,hzrun,Result.andThen_ok,run_underlying ht,hplr,Array.toList_map,r1,Sem.run_pure]
 ·cases hs
theorem fold_run {f:Value→Value→Option Value} {g:Value→Value→Sem Value} (h:∀ x y z,f x y=some z→(g x y).run P w=.ok z w) :
 ∀ (l:List Value) (x z:Value),foldv f x l=some z→(l.foldlM g x).run P w=.ok z w
 | [],x,z,e=>by simp [foldv] at e;subst e;simp
 | y::l,x,z,e=>by
   simp only[foldv] at e
   split at e
   ·rename_i u hu
    simp only[List.foldlM_cons,Sem.run_bind,h x y u hu,Result.andThen_ok]
    exact fold_run h l u z e
   ·cases e
theorem foldv_rel {f:Value→Value→Option Value} (hf:∀ x y z x' y',f x y=some z→VRel no β x x'→VRel no β y y'→f x' y'=some z∧VRel no β z z) :
 ∀ (l l':List Value) (x x' z:Value),foldv f x l=some z→VRel no β x x'→l.length=l'.length→(∀ (i:Nat) u v,l[i]?=some u→l'[i]?=some v→VRel no β u v) →
   ∃ z',foldv f x' l'=some z'∧VRel no β z z'
 | [],l',x,x',z,e,hx,hl,_=>by
   cases l' with
   | nil=>simp [foldv] at e;subst e;exact⟨x',rfl,hx⟩
   | cons=>simp at hl
 | y::l,l',x,x',z,e,hx,hl,h=>by
   cases l' with
   | nil=>simp at hl
   | cons y' l' =>
     simp only[foldv] at e ⊢
     split at e
     ·rename_i u hu
      obtain⟨h1,h2⟩:=hf x y u x' y' hu hx (h 0 y y' rfl rfl)
      rw[h1]
      exact foldv_rel hf l l' u u z e h2 (by simpa using hl) fun i a b ha hb=>h (i+1) a b ha hb
     ·cases e
theorem min2v_rel (x y z x' y':Value) (h:min2v x y=some z) (hx:VRel no β x x') (hy:VRel no β y y'):min2v x' y'=some z∧VRel no β z z:=by
 unfold min2v at h
 split at h
 ·rw[hx.inv_int,hy.inv_int]
  refine⟨h,?_⟩
  split at h
  ·cases h;exact .int _ _
  ·cases h
 ·cases h
theorem max2v_rel (x y z x' y':Value) (h:max2v x y=some z) (hx:VRel no β x x') (hy:VRel no β y y'):max2v x' y'=some z∧VRel no β z z:=by
 unfold max2v at h
 split at h
 ·rw[hx.inv_int,hy.inv_int]
  refine⟨h,?_⟩
  split at h
  ·cases h;exact .int _ _
  ·cases h
 ·cases h
theorem s_mn {args:Array Operand} {ts:Array TypeId} {es:List E} (ho:o.op=.call { callee:=.builtin .min,args,argTypes:=ts }) (hx:cEs no args=some es) (hF:FRel no nt β tm a) (hM:MRel no β m w)
 (hs:stepO bs (.mn es) tm m n=some (v,m1,n1)):Runs P no β m bs n n1 w (execOp a.eval o) v m1:=by
 obtain⟨hl,hrel⟩:=Es.sim hF hx
 simp only[stepO] at hs
 cases hes:es.map (·.ev tm) with
 | nil=>rw[hes] at hs;cases hs
 | cons x l =>
   rw[hes] at hs
   simp only at hs
   split at hs
   ·rename_i u hu
    simp only[Option.some.injEq,Prod.mk.injEq] at hs
    obtain⟨rfl,rfl,rfl⟩:=hs
    cases hra:args.toList.map a.eval with
    | nil =>
      have h1:=congrArg List.length hes
      have h2:=congrArg List.length hra
      simp only[List.length_map,List.length_cons,List.length_nil] at h1 h2
      omega
    | cons x' l' =>
      rw[hes,hra] at hrel
      have hlen:l.length=l'.length:=by
       have h1:=congrArg List.length hes
       have h2:=congrArg List.length hra
       simp only[List.length_map,List.length_cons] at h1 h2
       omega
      obtain⟨z',hz,hr⟩:=foldv_rel min2v_rel l l' x x' u hu (hrel 0 x x' rfl rfl) hlen fun i a b ha hb=>hrel (i+1) a b ha hb
      refine .quiet hM (rv:=z') ?_ hr
      rw[run_bltn _ ho]
      have hf:=fold_run (P:=P) (w:=w) (f:=min2v) (g:=Builtin.min2) (by
       intro x y z h
       unfold min2v at h
       split at h
       ·split at h
        ·cases h;simp [Builtin.min2]
        ·cases h
       ·cases h) l' x' z' hz
      simp only[builtin,Builtin.min_,Array.toList_map,hra,Sem.run_bind,hf,Result.andThen_ok,Sem.run_pure]
   ·cases hs
theorem s_mx {args:Array Operand} {ts:Array TypeId} {es:List E} (ho:o.op=.call { callee:=.builtin .max,args,argTypes:=ts }) (hx:cEs no args=some es) (hF:FRel no nt β tm a) (hM:MRel no β m w)
 (hs:stepO bs (.mx es) tm m n=some (v,m1,n1)):Runs P no β m bs n n1 w (execOp a.eval o) v m1:=by
 obtain⟨hl,hrel⟩:=Es.sim hF hx
 simp only[stepO] at hs
 cases hes:es.map (·.ev tm) with
 | nil=>rw[hes] at hs;cases hs
 | cons x l =>
   rw[hes] at hs
   simp only at hs
   split at hs
   ·rename_i u hu
    simp only[Option.some.injEq,Prod.mk.injEq] at hs
    obtain⟨rfl,rfl,rfl⟩:=hs
    cases hra:args.toList.map a.eval with
    | nil =>
      have h1:=congrArg List.length hes
      have h2:=congrArg List.length hra
      simp only[List.length_map,List.length_cons,List.length_nil] at h1 h2
      omega
    | cons x' l' =>
      rw[hes,hra] at hrel
      have hlen:l.length=l'.length:=by
       have h1:=congrArg List.length hes
       have h2:=congrArg List.length hra
       simp only[List.length_map,List.length_cons] at h1 h2
       omega
      obtain⟨z',hz,hr⟩:=foldv_rel max2v_rel l l' x x' u hu (hrel 0 x x' rfl rfl) hlen fun i a b ha hb=>hrel (i+1) a b ha hb
      refine .quiet hM (rv:=z') ?_ hr
      rw[run_bltn _ ho]
      have hf:=fold_run (P:=P) (w:=w) (f:=max2v) (g:=Builtin.max2) (by
       intro x y z h
       unfold max2v at h
       split at h
       ·split at h
        ·cases h;simp [Builtin.max2]
        ·cases h
       ·cases h) l' x' z' hz
      simp only[builtin,Builtin.max_,Array.toList_map,hra,Sem.run_bind,hf,Result.andThen_ok,Sem.run_pure]
   ·cases hs
end
end Go.Proofs.YtoppcdecolponaaGreat.AL
namespace Go.Proofs.YtoppcdecolponaaGreat.AL
open Go
set_option linter.unusedVariables false
set_option linter.unusedSimpArgs false
variable {no : No} {P : Program}
theorem regrow_sim {β:Inj} {m:Mem} {w:World} {bs n b:Nat} {blk:Blk} {L:Loc} (hM:MRel no β m w) (hfr:Fresh m n) (hβ:β n=none) (hb:m b=some blk) (ho:blk.own=true) (hbs:bs≤b)
 (hL:β b=some L) (off:Nat) (cells:List Value) (cs0 cs:Array Value) (t:TypeId) (hw0:w.heap[L.B]?=some (.cells cs0 t (0,0))) (hsz:cs.size=cs0.size)
 (hroom:L.O+off+cells.length≤cs.size)
 (hrel:∀ (i:Nat) v,cells[i]?=some v→∃ r,cs[L.O+off+i]?=some r∧VRel no β v r) :
 let β1:=upd β n (some ⟨L.B,L.O+off,L.room⟩)
 let w1:=w.setRow L.B cs
 Ext β β1 m bs n (n+1) w∧MRel no β1 (upd (upd m b none) n (some ⟨cells,true,blk.sz⟩)) w1∧Frm β m bs n w w1:=by
 intro β1 w1
 have hlt:b<n:=by
  rcases Nat.lt_or_ge b n with h|h
  ·exact h
  ·rw[hfr b h] at hb;cases hb
 have hold:Ext0 β β1:=by
  intro b' L' e
  simp only[β1,upd]
  split
  ·rename_i h;rw[h,hβ] at e;cases e
  ·exact e
 have hheap:∀ B,B≠L.B→w1.heap[B]?=w.heap[B]?:=fun B hB=>setRow_other w L.B B cs hB
 have hnew:w1.heap[L.B]?=some (.cells cs t (0,0)):=setRow_heap w L.B cs0 cs t (0,0) hw0
 obtain⟨cs1,t1,hw1,hroom0,hle⟩:=hM.own b blk L hb hL ho
 rw[hw0] at hw1;cases hw1
 have hβ1:∀ b' L',β1 b'=some L'→(b'=n∧L'=⟨L.B,L.O+off,L.room⟩)∨(b'≠n∧β b'=some L'):=by
  intro b' L' e
  simp only[β1,upd] at e
  split at e
  ·rename_i h;cases e;exact .inl ⟨h,rfl⟩
  ·rename_i h;exact .inr ⟨h,e⟩
 have hmold:∀ b' k',b'≠n→upd (upd m b none) n (some (⟨cells,true,blk.sz⟩:Blk)) b'=some k'→b'≠b∧m b'=some k':=by
  intro b' k' h e
  simp only[upd,if_neg h] at e
  split at e
  ·cases e
  ·rename_i h2;exact⟨h2,e⟩
 refine⟨⟨hold,?_,?_⟩,⟨?_,?_,?_,?_,?_,?_,?_⟩,⟨rfl,rfl,rfl,by simp [w1],fun B hB hne=>hheap B (Ne.symm (hne b L hL ⟨_,hb,ho⟩ hbs hlt))⟩⟩
 ·intro b' e
  by_cases h:b'=n
  ·omega
  ·exact absurd (by simp [β1,upd,h]) e
 ·intro b' L' e e0
  rcases hβ1 b' L' e with⟨h,rfl⟩|⟨h,h1⟩
  ·exact .inr ⟨b,L,hL,⟨_,hb,ho⟩,hbs,hlt,rfl⟩
  ·rw[e0] at h1;cases h1
 ·intro b' L' e
  have:w1.heap.size=w.heap.size:=by simp [w1]
  rw[this]
  rcases hβ1 b' L' e with⟨h,rfl⟩|⟨h,h1⟩
  ·exact hM.bound b L hL
  ·exact hM.bound b' L' h1
 ·intro b' blk' L' hb' e i v hv
  rcases hβ1 b' L' e with⟨rfl,rfl⟩|⟨h,h1⟩
  ·simp [upd] at hb'
   subst hb'
   obtain⟨r,hr,hvr⟩:=hrel i v hv
   exact⟨r,by simp [World.cell?,hnew,hr],hvr.mono hold⟩
  ·obtain⟨hne,hb2⟩:=hmold b' blk' h hb'
   obtain⟨r,hr,hvr⟩:=hM.cells b' blk' L' hb2 h1 i v hv
   have hne':=hM.apart b b' blk blk' L L' hb ho hL hb2 h1 (Ne.symm hne)
   exact⟨r,by rw[World.cell?_of_block (w:=w) (hheap _ (Ne.symm hne'))];exact hr,hvr.mono hold⟩
 ·intro b' blk' L' hb' e ho'
  rcases hβ1 b' L' e with⟨rfl,rfl⟩|⟨h,h1⟩
  ·simp [upd] at hb'
   subst hb'
   exact⟨cs,t,hnew,by rw[hsz];exact hroom0,hroom⟩
  ·obtain⟨hne,hb2⟩:=hmold b' blk' h hb'
   have hne':=hM.apart b b' blk blk' L L' hb ho hL hb2 h1 (Ne.symm hne)
   rw[hheap _ (Ne.symm hne')]
   exact hM.own b' blk' L' hb2 h1 ho'
 ·intro b' blk' L' hb' e ho'
  rcases hβ1 b' L' e with⟨rfl,rfl⟩|⟨h,h1⟩
  ·simp [upd] at hb'
   subst hb'
   cases ho'
  ·obtain⟨hne,hb2⟩:=hmold b' blk' h hb'
   exact hM.ro b' blk' L' hb2 h1 ho'
 ·intro b1 b2 k1 k2 L1 L2 h1 ho1 e1 h2 e2 hne
  rcases hβ1 b1 L1 e1 with⟨rfl,rfl⟩|⟨g1,f1⟩ <;> rcases hβ1 b2 L2 e2 with⟨rfl,rfl⟩|⟨g2,f2⟩
  ·exact absurd rfl hne
  ·obtain⟨hn2,hm2⟩:=hmold b2 k2 g2 h2
   exact hM.apart b b2 blk k2 L L2 hb ho hL hm2 f2 (Ne.symm hn2)
  ·obtain⟨hn1,hm1⟩:=hmold b1 k1 g1 h1
   exact hM.apart b1 b k1 blk L1 L hm1 ho1 f1 hb hL hn1
  ·obtain⟨hn1,hm1⟩:=hmold b1 k1 g1 h1
   obtain⟨hn2,hm2⟩:=hmold b2 k2 g2 h2
   exact hM.apart b1 b2 k1 k2 L1 L2 hm1 ho1 f1 hm2 f2 hne
 ·exact⟨by simpa[w1] using hM.kept.1,fun B hB=>by rw[hheap B (fun e=>by have:=hM.ownS b blk L hb hL ho;omega)];exact hM.kept.2 B hB⟩
 ·intro b' blk' L' hb' e ho'
  rcases hβ1 b' L' e with⟨rfl,rfl⟩|⟨h,h1⟩
  ·exact hM.ownS b blk L hb hL ho
  ·obtain⟨hne,hb2⟩:=hmold b' blk' h hb'
   exact hM.ownS b' blk' L' hb2 h1 ho'
theorem MRel.drew {β:Inj} {m:Mem} {w:World} (h:MRel no β m w):MRel no β m w.drew:=
 ⟨h.bound,h.cells,h.own,h.ro,h.apart,h.kept,h.ownS⟩
theorem own_upd {m:Mem} {c:Nat} (b:Nat) (h:Own (upd m c none) b):Own m b:=by
 obtain⟨x,h1,h2⟩:=h
 simp only[upd] at h1
 split at h1
 ·cases h1
 ·exact⟨x,h1,h2⟩
theorem Frm.drewL {β:Inj} {m:Mem} {bs n:Nat} {w w1:World} (h:Frm β m bs n w.drew w1):Frm β m bs n w w1:=⟨h.os,h.tape,h.output,h.size,h.block⟩
theorem Ext.drewL {β β1:Inj} {m:Mem} {bs n n1:Nat} {w:World} (h:Ext β β1 m bs n n1 w.drew):Ext β β1 m bs n n1 w:=⟨h.old,h.only,h.fresh⟩
section
variable {nt : Nat} {β : Inj} {tm : Tm} {a : Act} {m m1 : Mem} {w : World} {bs n n1 : Nat} {v : Value} {o : Oper}
theorem cut_cap (need old:Nat) (e:TypeId) (t:Nat):need≤(Question.appendCap need old e).cut t:=by
 simp [Question.cut]
theorem s_app {t e t2 e2:TypeId} {i:TypeInfo} {args:Array Operand} {ts:Array TypeId} {s x:Operand} {es ex:E} (ho:o.op=.call { callee:=.builtin .append,args,argTypes:=ts }) (ha:args = #[s,x])
 (h0:ts[0]?=some t) (h1:ts[1]?=some t2) (ht:P.underlying t=some (.slice e)) (ht2:P.underlying t2=some (.slice e2)) (hi:P.info? e=some i) (hb0:i.bytes≠0) (hsz0:i.size≠0) (hbm:i.bytes≤1048576)
 (hz:(zeroOf P e).isSome=true) (hxs:cE no s=some es) (hxx:cE no x=some ex) (hF:FRel no nt β tm a) (hM:MRel no β m w) (hfr:Fresh m n)
 (hs:stepO bs (.app i.size i.bytes es ex) tm m n=some (v,m1,n1)) (hd:∀ b,n≤b→b<n1→β b=none):Runs P no β m bs n n1 w (execOp a.eval o) v m1:=by
 obtain⟨z,hz⟩:=Option.isSome_iff_exists.1 hz
 have hzi:∃ zv,i.zero=some zv∧zv.cells.size=i.size:=by
  unfold zeroOf at hz
  simp only[hi,Option.bind_eq_bind,Option.bind_some,Option.bind_eq_some_iff] at hz
  obtain⟨z0,hz0,hz1⟩:=hz
  split at hz1
  ·rename_i hc
   simp only[Bool.and_eq_true,beq_iff_eq] at hc
   exact⟨z0,hz0,hc.2⟩
  ·cases hz1
 obtain⟨zv,hzi,hzs⟩:=hzi
 have r1:=E.sim hF hxs
 have r2:=E.sim hF hxx
 simp only[stepO] at hs
 split at hs
 case h_2=>cases hs
 rename_i base len cap xb xl xc e1 e2
 split at hs
 case isFalse=>cases hs
 rename_i hcond
 obtain⟨hby,hro,hlc⟩:=hcond
 rw[e1] at r1
 rw[e2] at r2
 obtain⟨rb,rc,hr1,hcc,hnil1⟩:=slice_of r1
 obtain⟨xa,xc',hr2,_,hnil2⟩:=slice_of r2
 have e44:roomy=17592186044416:=by decide
 rw[e44] at hby hro
 split at hs
 ·skip
  rename_i hx0
  simp only[Option.some.injEq,Prod.mk.injEq] at hs
  obtain⟨rfl,rfl,rfl⟩:=hs
  refine .quiet hM (rv:=a.eval s) ?_ (by rw[hr1] at r1 ⊢;exact r1)
  rw[run_bltn _ ho,hr1]
  have hle:len≤rc:=by omega
  have hff:(Builtin.firstCells i.size xl (.slice xa xl xc')).run P w=.ok #[] w:=by
   rw[hx0]
   cases xa with
   | none=>exact run_firstCells_none w _ _ _ _
   | some ad =>
     have:=run_firstCells_some (P:=P) w i.size 0 ad 0 xc' [] (by simp) (by intro j v h;simp at h)
     simpa using this
  subst hx0
  cases rb <;> simp [ha,builtin,Builtin.append_,h0,h1,hr1,hr2,run_underlying ht,run_underlying ht2,sizeOf,typeInfo,hi,Builtin.lenOf,hle,hff,storeCells]
 ·rename_i hx0
  split at hs
  ·cases hs
  ·rename_i xad
   split at hs
   ·cases hs
   ·rename_i new hnew
    split at hs
    case isFalse=>cases hs
    rename_i hone
    have hxsp:xad.spot=none:=by
     unfold rdn at hnew
     split at hnew
     ·cases hnew
     ·rename_i h;simpa using h
    obtain⟨XL,xc2,hXL,hrx,_,_⟩:=r2.inv_slice hxsp
    rw[hr2] at hrx
    cases hrx
    have hptr:VRel no β (.pointer (some xad)) (.pointer (some ⟨XL.B,XL.O+xad.off,none⟩)):=by
     have:xad=⟨xad.block,xad.off,none⟩:=by cases xad;simp at hxsp;simp [hxsp]
     rw[this];exact .ptr hXL
    obtain⟨rs,hload,hnl,hrl,hrel⟩:=rdn_sim P hM hptr hnew
    have hload':(loadCells ⟨XL.B,XL.O+xad.off,none⟩ (xl * i.size)).run P w.drew=.ok rs w.drew:=by
     obtain⟨rs',hload2,_,hrl',hrel'⟩:=rdn_sim P hM.drew hptr hnew
     have hc:∀ j,j<xl * i.size→∃ r,w.cell? ((⟨XL.B,XL.O+xad.off,none⟩:Addr).add j)=some r:=by
      intro j hj
      unfold rdn at hnew
      rw[if_neg (by simp [hxsp])] at hnew
      split at hnew
      ·rename_i blk hblk
       split at hnew
       ·rename_i hle
        have hv:blk.cells[xad.off+j]?=some (blk.cells[xad.off+j]'(by omega)):=List.getElem?_eq_getElem _
        obtain⟨r,hr,_⟩:=hM.cells xad.block blk XL hblk hXL _ _ hv
        exact⟨r,by rw[addr_add,Nat.add_assoc];exact hr⟩
       ·cases hnew
      ·cases hnew
     let f:Nat→Value:=fun j=>if h:j<xl * i.size then(hc j h).choose else undef
     have hf:∀ j,j<xl * i.size→w.cell? ((⟨XL.B,XL.O+xad.off,none⟩:Addr).add j)=some (f j):=by
      intro j hj;simp only[f,dif_pos hj];exact(hc j hj).choose_spec
     have q1:=run_loadCells (P:=P) w ⟨XL.B,XL.O+xad.off,none⟩ (xl * i.size) f hf
     have q2:=run_loadCells (P:=P) w.drew ⟨XL.B,XL.O+xad.off,none⟩ (xl * i.size) f hf
     rw[hload] at q1
     cases q1
     exact q2
    have honer:∀ r∈rs.toList,r.oneCell'=true:=by
     intro r hr
     obtain⟨j,hj⟩:=List.getElem?_of_mem hr
     have hlt:=(List.getElem?_eq_some_iff.1 hj).1
     simp at hlt
     have hv:new[j]?=some (new[j]'(by omega)):=List.getElem?_eq_getElem _
     have:=List.all_eq_true.1 hone _ (List.getElem_mem (h:=(by omega:j<new.length)))
     exact(oneCell_of (by simpa using this) (hrel j _ r hv (by simpa using hj))).1
    have hgrown:∀ old:Nat,old<len+xl→Builtin.nextslicecap (len+xl) old * i.bytes≤281474976710656:=fun old h=>growslice_fits h (Nat.le_trans hby (by decide))
    cases base with
    | none =>
      simp only at hs
      split at hs
      case isFalse=>cases hs
      rename_i hcap
      have hl0:len=0:=by omega
      subst hcap;subst hl0
      simp only[Option.some.injEq,Prod.mk.injEq] at hs
      obtain⟨rfl,rfl,rfl⟩:=hs
      obtain⟨rfl,rfl⟩:=hnil1 rfl
      have hn:=hd n (Nat.le_refl _) (by omega)
      let nc:=(Question.appendCap xl 0 e).cut (w.tape w.drawn (.appendCap xl 0 e))
      have hnc:xl≤nc:=cut_cap _ _ _ _
      let cs:=rs++Builtin.zeroCells zv.cells (nc-xl)
      have hcs:cs.size=nc * i.size:=by
       simp only[cs,Array.size_append,size_zeroCells,hrl,hzs]
       rw[←Nat.add_mul];congr 1;omega
      obtain⟨x1,x2,x3⟩:=alloc_sim (t:=e) (sz:=i.size) bs hM.drew hfr hn new cs (by rw[hcs,hnl];exact Nat.mul_le_mul_right _ hnc) (by
       intro j u hu
       have hlt:=(List.getElem?_eq_some_iff.1 hu).1
       have hj:rs[j]?=some (rs[j]'(by omega)):=Array.getElem?_eq_getElem _
       exact⟨_,by simp only[cs];rw[Array.getElem?_append_left (by omega)];exact hj,hrel j u _ hu hj⟩)
      refine⟨_,.slice (some ⟨w.heap.size,0,none⟩) xl nc,_,_,?_,.inl rfl,?_,x1.drewL,x2,x3.drewL⟩
      ·rw[run_bltn _ ho]
       have g1:¬ (xl≤0):=by omega
       have g2:¬ (9223372036854775807<(xl:Int)):=by omega
       have g3:¬ (281474976710656<Builtin.nextslicecap xl 0 * i.bytes):=by have:=hgrown 0 (by omega);simp at this;omega
       simp [ha,builtin,Builtin.append_,h0,h1,hr1,hr2,run_underlying ht,run_underlying ht2,sizeOf,typeInfo,hi,Builtin.lenOf,hx0,g2,g3,Question.forced,run_firstCells_none,Builtin.firstCells,hload',zeroValue,hzi,run_newRow,cs,nc]
      ·exact new_slice (w0:=w.drew) (upd_self _ _ _) hnc (by rw[hcs];exact Nat.le_refl _)
    | some ad =>
      simp only at hs
      split at hs
      ·cases hs
      rename_i hsp
      split at hs
      ·cases hs
      rename_i blk hblk
      split at hs
      case isFalse=>cases hs
      rename_i hc2
      obtain⟨hbs,hown,hbsz,hend,hcl⟩:=hc2
      simp only[Option.some.injEq,Prod.mk.injEq] at hs
      obtain⟨rfl,rfl,rfl⟩:=hs
      have hn:=hd n (Nat.le_refl _) (by omega)
      have hsp':ad.spot=none:=by simpa using hsp
      obtain⟨L,c2,hL,hrs,hcc2,hroom⟩:=r1.inv_slice hsp'
      rw[hr1] at hrs
      cases hrs
      obtain⟨cur,tt,hcur,hroom0,hfit⟩:=hM.own _ blk L hblk hL hown
      rw[hbsz] at hroom0
      have hrm:=hroom i.size cur.size hroom0
      have hlen1:len * i.size≤cap * i.size:=Nat.mul_le_mul_right _ hlc
      have hcell:∀ j u,blk.cells[j]?=some u→∃ r,cur[L.O+j]?=some r∧VRel no β u r:=by
       intro j u hu
       obtain⟨r,hr,hvr⟩:=hM.cells _ blk L hblk hL j u hu
       exact⟨r,by simpa[World.cell?,hcur] using hr,hvr⟩
      by_cases hfits:len+xl≤rc
      ·skip
       have hfit2:L.O+ad.off+len * i.size+rs.toList.length≤cur.size:=by
        have h7:(len+xl) * i.size≤rc * i.size:=Nat.mul_le_mul_right _ hfits
        rw[Nat.add_mul] at h7
        simp only[Array.length_toList,hrl]
        omega
       have hst:=run_storeCells_at P L.B (L.O+ad.off+len * i.size) tt rs.toList 0 cur w hcur (by omega) honer
       simp only[Nat.add_zero] at hst
       let cs:Array Value:=(cur.toList.take (L.O+ad.off+len * i.size)++rs.toList++cur.toList.drop (L.O+ad.off+len * i.size+rs.toList.length)).toArray
       have hcs:cs.size=cur.size:=by simp [cs];simp at hfit2;omega
       have hget:=lay_get cur.toList rs.toList (L.O+ad.off+len * i.size)
       have hx:=regrow_sim hM hfr hn hblk hown hbs hL ad.off ((blk.cells.drop ad.off).take (len * i.size)++new) cur cs tt hcur hcs (by
        rw[hcs]
        simp only[List.length_append,List.length_take,List.length_drop,hnl]
        simp only[Array.length_toList,hrl] at hfit2
        omega) (by
        intro j u hu
        have hlt:=(List.getElem?_eq_some_iff.1 hu).1
        simp only[List.length_append,List.length_take,List.length_drop,hnl] at hlt
        by_cases hj:j<len * i.size
        ·rw[List.getElem?_append_left (by simp;omega),List.getElem?_take_of_lt hj,List.getElem?_drop] at hu
         obtain⟨r,hr,hvr⟩:=hcell _ _ hu
         refine⟨r,?_,hvr⟩
         simp only[cs,List.getElem?_toArray]
         rw[hget _ (by simp at hfit2 ⊢;omega),if_neg (by omega)]
         rw[←Nat.add_assoc] at hr
         simpa using hr
        ·rw[List.getElem?_append_right (by simp;omega)] at hu
         have e5:j-(List.take (len * i.size) (List.drop ad.off blk.cells)).length=j-len * i.size:=by simp;omega
         rw[e5] at hu
         have hj2:=(List.getElem?_eq_some_iff.1 hu).1
         have hjr:rs[j-len * i.size]?=some (rs[j-len * i.size]'(by omega)):=Array.getElem?_eq_getElem _
         refine⟨_,?_,hrel _ u _ hu hjr⟩
         simp only[cs,List.getElem?_toArray]
         rw[hget _ (by simp at hfit2 ⊢;omega),if_pos (by simp;omega)]
         have e6:L.O+ad.off+j-(L.O+ad.off+len * i.size)=j-len * i.size:=by omega
         rw[e6]
         simp)
       obtain⟨x1,x2,x3⟩:=hx
       rw[hbsz] at x2
       refine⟨_,.slice (some ⟨L.B,L.O+ad.off,none⟩) (len+xl) rc,_,_,?_,.inl rfl,?_,x1,x2,x3⟩
       ·rw[run_bltn _ ho]
        simp [ha,builtin,Builtin.append_,h0,h1,hr1,hr2,run_underlying ht,run_underlying ht2,sizeOf,typeInfo,hi,Builtin.lenOf,hfits,Builtin.firstCells,hload,addr_add,hst,cs]
       ·have:=VRel.slice (no:=no) (β:=upd β n (some ⟨L.B,L.O+ad.off,L.room⟩)) (b:=n) (o:=0) (l:=len+xl) (c:=len+xl) (c':=rc) (upd_self _ _ _) hfits (by
         intro k0 N0 h00
         have:=hroom k0 N0 h00
         simpa using this)
        unfold slc
        simpa using this
      ·skip
       let nc:=(Question.appendCap (len+xl) rc e).cut (w.tape w.drawn (.appendCap (len+xl) rc e))
       have hnc:len+xl≤nc:=cut_cap _ _ _ _
       have hpo:VRel no β (.pointer (some ad)) (.pointer (some ⟨L.B,L.O+ad.off,none⟩)):=by
        have:ad=⟨ad.block,ad.off,none⟩:=by cases ad;simp at hsp';simp [hsp']
        rw[this];exact .ptr hL
       have hrdo:rdn m ad (len * i.size)=some ((blk.cells.drop ad.off).take (len * i.size)):=by
        unfold rdn
        rw[if_neg (by simp [hsp']),hblk]
        simp only
        rw[if_pos (by omega)]
       obtain⟨os,holoads,hol,hosl,horel⟩:=rdn_sim P hM.drew hpo hrdo
       let cs:=os++rs++Builtin.zeroCells zv.cells (nc-(len+xl))
       have hcs:cs.size=nc * i.size:=by
        simp only[cs,Array.size_append,size_zeroCells,hrl,hosl,hzs]
        rw[←Nat.add_mul,←Nat.add_mul];congr 1;omega
       have hMd:MRel no β (upd m ad.block none) w.drew:=hM.drew.mono (by
        intro b' k' e'
        simp only[upd] at e'
        split at e'
        ·cases e'
        ·exact e')
       have hfr':Fresh (upd m ad.block none) n:=by
        intro b' hb'
        simp only[upd]
        split
        ·rfl
        ·exact hfr b' hb'
       obtain⟨x1,x2,x3⟩:=alloc_sim (t:=e) (sz:=i.size) bs hMd hfr' hn ((blk.cells.drop ad.off).take (len * i.size)++new) cs (by
        rw[hcs]
        simp only[List.length_append,hol,hnl]
        rw[←Nat.add_mul];exact Nat.mul_le_mul_right _ hnc) (by
        intro j u hu
        have hlt:=(List.getElem?_eq_some_iff.1 hu).1
        simp only[List.length_append,hol,hnl] at hlt
        by_cases hj:j<len * i.size
        ·rw[List.getElem?_append_left (by omega)] at hu
         have hjr:os[j]?=some (os[j]'(by omega)):=Array.getElem?_eq_getElem _
         refine⟨_,?_,horel j u _ hu hjr⟩
         simp only[cs]
         rw[Array.getElem?_append_left (by simp;omega),Array.getElem?_append_left (by omega)]
         exact hjr
        ·rw[List.getElem?_append_right (by omega),hol] at hu
         have hjr:rs[j-len * i.size]?=some (rs[j-len * i.size]'(by omega)):=Array.getElem?_eq_getElem _
         refine⟨_,?_,hrel _ u _ hu hjr⟩
         simp only[cs]
         rw[Array.getElem?_append_left (by simp;omega),Array.getElem?_append_right (by omega),hosl]
         exact hjr)
       refine⟨_,.slice (some ⟨w.heap.size,0,none⟩) (len+xl) nc,_,_,?_,.inl rfl,?_,x1.drewL.less own_upd,x2,x3.drewL.less own_upd⟩
       ·rw[run_bltn _ ho]
        have g2:¬ (9223372036854775807<(len:Int)+(xl:Int)):=by omega
        have g3:¬ (281474976710656<Builtin.nextslicecap (len+xl) rc * i.bytes):=by have:=hgrown rc (by omega);omega
        simp [ha,builtin,Builtin.append_,h0,h1,hr1,hr2,run_underlying ht,run_underlying ht2,sizeOf,typeInfo,hi,Builtin.lenOf,hfits,g2,g3,Question.forced,Builtin.firstCells,hload',holoads,zeroValue,hzi,run_newRow,cs,nc]
       ·exact new_slice (w0:=w.drew) (upd_self _ _ _) hnc (by rw[hcs];exact Nat.le_refl _)
end
end Go.Proofs.YtoppcdecolponaaGreat.AL
namespace Go.Proofs.YtoppcdecolponaaGreat.AL
open Go
set_option linter.unusedVariables false
set_option linter.unusedSimpArgs false
variable {no : No} {P : Program}
section
variable {nt : Nat} {β : Inj} {tm : Tm} {a : Act} {m m1 : Mem} {w : World} {bs n n1 : Nat} {v : Value} {o : Oper}
theorem step_sim {io:O} (hc:cO P no o.op=some io) (hF:FRel no nt β tm a) (hM:MRel no β m w) (hfr:Fresh m n)
 (hs:stepO bs io tm m n=some (v,m1,n1)) (hd:∀ b,n≤b→b<n1→β b=none):Runs P no β m bs n n1 w (execOp a.eval o) v m1:=by
 cases ho:o.op with
 | move x =>
   rw[ho] at hc
   simp only[cO,Option.map_eq_some_iff] at hc
   obtain⟨e,he,rfl⟩:=hc
   exact s_move (.inl ho) he hF hM hs
 | assign x =>
   rw[ho] at hc
   simp only[cO,Option.map_eq_some_iff] at hc
   obtain⟨e,he,rfl⟩:=hc
   exact s_move (.inr ho) he hF hM hs
 | pick c x y =>
   rw[ho] at hc
   simp only[cO,Option.bind_eq_bind,Option.bind_eq_some_iff,Option.some.injEq] at hc
   obtain⟨ec,hec,ex,hex,ey,hey,rfl⟩:=hc
   exact s_pick ho hec hex hey hF hM hs
 | alloc t =>
   rw[ho] at hc
   simp only[cO,Option.map_eq_some_iff] at hc
   obtain⟨z,hz,rfl⟩:=hc
   exact s_new ho hz hF hM hfr hs hd
 | box t x =>
   rw[ho] at hc
   simp only[cO,Option.map_eq_some_iff] at hc
   obtain⟨e,he,rfl⟩:=hc
   exact s_box ho he hF hM hfr hs hd
 | load t x =>
   rw[ho] at hc
   simp only[cO,Option.bind_eq_bind,Option.bind_eq_some_iff] at hc
   obtain⟨b,hb,hc⟩:=hc
   cases b with
   | true =>
     simp only[if_true,Option.bind_eq_some_iff,Option.some.injEq] at hc
     obtain⟨k,hk,e,he,rfl⟩:=hc
     exact s_ldn ho he hb hk hF hM hs
   | false =>
     simp only[Bool.false_eq_true,if_false,Option.bind_eq_some_iff,Option.some.injEq] at hc
     obtain⟨e,he,rfl⟩:=hc
     exact s_ld ho he hb hF hM hs
 | store t x y =>
   rw[ho] at hc
   simp only[cO,Option.bind_eq_bind,Option.bind_eq_some_iff] at hc
   obtain⟨b,hb,hc⟩:=hc
   cases b with
   | true =>
     simp only[if_true,Option.bind_eq_some_iff,Option.some.injEq] at hc
     obtain⟨k,hk,ex,hex,ey,hey,rfl⟩:=hc
     exact s_stn ho hex hey hk hF hM hfr hs
   | false =>
     simp only[Bool.false_eq_true,if_false,Option.bind_eq_some_iff] at hc
     obtain⟨k,hk,hc⟩:=hc
     split at hc
     ·rename_i hk1
      simp only[Option.bind_eq_some_iff,Option.some.injEq] at hc
      obtain⟨ex,hex,ey,hey,rfl⟩:=hc
      have:k=1:=by simpa using hk1
      subst this
      exact s_st ho hex hey hk hF hM hfr hs
     ·cases hc
 | nilCheck x =>
   rw[ho] at hc
   simp only[cO,Option.map_eq_some_iff] at hc
   obtain⟨e,he,rfl⟩:=hc
   exact s_nilc ho he hF hM hs
 | binOp op t x y yt =>
   rw[ho] at hc
   simp only[cO] at hc
   split at hc
   ·simp only[Option.bind_eq_bind,Option.bind_eq_some_iff,Option.some.injEq] at hc
    obtain⟨ex,hex,ey,hey,rfl⟩:=hc
    exact s_bin ho hex hey hF hM hs
   ·simp only[Option.bind_eq_bind,Option.bind_eq_some_iff,Option.some.injEq] at hc
    obtain⟨ex,hex,ey,hey,rfl⟩:=hc
    exact s_bin ho hex hey hF hM hs
   ·rename_i ht
    split at hc
    ·simp only[Option.bind_eq_bind,Option.bind_eq_some_iff,Option.some.injEq] at hc
     obtain⟨ex,hex,ey,hey,rfl⟩:=hc
     exact s_eqb (neg:=false) ho rfl ht hex hey hF hM hs
    ·simp only[Option.bind_eq_bind,Option.bind_eq_some_iff,Option.some.injEq] at hc
     obtain⟨ex,hex,ey,hey,rfl⟩:=hc
     exact s_eqb (neg:=true) ho rfl ht hex hey hF hM hs
    ·cases hc
   ·rename_i ht
    simp only[Option.bind_eq_bind,Option.bind_eq_some_iff] at hc
    obtain⟨ks,hks,hc⟩:=hc
    split at hc
    ·simp only[Option.bind_eq_some_iff,Option.some.injEq] at hc
     obtain⟨ex,hex,ey,hey,rfl⟩:=hc
     exact s_eqs (neg:=false) ho rfl hks hex hey hF hM hs
    ·simp only[Option.bind_eq_some_iff,Option.some.injEq] at hc
     obtain⟨ex,hex,ey,hey,rfl⟩:=hc
     exact s_eqs (neg:=true) ho rfl hks hex hey hF hM hs
    ·cases hc
   ·rename_i ht
    split at hc
    ·rename_i hy
     split at hc
     ·simp only[Option.bind_eq_bind,Option.bind_eq_some_iff,Option.some.injEq] at hc
      obtain⟨ex,hex,rfl⟩:=hc
      exact s_eqnil (neg:=false) ho rfl ht hex hy hF hM hs
     ·simp only[Option.bind_eq_bind,Option.bind_eq_some_iff,Option.some.injEq] at hc
      obtain⟨ex,hex,rfl⟩:=hc
      exact s_eqnil (neg:=true) ho rfl ht hex hy hF hM hs
     ·cases hc
    ·cases hc
   ·cases hc
 | unOp op t x =>
   rw[ho] at hc
   cases op with
   | not =>
     simp only[cO,Option.map_eq_some_iff] at hc
     obtain⟨e,he,rfl⟩:=hc
     exact s_not ho he hF hM hs
   | neg =>
     simp only[cO,Option.map_eq_some_iff] at hc
     obtain⟨e,he,rfl⟩:=hc
     exact s_neg ho he hF hM hs
   | xor=>cases hc
   | plus=>cases hc
 | convert src dst x =>
   rw[ho] at hc
   simp only[cO] at hc
   split at hc
   ·rename_i k0 k hsrc hdst
    simp only[Option.map_eq_some_iff] at hc
    obtain⟨e,he,rfl⟩:=hc
    exact s_cvi ho he hsrc hdst hF hM hs
   ·rename_i hsrc hdst
    cases hc
   ·simp only[Option.map_eq_some_iff] at hc
    obtain⟨e,he,rfl⟩:=hc
    cases hs
   ·rename_i hsrc hdst
    split at hc
    ·rename_i he8
     simp only[Option.map_eq_some_iff] at hc
     obtain⟨e,he,rfl⟩:=hc
     exact s_cvbs ho he hsrc he8 hdst hF hM hs
    ·cases hc
   ·cases hc
 | makeFunc fn first captured =>
   rw[ho] at hc
   cases fn with
   | func f =>
     simp only[cO] at hc
     split at hc
     ·rename_i h0
      simp only[Option.bind_eq_bind,Option.bind_eq_some_iff,Option.some.injEq] at hc
      obtain⟨g,hg,es,hes,rfl⟩:=hc
      exact s_fn ho (by simpa using h0) hg hes hF hM hs
     ·cases hc
   | _=>cases hc
 | makeSlice t l c =>
   rw[ho] at hc
   simp only[cO,Option.bind_eq_bind,Option.bind_eq_some_iff,Option.some.injEq] at hc
   obtain⟨e,he,i,hi,z,hz,el,hel,ec,hec,rfl⟩:=hc
   exact s_mk ho (elemT_eq he) hi hz hel hec hF hM hfr hs hd
 | buildSlice t k parts =>
   rw[ho] at hc
   simp only[cO,Option.bind_eq_bind,Option.bind_eq_some_iff] at hc
   obtain⟨e,he,z,hz,hc⟩:=hc
   split at hc
   ·rename_i hcond
    simp only[Bool.and_eq_true,decide_eq_true_eq,bne_iff_ne] at hcond
    simp only[Option.bind_eq_some_iff,Option.some.injEq] at hc
    obtain⟨ps,hps,rfl⟩:=hc
    exact s_bs ho (elemT_eq he) hz hcond.1 hcond.2 hps hF hM hfr hs hd
   ·cases hc
 | build t parts =>
   rw[ho] at hc
   simp only[cO] at hc
   split at hc
   ·rename_i fs hfs
    split at hc
    ·rename_i hall
     simp only[Option.bind_eq_bind,Option.bind_eq_some_iff,Option.some.injEq] at hc
     obtain⟨z,hz,ps,hps,rfl⟩:=hc
     exact s_bd ho hfs hz (fun f hf=>List.all_eq_true.1 hall f hf) hps hF hM hs
    ·cases hc
   ·cases hc
 | slice t x lo hi mx =>
   rw[ho] at hc
   simp only[cO,Option.bind_eq_bind,Option.bind_eq_some_iff] at hc
   obtain⟨ex,hex,el,hel,eh,heh,em,hem,hc⟩:=hc
   split at hc
   ·rename_i ht
    split at hc
    ·rename_i hm
     cases hc
     have:mx=none:=by
      cases mx with
      | none=>rfl
      | some u =>
        simp only[Option.elim_some,Option.map_eq_some_iff] at hem
        obtain⟨_,_,rfl⟩:=hem
        cases hm
     subst this
     exact s_sls ho ht hex hel heh hF hM hs
    ·cases hc
   ·rename_i e ht
    simp only[Option.bind_eq_some_iff,Option.some.injEq] at hc
    obtain⟨k,hk,rfl⟩:=hc
    exact s_sl ho ht hk hex hel heh hem hF hM hs
   ·cases hc
 | fieldAddr s x f =>
   rw[ho] at hc
   simp only[cO,Option.bind_eq_bind,Option.bind_eq_some_iff] at hc
   obtain⟨fd,hfd,k,hk,hc⟩:=hc
   split at hc
   ·cases hc
   ·rename_i hk0
    simp only[Option.bind_eq_some_iff,Option.some.injEq] at hc
    obtain⟨e,he,rfl⟩:=hc
    exact s_fa ho he hfd hk (by simpa using hk0) hF hM hs
 | field s x f =>
   rw[ho] at hc
   simp only[cO,Option.bind_eq_bind,Option.bind_eq_some_iff] at hc
   obtain⟨fd,hfd,b,hb,hc⟩:=hc
   cases b with
   | true =>
     simp only[if_true,Option.bind_eq_some_iff,Option.map_eq_some_iff,Option.some.injEq] at hc
     obtain⟨k,⟨j,hj,rfl⟩,e,he,rfl⟩:=hc
     exact s_fld ho he hfd hb (by simp only[if_true];exact⟨j,hj,rfl⟩) hF hM hs
   | false =>
     simp only[Bool.false_eq_true,if_false,Option.bind_some,Option.bind_eq_some_iff,Option.some.injEq] at hc
     obtain⟨e,he,rfl⟩:=hc
     exact s_fld ho he hfd hb (by simp) hF hM hs
 | indexAddr t x i =>
   rw[ho] at hc
   simp only[cO,Option.bind_eq_bind,Option.bind_eq_some_iff,Option.some.injEq] at hc
   obtain⟨e,he,k,hk,ex,hex,ei,hei,rfl⟩:=hc
   exact s_ia ho hex hei he hk hF hM hs
 | index t x i =>
   rw[ho] at hc
   simp only[cO] at hc
   split at hc
   ·rename_i ht
    simp only[Option.bind_eq_bind,Option.bind_eq_some_iff,Option.some.injEq] at hc
    obtain⟨ex,hex,ei,hei,rfl⟩:=hc
    exact s_ix ho ht hex hei hF hM hs
   ·cases hc
 | extract x i =>
   rw[ho] at hc
   simp only[cO,Option.map_eq_some_iff] at hc
   obtain⟨e,he,rfl⟩:=hc
   exact s_ext ho he hF hM hs
 | call c =>
   rw[ho] at hc
   obtain⟨callee,args,ts⟩:=c
   cases callee with
   | value f =>
     cases f with
     | func g =>
       simp only[cO,Option.bind_eq_bind,Option.bind_eq_some_iff,Option.some.injEq] at hc
       obtain⟨_,_,_,_,rfl⟩:=hc
       cases hs
     | tmp t =>
       simp only[cO,Option.bind_eq_bind,Option.bind_eq_some_iff,Option.some.injEq] at hc
       obtain⟨_,_,rfl⟩:=hc
       cases hs
     | const v=>cases hc
     | global g=>cases hc
   | invoke r mt=>cases hc
   | builtin b =>
     simp only[cO,Option.bind_eq_bind,Option.bind_eq_some_iff] at hc
     obtain⟨es,hes,hc⟩:=hc
     obtain⟨hlen,hpp⟩:=parts_mapM _ hes
     have one:∀ x,es=[x]→∃ y,args = #[y]∧cE no y=some x:=by
      rintro x rfl
      cases hal:args.toList with
      | nil=>rw[hal] at hlen;simp at hlen
      | cons y l =>
        cases l with
        | nil=>exact⟨y,by rw[←Array.toArray_toList (xs:=args),hal],hpp 0 y x (by rw[hal];rfl) rfl⟩
        | cons=>rw[hal] at hlen;simp at hlen
     have two:∀ x x2,es=[x,x2]→∃ y y2,args = #[y,y2]∧cE no y=some x∧cE no y2=some x2:=by
      rintro x x2 rfl
      cases hal:args.toList with
      | nil=>rw[hal] at hlen;simp at hlen
      | cons y l =>
        cases l with
        | nil=>rw[hal] at hlen;simp at hlen
        | cons y2 l =>
          cases l with
          | nil=>exact⟨y,y2,by rw[←Array.toArray_toList (xs:=args),hal],hpp 0 y x (by rw[hal];rfl) rfl,hpp 1 y2 x2 (by rw[hal];rfl) rfl⟩
          | cons=>rw[hal] at hlen;simp at hlen
     split at hc
     ·obtain⟨y,hy,hy2⟩:=one _ rfl
      split at hc
      ·rename_i ht
       cases hc
       simp only[Option.bind_eq_some_iff] at ht
       obtain⟨t,h0,ht⟩:=ht
       exact s_lens ho hy h0 ht hy2 hF hM hs
      ·rename_i e ht
       cases hc
       simp only[Option.bind_eq_some_iff] at ht
       obtain⟨t,h0,ht⟩:=ht
       exact s_len ho hy h0 ht hy2 hF hM hs
      ·cases hc
     ·split at hc
      ·cases hc;cases hs
      ·cases hc
     ·cases hc
      exact s_mn ho hes hF hM hs
     ·cases hc
      exact s_mx ho hes hF hM hs
     ·obtain⟨y,y2,hy,hy1,hy2⟩:=two _ _ rfl
      split at hc
      ·rename_i e e2 ht ht2
       simp only[Option.bind_eq_some_iff] at hc ht ht2
       obtain⟨t,h0,ht⟩:=ht
       obtain⟨t2,h02,ht2⟩:=ht2
       obtain⟨i,hi,hc⟩:=hc
       split at hc
       ·cases hc
       ·rename_i hcond
        cases hc
        simp only[Bool.or_eq_true,not_or,beq_iff_eq,decide_eq_true_eq,Nat.not_lt,Bool.not_eq_true,gt_iff_lt] at hcond
        obtain⟨⟨⟨c1,c2⟩,c3⟩,c4⟩:=hcond
        exact s_app ho hy h0 h02 ht ht2 hi c1 c2 c3 (by cases h:zeroOf P e with|none=>rw[h] at c4;cases c4|some _=>rfl) hy1 hy2 hF hM hfr hs hd
      ·cases hc
     ·split at hc
      ·simp only[Option.bind_eq_some_iff,Option.some.injEq] at hc
       obtain⟨z,hz,rfl⟩:=hc
       rename_i e ht
       simp only[Option.bind_eq_some_iff] at ht
       obtain⟨t,h0,ht⟩:=ht
       obtain⟨y,hy,hy2⟩:=one _ rfl
       exact s_clr ho hy h0 ht hz hy2 hF hM hfr hs
      ·cases hc
     ·split at hc
      ·simp only[Option.bind_eq_some_iff,Option.some.injEq] at hc
       obtain⟨k,hk,rfl⟩:=hc
       cases hs
      ·cases hc
     ·cases hc
 | _=>rw[ho] at hc;cases hc
end
end Go.Proofs.YtoppcdecolponaaGreat.AL
namespace Go.Proofs.YtoppcdecolponaaGreat.AL
open Go
set_option linter.unusedVariables false
set_option linter.unusedSimpArgs false
variable {no : No} {P : Program}
def BLt (β:Inj) (n:Nat):Prop:=∀ b,n≤b→β b=none
theorem BLt.ext {β β1:Inj} {m:Mem} {bs n n1:Nat} {w:World} (h:BLt β n) (e:Ext β β1 m bs n n1 w) (hn:n≤n1):BLt β1 n1:=by
 intro b hb
 have h0:=h b (by omega)
 by_cases e1:β1 b=β b
 ·rw[e1,h0]
 ·have:=e.only b e1;omega
def CallSim (P:Program) (no:No) (bs:Nat) (f:Nat) (args:List Value) (m:Mem) (n:Nat) (v:Value) (m1:Mem) (n1:Nat):Prop:=
 ∀ (β:Inj) (w:World) (rargs:Array Value) (fr:Nat),no fr=some f→BLt β n→MRel no β m w→rargs.size=args.length→(∀ (i:Nat) x y,args[i]?=some x→rargs[i]?=some y→VRel no β x y) →
   Calls P fr rargs w fun e w'=>∃ rv β1,e=.returned rv∧VRel no β1 v rv∧Ext β β1 m bs n n1 w∧MRel no β1 m1 w'∧Frm β m bs n w w'
structure FRelS (no:No) (nt:Nat) (β:Inj) (sl:List Nat) (tm:Tm) (a:Act):Prop where
 size:nt≤a.tmps.size
 defers:a.defers=[]
 slots:∀ t,t∈sl→VRel no β (tm t) (a.tmps.getD t undef)
def OpS (P:Program) (no:No) (bs:Nat) (o:O) (tm:Tm) (m:Mem) (n:Nat) (v:Value) (m2:Mem) (n2:Nat):Prop:=
 ∀ (nt:Nat) (oper:Oper) (β:Inj) (w:World) (a:Act) (K:Act→World→Prop) (Q:Exit→Act→World→Prop),cO P no oper.op=some o→(o.isCall=true→opIsCall oper.op=true)→BLt β n→FRelS no nt β o.slots tm a→MRel no β m w →
   (∀ rv β1 w1,Ext β β1 m bs n n2 w→VRel no β1 v rv→MRel no β1 m2 w1→Frm β m bs n w w1→K (a.put oper.dst rv) w1)→oper.wp P a w K Q
theorem OpS.pure {bs n n2:Nat} {o:O} {tm:Tm} {m m2:Mem} {v:Value} (hM0:MLt m n) (hs:stepO bs o tm m n=some (v,m2,n2)):OpS P no bs o tm m n v m2 n2:=by
 intro nt oper β w a K Q hc hic hβ hF hM hK
 let tm':Tm:=fun t=>if t∈o.slots then tm t else junk
 have hcg:∀ t,t∈o.slots→tm t=tm' t:=fun t ht=>by simp [tm',ht]
 have hF':FRel no nt β tm' a:=⟨hF.size,hF.defers,fun t=>by
  simp only[tm']
  split
  ·rename_i ht;exact hF.slots t ht
  ·exact .junk⟩
 rw[step_congr hcg] at hs
 obtain⟨nx,rv,w',β1,hrun,hnx,hv,he,hM1,hf⟩:=step_sim (P:=P) hc hF' hM hM0.fresh hs (fun b hb _=>hβ b hb)
 unfold Oper.wp
 rw[hrun]
 rcases hnx with rfl|⟨rfl,rfl⟩
 ·exact hK rv β1 w' he hv hM1 hf
 ·exact hK undef β1 w' he hv hM1 hf
theorem bind_ne {α β:Type} {x:Option α} {f:α→Option β} {r:β} (h:∀ a,f a≠some r):x.bind f≠some r:=by
 cases x with
 | none=>intro e;cases e
 | some a=>exact h a
theorem map_ne {α β:Type} {x:Option α} {f:α→β} {r:β} (h:∀ a,some (f a)≠some r):x.map f≠some r:=by
 cases x with
 | none=>intro e;cases e
 | some a=>exact h a
theorem cO_sl {op:Op} {sz:Nat} {ex:E} {el eh:Option E} (h:cO P no op=some (.sl sz ex el eh none)) :
 ∃ t x lo hi e,op=.slice t x lo hi none∧P.underlying t=some (.slice e)∧sizeT P e=some sz∧cE no x=some ex∧lo.elim (some none) (fun y=>(cE no y).map some)=some el∧hi.elim (some none) (fun y=>(cE no y).map some)=some eh:=by
 cases op with
 | slice t x lo hi mx =>
   simp only[cO,Option.bind_eq_bind,Option.bind_eq_some_iff] at h
   obtain⟨ex',hex,el',hel,eh',heh,em,hem,hc⟩:=h
   split at hc
   ·split at hc
    ·cases hc
    ·cases hc
   ·rename_i e ht
    simp only[Option.bind_eq_some_iff,Option.some.injEq] at hc
    obtain⟨k,hk,hc⟩:=hc
    cases hc
    have:mx=none:=by
     cases mx with
     | none=>rfl
     | some u =>
       simp only[Option.elim_some,Option.map_eq_some_iff] at hem
       obtain⟨_,_,hem⟩:=hem;cases hem
    subst this
    exact⟨t,x,lo,hi,e,rfl,ht,hk,hex,hel,heh⟩
   ·cases hc
 | _ =>
   exfalso
   revert h
   simp only[cO,Option.bind_eq_bind]
   repeat' first
    | refine bind_ne fun _=>?_
    | refine map_ne fun _=>?_
    | (intro h;cases h;done)
    | (exfalso;contradiction)
    | split
theorem OpS.alt {bs n n2:Nat} {o:O} {tm:Tm} {m m2:Mem} {v:Value} (hM0:MLt m n) (hs:stepA bs o tm m n=some (v,m2,n2)):OpS P no bs o tm m n v m2 n2:=by
 intro nt oper β w a K Q hc hic hβ hF hM hK
 let tm':Tm:=fun t=>if t∈o.slots then tm t else junk
 have hcg:∀ t,t∈o.slots→tm t=tm' t:=fun t ht=>by simp [tm',ht]
 have hF':FRel no nt β tm' a:=⟨hF.size,hF.defers,fun t=>by
  simp only[tm']
  split
  ·rename_i ht;exact hF.slots t ht
  ·exact .junk⟩
 rw[stepA_congr hcg] at hs
 obtain⟨sz,x,lo,hi,ho2⟩:∃ sz x lo hi,o=.sl sz x lo hi none:=by
  obtain⟨sz,x,lo,hi,_,_,_,_,_,_,h1,_⟩:=stepA_inv hs
  exact⟨sz,x,lo,hi,h1⟩
 subst ho2
 have hrun:Runs P no β m bs n n2 w (execOp a.eval oper) v m2:=by
  obtain⟨t,x',lo',hi',e,ho,ht,hsz,hx,hl,hh⟩:=cO_sl hc
  exact s_slA ho ht hsz hx hl hh hF' hM hM0.fresh (hβ n (Nat.le_refl _)) hs
 obtain⟨nx,rv,w',β1,hrun,hnx,hv,he,hM1,hf⟩:=hrun
 unfold Oper.wp
 rw[hrun]
 rcases hnx with rfl|⟨rfl,rfl⟩
 ·exact hK rv β1 w' he hv hM1 hf
 ·exact hK undef β1 w' he hv hM1 hf
def NatSim (P:Program) (no:No) (f:Nat) (args:List Value) (v:Value):Prop:=
 (∀ (rargs:Array Value) (w:World),(callFunc f rargs).run P w=.ok (.enter f rargs) w) ∧
 ∀ w:World,(no.S≤w.heap.size∧∀ B,B<no.S→w.heap[B]?=no.W.heap[B]?)→Calls P f args.toArray w fun e w'=>e=.returned v∧Go.RowKit.Below w.heap.size w w'
def JoinSim (P:Program) (no:No) (f:Nat):Prop:=
 (∀ (rargs:Array Value) (w:World),(callFunc f rargs).run P w=.ok (.enter f rargs) w) ∧
 ∀ w:World,(no.S≤w.heap.size∧∀ B,B<no.S→w.heap[B]?=no.W.heap[B]?)→∀ (bk o c:Nat) (xs:List ByteArray) (s:ByteArray),
   (∀ (j:Nat) x,xs[j]?=some x→w.cell? ⟨bk,o+j,none⟩=some (.string x))→bk<w.heap.size→xs.length≤140737488355328→xs.length≤c→(joinB xs s).length≤140737488355328 →
   Calls P f #[.slice (some ⟨bk,o,none⟩) xs.length c,.string s] w fun e w'=>e=.returned (.string ⟨(joinB xs s).toArray⟩)∧Go.RowKit.Below w.heap.size w w'
def Link (P:Program) (no:No) (G:Prg):Prop:=
 (∀ g fn,G g=some fn→fn.body.ok=true∧∀ f,no f=some g→∃ pf,P.funcs[f]?=some pf∧cF P no pf=some fn)∧(∀ g args v,nat g args=some v→∀ f,no f=some g→NatSim P no f args v)∧∀ f,no f=some 407→JoinSim P no f
theorem call_enter {f:FuncId} {pf:Func} {fn:Fnc} (hf:P.funcs[f]?=some pf) (hc:cF P no pf=some fn) (args:Array Value) (w:World):(callFunc f args).run P w=.ok (.enter f args) w:=by
 unfold cF at hc
 simp only[Option.bind_eq_bind,Option.bind_eq_some_iff] at hc
 obtain⟨c,hb,hc⟩:=hc
 split at hc
 ·cases hc
 ·rename_i hn
  have hn' : pf.name ≠ "runtime.NumGoroutine" := by simpa using hn
  simp [callFunc,hf,hn',hb]
theorem OpS.call {bs n n2:Nat} {o:O} {tm:Tm} {m m2:Mem} {v:Value} {f:Nat} {args:List Value} (hE:∀ fr,no fr=some f→∀ (rargs:Array Value) (w:World),(callFunc fr rargs).run P w=.ok (.enter fr rargs) w) (hcal:o.callee tm=some (f,args)) (hs:CallSim P no bs f args m n v m2 n2) :
 OpS P no bs o tm m n v m2 n2:=by
 intro nt oper β w a K Q hc hic hβ hF hM hK
 let tm':Tm:=fun t=>if t∈o.slots then tm t else junk
 have hcg:∀ t,t∈o.slots→tm t=tm' t:=fun t ht=>by simp [tm',ht]
 have hF':FRel no nt β tm' a:=⟨hF.size,hF.defers,fun t=>by
  simp only[tm']
  split
  ·rename_i ht;exact hF.slots t ht
  ·exact .junk⟩
 rw[callee_congr hcg] at hcal
 have fin:∀ (fr:Nat) (rargs:Array Value),no fr=some f→rargs.size=args.length→(∀ (i:Nat) x y,args[i]?=some x→rargs[i]?=some y→VRel no β x y) →
  (execOp a.eval oper).run P w=(callFunc fr rargs).run P w→oper.wp P a w K Q:=by
  intro fr rargs hno hsz hrel hrun
  unfold Oper.wp
  rw[hrun,hE fr hno,Oper.upon_enter]
  refine Calls.mono (hs β w rargs fr hno hβ hM hsz hrel) ?_
  rintro e w' ⟨rv,β1,rfl,hv,he,hM1,hf⟩
  exact hK rv β1 w' he hv hM1 hf
 cases hop:oper.op with
 | call c =>
   rw[hop] at hc
   obtain⟨callee,cargs,ts⟩:=c
   cases callee with
   | value fv =>
     cases fv with
     | func fr =>
       simp only[cO,Option.bind_eq_bind,Option.bind_eq_some_iff,Option.some.injEq] at hc
       obtain⟨g,hg,es,hes,rfl⟩:=hc
       simp only[O.callee,Option.some.injEq,Prod.mk.injEq] at hcal
       obtain⟨rfl,rfl⟩:=hcal
       obtain⟨hl,hrel⟩:=Es.sim hF' hes
       refine fin fr (cargs.map a.eval) hg (by simp [hl]) (fun i x y hx hy=>hrel i x y hx (by simpa[Array.getElem?_map] using hy)) ?_
       simp [execOp,hop,resolve,Deferred.ofValue,Act.eval,invoke]
     | tmp t =>
       simp only[cO,Option.bind_eq_bind,Option.bind_eq_some_iff,Option.some.injEq] at hc
       obtain⟨es,hes,rfl⟩:=hc
       simp only[O.callee] at hcal
       split at hcal
       ·rename_i g first captured hfv
        simp only[Option.some.injEq,Prod.mk.injEq] at hcal
        obtain⟨rfl,rfl⟩:=hcal
        have hv:=hF'.slots t
        rw[show tm' t=.func (.func g) first captured from hfv] at hv
        obtain⟨fr,ys,hno,hfirst,hr,hsz,hcap⟩:=hv.inv_func
        subst hfirst
        obtain⟨hl,hrel⟩:=Es.sim hF' hes
        have hl':cargs.size=es.length:=by rw[hl];simp
        refine fin fr (cargs.map a.eval++ys) hno (by simp [hl',hsz]) ?_ ?_
        ·intro i x y hx hy
         simp only[List.nil_append] at hx
         by_cases hi:i<es.length
         ·rw[List.getElem?_append_left (by simpa using hi)] at hx
          rw[Array.getElem?_append_left (by simp;omega)] at hy
          exact hrel i x y hx (by simpa[Array.getElem?_map] using hy)
         ·rw[List.getElem?_append_right (by simp;omega)] at hx
          rw[Array.getElem?_append_right (by simp;omega)] at hy
          refine hcap (i-es.length) x y (by simpa using hx) ?_
          have:(cargs.map a.eval).size=es.length:=by simp [hl']
          rw[this] at hy
          exact hy
        ·have he:a.eval (.tmp t)=.func (.func fr) #[] ys:=hr
         simp [execOp,hop,resolve,Deferred.ofValue,he,invoke]
       ·cases hcal
     | const v=>cases hc
     | global g=>cases hc
   | invoke r mt=>cases hc
   | builtin b =>
     have hi:o.isCall=true:=by
      cases o <;> first|rfl|(cases hcal;done)
     have:=hic hi
     rw[hop] at this
     cases this
 | _ =>
   have hi:o.isCall=true:=by
    cases o <;> first|rfl|(cases hcal;done)
   have:=hic hi
   rw[hop] at this
   cases this
def Nx (q:Bool) (n:Nat) (H:Nat→Prop) (X:Xs) (H':Nat→Prop) (X':Xs):Prop:=
 q=true→(∀ b,H b→H' b)∧(∀ b,H' b→H b∨n≤b)∧∀ p,p∈X→p∈X'
def Qt (q:Bool) (n:Nat) (H:Nat→Prop) (m mi mi' m2:Mem):Prop:=
 (q=false→mi=m∧m2=mi') ∧
 (q=true→(∀ b x,mi b=some x→m b=some x∧¬ H b)∧∀ b x,m2 b=some x→(b<n∧m b=some x)∨(n≤b∧mi' b=some x)) ∧
 ∀ b,b<n→Own m2 b→Own m b
structure Hv (o:O) (tm:Tm) (n:Nat) (H:Nat→Prop) (X:Xs) (T:List Nat) (m mh mh' m2:Mem):Prop where
 sub:∀ b x,mh b=some x→m b=some x
 hid:∀ b x,mh b=some x→b∈T∨¬ H b
 tgt:∀ b,b∈T→H b∧XOk o X b∧b<n∧(∃ x,mh b=some x)∧Leads o tm b
 keep:∀ b x,mh b=some x→b∉T→mh' b=some x
 out:∀ b x,m2 b=some x→(b<n∧b∉T∧m b=some x)∨(b∈T∧mh' b=some x)∨(n≤b∧mh' b=some x)
 own:∀ b,b<n→Own m2 b→Own m b
inductive TrL (P:Program) (no:No):Nat→(Nat→Prop)→Xs→List IOp→Tm→Mem→Nat→Tm→Mem→Nat→Prop
 | nil {bs H X tm m n}:TLt tm n→MLt m n→TrL P no bs H X [] tm m n tm m n
 | skip {bs H X H' X' o l tm m n g b tm1 m1 n1}:o.g=some (g,b)→((∃ c,tm g=.bool c∧c≠b)∨∃ vs,tm g=.tuple vs)→TLt tm n→MLt m n→Nx o.q n H X H' X'→TrL P no bs H' X' l (put tm o.d nov) m n tm1 m1 n1 →
    TrL P no bs H X (o::l) tm m n tm1 m1 n1
 | step {bs H X H' X' o l tm m n v mi mi' m2 n2 tm1 m1 n1}:(∀ g b,o.g=some (g,b)→tm g=.bool b)→OpS P no (if o.q then n else bs) o.o tm mi n v mi' n2→n≤n2 →
    Qt o.q n H m mi mi' m2→TLt tm n→MLt m n→Nx o.q n H X H' X'→(o.o.lgt=true→n2=n∧∀ bs' m' n',stepO bs' o.o tm m' n'=some (v,m',n')) →
    TrL P no bs H' X' l (put tm o.d v) m2 n2 tm1 m1 n1→TrL P no bs H X (o::l) tm m n tm1 m1 n1
 | heavy {bs H X H' X' T o l tm m n v mh mh' m2 n2 tm1 m1 n1}:o.q=true→o.o.lgt=false→(∀ g b,o.g=some (g,b)→tm g=.bool b)→OpS P no bs o.o tm mh n v mh' n2→n≤n2→Hv o.o tm n H X T m mh mh' m2→TLt tm n→MLt m n →
    Nx o.q n H X H' X'→(∀ b,b∈T→(b,o.o.isCall)∈X')→TrL P no bs H' X' l (put tm o.d v) m2 n2 tm1 m1 n1→TrL P no bs H X (o::l) tm m n tm1 m1 n1
theorem TrL.bar {bs:Nat} {H H':Nat→Prop} {X X':Xs} {o:IOp} {l:List IOp} {tm tm1:Tm} {m m1:Mem} {n n1:Nat} (hq:o.q=false) (h:TrL P no bs H X (o::l) tm m n tm1 m1 n1):TrL P no bs H' X' (o::l) tm m n tm1 m1 n1:=by
 cases h with
 | skip h1 h2 h3 h4 h5 h6=>exact .skip h1 h2 h3 h4 (fun e=>by rw[hq] at e;cases e) h6
 | step h1 h2 h3 h4 h5 h6 h7 h9 h8=>exact .step h1 h2 h3 ⟨h4.1,fun e=>absurd e (by rw[hq];decide),h4.2.2⟩ h5 h6 (fun e=>by rw[hq] at e;cases e) h9 h8
 | heavy h1=>rw[hq] at h1;cases h1
theorem cI_inv {nt:Nat} {ops:Array Oper} {q:Bool} {o:Oper} {io:IOp} (h:cI P no nt ops q o=some io) :
 cG ops o.guard=some io.g∧cO P no o.op=some io.o∧io.d=o.dst∧io.q=q∧(∀ d,o.dst=some d→d<nt)∧(io.o.isCall=true→opIsCall o.op=true):=by
 unfold cI at h
 simp only[Option.bind_eq_bind,Option.bind_eq_some_iff] at h
 obtain⟨g,hg,op,hop,h⟩:=h
 split at h
 ·cases h
 ·rename_i hcall
  have hcc:op.isCall=true→opIsCall o.op=true:=by
   intro e
   simp only[e,Bool.true_and,Bool.not_eq_true',Bool.not_eq_false] at hcall
   exact hcall
  split at h
  ·rename_i d hd
   split at h
   ·rename_i hlt
    cases h
    exact⟨hg,hop,rfl,rfl,(fun d' e=>by rw[hd] at e;cases e;exact hlt),hcc⟩
   ·cases h
  ·rename_i hd
   cases h
   exact⟨hg,hop,rfl,rfl,(fun d' e=>by rw[hd] at e;cases e),hcc⟩
theorem wanted_iff {nt:Nat} {ops:Array Oper} {o:Oper} {io:IOp} {β:Inj} {tm:Tm} {a:Act} (hg:cG ops o.guard=some io.g)
 (hs:∀ g b,io.g=some (g,b)→VRel no β (tm g) (a.tmps.getD g undef)) :
 (io.g=none→Region.wanted o (yielded ops a.tmps)=true) ∧
 (∀ g b,io.g=some (g,b)→tm g=.bool b→Region.wanted o (yielded ops a.tmps)=true) ∧
 (∀ g b,io.g=some (g,b)→((∃ c,tm g=.bool c∧c≠b)∨∃ vs,tm g=.tuple vs)→Region.wanted o (yielded ops a.tmps)=false):=by
 unfold cG at hg
 split at hg
 ·rename_i hgn
  have:io.g=none:=by simpa using hg.symm
  refine⟨fun _=>by simp [Region.wanted,hgn],(fun g b e=>by rw[this] at e;cases e),(fun g b e=>by rw[this] at e;cases e)⟩
 ·rename_i j b hgs
  split at hg
  ·rename_i t ht
   have hio:io.g=some (t,b):=by simpa using hg.symm
   refine⟨fun e=>(by rw[hio] at e;cases e),fun g b' e hv=>?_,fun g b' e hv=>?_⟩
   ·rw[hio] at e
    cases e
    have:=hs t b hio
    rw[hv] at this
    have hr:a.tmps.getD t undef=.bool b:=by generalize a.tmps.getD t undef=r at this;cases this;rfl
    have hget:a.tmps[t]?=some (.bool b):=by
     cases h:a.tmps[t]? with
     | none=>simp [Array.getD_eq_getD_getElem?,h,undef] at hr
     | some x=>simp [Array.getD_eq_getD_getElem?,h] at hr;rw[hr]
    simp [Region.wanted,hgs,yielded,ht,hget]
   ·rw[hio] at e
    cases e
    have:=hs t b hio
    rcases hv with⟨c,hc,hne⟩|⟨vs,hvs⟩
    ·rw[hc] at this
     have hr:a.tmps.getD t undef=.bool c:=by generalize a.tmps.getD t undef=r at this;cases this;rfl
     have hget:a.tmps[t]?=some (.bool c):=by
      cases h:a.tmps[t]? with
      | none=>simp [Array.getD_eq_getD_getElem?,h,undef] at hr
      | some x=>simp [Array.getD_eq_getD_getElem?,h] at hr;rw[hr]
     simp [Region.wanted,hgs,yielded,ht,hget,hne]
    ·rw[hvs] at this
     have hr:∃ rs,a.tmps.getD t undef=.tuple rs:=by generalize a.tmps.getD t undef=r at this;cases this;exact⟨_,rfl⟩
     obtain⟨rs,hr⟩:=hr
     have:∀ x,a.tmps[t]?=some x→x=.tuple rs:=by
      intro x h
      simp [Array.getD_eq_getD_getElem?,h] at hr;exact hr
     cases h:a.tmps[t]? with
     | none=>simp [Region.wanted,hgs,yielded,ht,h]
     | some x=>rw[this x h] at h;simp [Region.wanted,hgs,yielded,ht,h]
  ·cases hg
def CompL (P:Program) (no:No) (nt:Nat) (ops:Array Oper):List Oper→List IOp→Prop
 | [],[]=>True
 | o::lo,io::l=>cI P no nt ops false o=some io∧CompL P no nt ops lo l
 | _,_=>False
theorem tr_mono {bs n n1:Nat} {H:Nat→Prop} {X:Xs} {l:List IOp} {tm tm1:Tm} {m m1:Mem} (h:TrL P no bs H X l tm m n tm1 m1 n1):n≤n1:=by
 induction h with
 | nil _ _=>exact Nat.le_refl _
 | skip _ _ _ _ _ _ ih=>exact ih
 | step _ _ h _ _ _ _ _ _ ih=>omega
 | heavy _ _ _ _ h _ _ _ _ _ _ ih=>omega
theorem tr_text {bs n n1:Nat} {H:Nat→Prop} {X:Xs} {l:List IOp} {tm tm1:Tm} {m m1:Mem} (h:TrL P no bs H X l tm m n tm1 m1 n1):∀ (nt:Nat) (ops:Array Oper) (lo:List Oper),CompL P no nt ops lo l→∀ (β:Inj) (w:World) (a:Act) (Q:Exit→Act→World→Prop),
 BLt β n→FRel no nt β tm a→MRel no β m w→(∀ β1 a' w',Ext β β1 m bs n n1 w→FRel no nt β1 tm1 a'→MRel no β1 m1 w'→Frm β m bs n w w'→Q .normal a' w')→wpList P ops Q lo a w:=by
 induction h with
 | nil _ _ =>
   intro nt ops lo hc β w a Q hβ hF hM hQ
   cases lo with
   | nil=>exact hQ β a w (Ext.refl ..) hF hM (Frm.refl ..)
   | cons=>exact hc.elim
 | @skip H X H' X' o l tm m n g b tm1 m1 n1 hg hsk _ _ _ hrest ih =>
   intro nt ops lo hc β w a Q hβ hF hM hQ
   cases lo with
   | nil=>exact hc.elim
   | cons oo lo =>
     obtain⟨hci,hc⟩:=hc
     obtain⟨h1,h2,h3,h4,h5,h6⟩:=cI_inv hci
     have hw:=(wanted_iff (nt:=nt) (β:=β) (tm:=tm) (a:=a) h1 fun g b _=>hF.slots g).2.2 g b hg hsk
     have hF1:FRel no nt β (put tm o.d nov) (a.put oo.dst undef):=by
      rw[h3];exact hF.put h5 (VRel.tuple rfl fun i x y hx=>by simp at hx)
     have i1:=ih nt ops lo hc β w (a.put oo.dst undef) Q hβ hF1 hM hQ
     unfold wpList
     rw[if_neg (by rw[hw];decide)]
     exact i1
 | @step H X H' X' o l tm m n v mi mi' m2 n2 tm1 m1 n1 hg hop hn hq _ _ _ _ hrest ih =>
   intro nt ops lo hc β w a Q hβ hF hM hQ
   cases lo with
   | nil=>exact hc.elim
   | cons oo lo =>
     obtain⟨hci,hc⟩:=hc
     obtain⟨h1,h2,h3,h4,h5,h6⟩:=cI_inv hci
     obtain⟨rfl,rfl⟩:=hq.1 h4
     rw[h4] at hop
     have hww:=wanted_iff (nt:=nt) (β:=β) (tm:=tm) (a:=a) h1 fun g b _=>hF.slots g
     have hw:Region.wanted oo (yielded ops a.tmps)=true:=by
      cases e:o.g with
      | none=>exact hww.1 e
      | some p=>obtain⟨g,b⟩:=p;exact hww.2.1 g b e (hg g b e)
     have hle:=tr_mono hrest
     unfold wpList
     rw[if_pos hw]
     refine .inl (hop nt oo β w a _ Q h2 h6 hβ ⟨hF.size,hF.defers,fun t _=>hF.slots t⟩ hM ?_)
     intro rv β1 w1 he' hv hM1 hf'
     have he':Ext β β1 mi bs n n2 w:=he'
     have hf':Frm β mi bs n w w1:=hf'
     have hF1:FRel no nt β1 (put tm o.d v) (a.put oo.dst rv):=by
      rw[h3];exact(hF.mono he'.old).put h5 hv
     refine ih nt ops lo hc β1 w1 (a.put oo.dst rv) Q (hβ.ext he' hn) hF1 hM1 ?_
     intro β2 a' w' e2 hF2 hM2 hf2
     exact hQ β2 a' w' (he'.trans e2 hq.2.2 hn hle hf'.size fun b hb _=>hβ b hb) hF2 hM2 (hf'.trans he' hf2 hq.2.2 fun b hb _=>hβ b hb)
 | heavy hq _ _ _ _ _ _ _ _ _ _ ih =>
   intro nt ops lo hc β w a Q hβ hF hM hQ
   cases lo with
   | nil=>exact hc.elim
   | cons oo lo =>
     obtain⟨hci,hc⟩:=hc
     obtain⟨h1,h2,h3,h4,h5,h6⟩:=cI_inv hci
     rw[hq] at h4;cases h4
end Go.Proofs.YtoppcdecolponaaGreat.AL
namespace Go.Proofs.YtoppcdecolponaaGreat.AL
open Go
set_option linter.unusedVariables false
set_option linter.unusedSimpArgs false
variable {no : No} {P : Program}
def cut (β:Inj) (n:Nat):Inj:=fun b=>if b<n then β b else none
theorem VRel.cut {β:Inj} {n:Nat} {v r:Value} (h:VRel no β v r):VLt n v→VRel no (cut β n) v r:=by
 induction h with
 | junk=>intro _;exact .junk
 | bool b=>intro _;exact .bool b
 | int k n=>intro _;exact .int k n
 | string s=>intro _;exact .string s
 | pnil=>intro _;exact .pnil
 | snil l c=>intro _;exact .snil l c
 | empty=>intro _;exact .empty
 | nilFunc=>intro _;exact .nilFunc
 | @ptr b o L e =>
   intro hl
   have:b<n:=ptr_lt hl
   exact .ptr (by simp [AL.cut,this,e])
 | @slice b o L l c c' e hc hr =>
   intro hl
   have:b<n:=slice_lt hl rfl
   exact .slice (by simp [AL.cut,this,e]) hc hr
 | @func g f xs ys hg hs _ ih =>
   intro hl
   cases hl with
   | word h=>cases h
   | func h1 h2=>exact .func hg hs fun i x y hx hy=>ih i x y hx hy (h2 x (Array.mem_toList_iff.2 (Array.mem_of_getElem? hx)))
 | @agg xs ys hs _ ih =>
   intro hl
   cases hl with
   | word h=>cases h
   | agg h1=>exact .agg hs fun i x y hx hy=>ih i x y hx hy (h1 x (Array.mem_toList_iff.2 (Array.mem_of_getElem? hx)))
 | @tuple xs ys hs _ ih =>
   intro hl
   cases hl with
   | word h=>cases h
   | tuple h1=>exact .tuple hs fun i x y hx hy=>ih i x y hx hy (h1 x (Array.mem_toList_iff.2 (Array.mem_of_getElem? hx)))
theorem MRel.cut {β:Inj} {m:Mem} {n:Nat} {w:World} (h:MRel no β m w) (hM:MLt m n):MRel no (AL.cut β n) m w:=by
 have sub:∀ b L,AL.cut β n b=some L→β b=some L:=by
  intro b L e
  simp only[AL.cut] at e
  split at e
  ·exact e
  ·cases e
 refine⟨fun b L e=>h.bound b L (sub b L e),fun b blk L hb e i v hv=>?_,fun b blk L hb e=>h.own b blk L hb (sub b L e),fun b blk L hb e=>h.ro b blk L hb (sub b L e),
  fun b b' blk blk' L L' hb ho e hb' e'=>h.apart b b' blk blk' L L' hb ho (sub b L e) hb' (sub b' L' e'),h.kept,fun b blk L hb e=>h.ownS b blk L hb (sub b L e)⟩
 obtain⟨r,hr,hvr⟩:=h.cells b blk L hb (sub b L e) i v hv
 exact⟨r,hr,hvr.cut ((hM b blk hb).2 v (List.mem_of_getElem? hv))⟩
theorem MRel.ofDom {β:Inj} {m m1:Mem} {w:World} (h:MRel no β m w) (hs:∀ b L blk,β b=some L→m1 b=some blk→m b=some blk):MRel no β m1 w:=
 ⟨h.bound,fun b blk L hb e=>h.cells b blk L (hs b L blk e hb) e,fun b blk L hb e=>h.own b blk L (hs b L blk e hb) e,fun b blk L hb e=>h.ro b blk L (hs b L blk e hb) e,
   fun b b' blk blk' L L' hb ho e hb' e'=>h.apart b b' blk blk' L L' (hs b L blk e hb) ho e (hs b' L' blk' e' hb') e',h.kept,fun b blk L hb e=>h.ownS b blk L (hs b L blk e hb) e⟩
structure Stps (P:Program) (no:No) (bs:Nat) (l:List IOp) (TM:Nat→Tm) (MM:Nat→Mem) (NN:Nat→Nat) (VV:Nat→Value) (HH:Nat→Nat→Prop) (XX:Nat→Xs) (tgt:Nat→List Nat):Prop where
 tm:∀ i io,l[i]?=some io→TM (i+1)=put (TM i) io.d (VV i)
 tlt:∀ i,i≤l.length→TLt (TM i) (NN i)
 mlt:∀ i,i≤l.length→MLt (MM i) (NN i)
 mono:∀ i,i<l.length→NN i≤NN (i+1)
 nx:∀ i io,l[i]?=some io→Nx io.q (NN i) (HH i) (XX i) (HH (i+1)) (XX (i+1))
 lgt:∀ i io,l[i]?=some io→io.g=none→io.o.lgt=true→tgt i=[]∧NN (i+1)=NN i∧∀ bs' m' n',stepO bs' io.o (TM i) m' n'=some (VV i,m',n')
 act:∀ i io,l[i]?=some io →
  ((∃ g b,io.g=some (g,b)∧((∃ c,TM i g=.bool c∧c≠b)∨∃ vs,TM i g=.tuple vs))∧tgt i=[]∧VV i=nov∧MM (i+1)=MM i∧NN (i+1)=NN i) ∨
  ((∀ g b,io.g=some (g,b)→TM i g=.bool b)∧tgt i=[]∧∃ mi mi',OpS P no (if io.q then NN i else bs) io.o (TM i) mi (NN i) (VV i) mi' (NN (i+1))∧Qt io.q (NN i) (HH i) (MM i) mi mi' (MM (i+1))) ∨
  ((∀ g b,io.g=some (g,b)→TM i g=.bool b)∧io.q=true∧(∀ b,b∈tgt i→(b,io.o.isCall)∈XX (i+1))∧∃ mh mh',OpS P no bs io.o (TM i) mh (NN i) (VV i) mh' (NN (i+1))∧Hv io.o (TM i) (NN i) (HH i) (XX i) (tgt i) (MM i) mh mh' (MM (i+1)))
def cs {α:Type} (x:α) (f:Nat→α):Nat→α
 | 0=>x
 | i+1=>f i
theorem Stps.cons {bs n:Nat} {H:Nat→Prop} {X:Xs} {o:IOp} {l:List IOp} {tm:Tm} {m:Mem} {v:Value} {t:List Nat} {TM:Nat→Tm} {MM:Nat→Mem} {NN:Nat→Nat} {VV:Nat→Value} {HH:Nat→Nat→Prop} {XX:Nat→Xs} {tgt:Nat→List Nat}
 (hS:Stps P no bs l TM MM NN VV HH XX tgt) (htm:TM 0=put tm o.d v) (hT:TLt tm n) (hM:MLt m n) (hn:n≤NN 0) (hx:Nx o.q n H X (HH 0) (XX 0)) (hlg:o.g=none→o.o.lgt=true→t=[]∧NN 0=n∧∀ bs' m' n',stepO bs' o.o tm m' n'=some (v,m',n'))
 (hact:((∃ g b,o.g=some (g,b)∧((∃ c,tm g=.bool c∧c≠b)∨∃ vs,tm g=.tuple vs))∧t=[]∧v=nov∧MM 0=m∧NN 0=n) ∨
   ((∀ g b,o.g=some (g,b)→tm g=.bool b)∧t=[]∧∃ mi mi',OpS P no (if o.q then n else bs) o.o tm mi n v mi' (NN 0)∧Qt o.q n H m mi mi' (MM 0)) ∨
   ((∀ g b,o.g=some (g,b)→tm g=.bool b)∧o.q=true∧(∀ b,b∈t→(b,o.o.isCall)∈XX 0)∧∃ mh mh',OpS P no bs o.o tm mh n v mh' (NN 0)∧Hv o.o tm n H X t m mh mh' (MM 0))) :
 Stps P no bs (o::l) (cs tm TM) (cs m MM) (cs n NN) (cs v VV) (cs H HH) (cs X XX) (cs t tgt):=by
 refine⟨?_,?_,?_,?_,?_,?_,?_⟩
 ·intro i io hi
  cases i with
  | zero=>simp at hi;subst hi;exact htm
  | succ i=>exact hS.tm i io (by simpa using hi)
 ·intro i hi
  cases i with
  | zero=>exact hT
  | succ i=>exact hS.tlt i (by simpa using hi)
 ·intro i hi
  cases i with
  | zero=>exact hM
  | succ i=>exact hS.mlt i (by simpa using hi)
 ·intro i hi
  cases i with
  | zero=>exact hn
  | succ i=>exact hS.mono i (by simpa using hi)
 ·intro i io hi
  cases i with
  | zero=>simp at hi;subst hi;exact hx
  | succ i=>exact hS.nx i io (by simpa using hi)
 ·intro i io hi
  cases i with
  | zero=>simp at hi;subst hi;exact hlg
  | succ i=>exact hS.lgt i io (by simpa using hi)
 ·intro i io hi
  cases i with
  | zero=>simp at hi;subst hi;exact hact
  | succ i=>exact hS.act i io (by simpa using hi)
theorem tr_steps {bs n n1:Nat} {H:Nat→Prop} {X:Xs} {l:List IOp} {tm tm1:Tm} {m m1:Mem} (h:TrL P no bs H X l tm m n tm1 m1 n1) :
 ∃ TM MM NN VV HH XX tgt,TM 0=tm∧MM 0=m∧NN 0=n∧HH 0=H∧XX 0=X∧TM l.length=tm1∧MM l.length=m1∧NN l.length=n1∧Stps P no bs l TM MM NN VV HH XX tgt:=by
 induction h with
 | @nil H X tm m n hT hM =>
   exact⟨fun _=>tm,fun _=>m,fun _=>n,fun _=>nov,fun _=>H,fun _=>X,fun _=>[],rfl,rfl,rfl,rfl,rfl,rfl,rfl,rfl,
    ⟨fun i io h=>by simp at h,fun i _=>hT,fun i _=>hM,fun i h=>by simp at h,fun i io h=>by simp at h,fun i io h=>by simp at h,fun i io h=>by simp at h⟩⟩
 | @skip H X H' X' o l tm m n g b tm1 m1 n1 hg hsk hT hM hx _ ih =>
   obtain⟨TM,MM,NN,VV,HH,XX,tgt,h1,h2,h3,h4,h5,h6,h7,h8,hS⟩:=ih
   exact⟨cs tm TM,cs m MM,cs n NN,cs nov VV,cs H HH,cs X XX,cs [] tgt,rfl,rfl,rfl,rfl,rfl,h6,h7,h8,
    hS.cons h1 hT hM (by omega) (by rw[h4,h5];exact hx) (fun e=>by rw[hg] at e;cases e) (.inl ⟨⟨g,b,hg,hsk⟩,rfl,rfl,h2,h3⟩)⟩
 | @step H X H' X' o l tm m n v mi mi' m2 n2 tm1 m1 n1 hg hop hn hq hT hM hx hlg _ ih =>
   obtain⟨TM,MM,NN,VV,HH,XX,tgt,h1,h2,h3,h4,h5,h6,h7,h8,hS⟩:=ih
   exact⟨cs tm TM,cs m MM,cs n NN,cs v VV,cs H HH,cs X XX,cs [] tgt,rfl,rfl,rfl,rfl,rfl,h6,h7,h8,
    hS.cons h1 hT hM (by omega) (by rw[h4,h5];exact hx) (fun _ e=>⟨rfl,by rw[h3];exact(hlg e).1,(hlg e).2⟩) (.inr (.inl ⟨hg,rfl,mi,mi',by rw[h3];exact hop,by rw[h2];exact hq⟩))⟩
 | @heavy H X H' X' T o l tm m n v mh mh' m2 n2 tm1 m1 n1 hq hnl hg hop hn hv hT hM hx hTX _ ih =>
   obtain⟨TM,MM,NN,VV,HH,XX,tgt,h1,h2,h3,h4,h5,h6,h7,h8,hS⟩:=ih
   exact⟨cs tm TM,cs m MM,cs n NN,cs v VV,cs H HH,cs X XX,cs T tgt,rfl,rfl,rfl,rfl,rfl,h6,h7,h8,
    hS.cons h1 hT hM (by omega) (by rw[h4,h5];exact hx) (fun _ e=>by rw[hnl] at e;cases e) (.inr (.inr ⟨hg,hq,by rw[h5];exact hTX,mh,mh',by rw[h3];exact hop,by rw[h2];exact hv⟩))⟩
def bstep (acc:Array Nat) (o:Oper):Array Nat:=
 acc.push (o.after.foldl (fun s e=>if Region.binds .any e then s ||| 2 ^ e.on ||| acc.getD e.on 0 else s) 0)
theorem before_eq (ops:Array Oper):Region.before ops=ops.toList.foldl bstep #[]:=by
 unfold Region.before
 rw[←Array.foldl_toList]
 rfl
theorem fold_bits (acc:Array Nat) (k:Nat):∀ (es:List Edge) (s:Nat),(es.foldl (fun s e=>if Region.binds .any e then s ||| 2 ^ e.on ||| acc.getD e.on 0 else s) s).testBit k=true →
 s.testBit k=true∨∃ e∈es,Region.binds .any e=true∧(e.on=k∨(acc.getD e.on 0).testBit k=true)
 | [],s,h=>.inl h
 | e::es,s,h=>by
   simp only[List.foldl_cons] at h
   rcases fold_bits acc k es _ h with h1|⟨e',he',hb,hk⟩
   ·split at h1
    ·rename_i hb
     simp only[Nat.testBit_or,Bool.or_eq_true,Nat.testBit_two_pow,decide_eq_true_eq] at h1
     rcases h1 with(h1|h1)|h1
     ·exact .inl h1
     ·exact .inr ⟨e,List.mem_cons_self ..,hb,.inl h1⟩
     ·exact .inr ⟨e,List.mem_cons_self ..,hb,.inr h1⟩
    ·exact .inl h1
   ·exact .inr ⟨e',List.mem_cons_of_mem _ he',hb,hk⟩
theorem fold_before:∀ (lo:List Oper) (acc:Array Nat),(lo.foldl bstep acc).size=acc.size+lo.length ∧
 (∀ i,i<acc.size→(lo.foldl bstep acc).getD i 0=acc.getD i 0) ∧
 ∀ j o,lo[j]?=some o→∃ acc':Array Nat,acc'.size=acc.size+j∧(∀ i,i<acc'.size→(lo.foldl bstep acc).getD i 0=acc'.getD i 0) ∧
   (lo.foldl bstep acc).getD (acc.size+j) 0=o.after.foldl (fun s e=>if Region.binds .any e then s ||| 2 ^ e.on ||| acc'.getD e.on 0 else s) 0
 | [],acc=>⟨rfl,fun _ _=>rfl,fun j o h=>by simp at h⟩
 | o::lo,acc=>by
   obtain⟨h1,h2,h3⟩:=fold_before lo (bstep acc o)
   have hs:(bstep acc o).size=acc.size+1:=by simp [bstep]
   have hk:∀ i,i<acc.size→(bstep acc o).getD i 0=acc.getD i 0:=by
    intro i hi
    simp only[bstep,Array.getD_eq_getD_getElem?,Array.getElem?_push]
    rw[if_neg (by omega)]
   refine⟨by simp only[List.foldl_cons,h1,hs,List.length_cons];omega,fun i hi=>by simp only[List.foldl_cons];rw[h2 i (by omega),hk i hi],fun j o' hj=>?_⟩
   cases j with
   | zero =>
     simp at hj;subst hj
     refine⟨acc,rfl,fun i hi=>by simp only[List.foldl_cons];rw[h2 i (by omega),hk i hi],?_⟩
     simp only[List.foldl_cons,Nat.add_zero]
     rw[h2 _ (by omega)]
     simp [bstep,Array.getD_eq_getD_getElem?]
   | succ j =>
     obtain⟨acc',e1,e2,e3⟩:=h3 j o' (by simpa using hj)
     refine⟨acc',by omega,e2,?_⟩
     simp only[List.foldl_cons]
     rw[←e3];congr 1;omega
theorem before_bit {ops:Array Oper} {j k:Nat} {o:Oper} (ho:ops[j]?=some o) (h:((Region.before ops).getD j 0).testBit k=true) :
 ∃ e∈o.after.toList,Region.binds .any e=true∧(e.on=k∨(e.on<j∧((Region.before ops).getD e.on 0).testBit k=true)):=by
 rw[before_eq] at h ⊢
 obtain⟨_,_,h3⟩:=fold_before ops.toList #[]
 obtain⟨acc',e1,e2,e3⟩:=h3 j o (by simpa using ho)
 simp only[Array.size_empty,Nat.zero_add,List.size_toArray,List.length_nil] at e1 e3
 rw[e3,←Array.foldl_toList] at h
 rcases fold_bits acc' k _ _ h with h1|⟨e,he,hb,hk⟩
 ·simp at h1
 ·refine⟨e,he,hb,?_⟩
  rcases hk with hk|hk
  ·exact .inl hk
  ·by_cases hlt:e.on<j
   ·exact .inr ⟨hlt,by rw[e2 e.on (by omega)];exact hk⟩
   ·have:acc'.getD e.on 0=0:=by
     simp only[Array.getD_eq_getD_getElem?]
     rw[Array.getElem?_eq_none (by omega)];rfl
    rw[this] at hk;simp at hk
def lv (tm:Tm) (d:Nat→Option Nat) (V:Nat→Value) (L:Nat→Bool):Nat→Tm
 | 0=>tm
 | k+1=>if L k=true then put (lv tm d V L k) (d k) (V k) else lv tm d V L k
theorem put_at {tm:Tm} {d:Option Nat} {v:Value} {t:Nat}:put tm d v t=if d=some t then v else tm t:=by
 cases d with
 | none=>rfl
 | some d =>
   simp only[put,upd,Option.some.injEq]
   by_cases h:t=d
   ·rw[if_pos h,if_pos h.symm]
   ·rw[if_neg h,if_neg (Ne.symm h)]
theorem lv_eq {tm:Tm} {d:Nat→Option Nat} {V:Nat→Value} {TM:Nat→Tm} {len:Nat} (h0:TM 0=tm) (hs:∀ i,i<len→TM (i+1)=put (TM i) (d i) (V i)) {L:Nat→Bool} {i t:Nat} (hi:i≤len)
 (h1:∀ k,k<i→d k=some t→L k=true) (h2:∀ k,i≤k→k<len→d k=some t→L k=false):∀ j,i≤j→j≤len→lv tm d V L j t=TM i t:=by
 have a:∀ k,k≤i→lv tm d V L k t=TM k t:=by
  intro k
  induction k with
  | zero=>intro _;rw[h0];rfl
  | succ k ih =>
    intro hk
    have ih':=ih (by omega)
    simp only[lv]
    rw[hs k (by omega),put_at]
    by_cases e:d k=some t
    ·rw[if_pos (h1 k (by omega) e),put_at,if_pos e,if_pos e]
    ·rw[if_neg e]
     split
     ·rw[put_at,if_neg e];exact ih'
     ·exact ih'
 intro j
 induction j with
 | zero=>intro hij _;have:i=0:=by omega
         subst this;rw[h0];rfl
 | succ j ih =>
   intro hij hj
   by_cases e:i=j+1
   ·subst e;exact a _ (Nat.le_refl _)
   ·have ih':=ih (by omega) (by omega)
    simp only[lv]
    split
    ·rename_i hL
     rw[put_at]
     by_cases e2:d j=some t
     ·rw[h2 j (by omega) (by omega) e2] at hL;cases hL
     ·rw[if_neg e2];exact ih'
    ·exact ih'
theorem lv_add {tm:Tm} {d:Nat→Option Nat} {V:Nat→Value} {len:Nat} {L L':Nat→Bool} {i t:Nat} (hi:i<len) (hL:L i=false) (hL':L' i=true) (hne:∀ k,k≠i→L' k=L k)
 (hx:d i=some t→∀ k,i<k→k<len→d k=some t→L k=false):∀ j,i<j→j≤len→lv tm d V L' j t=if d i=some t then V i else lv tm d V L j t:=by
 have a:∀ k,k≤i→lv tm d V L' k t=lv tm d V L k t:=by
  intro k
  induction k with
  | zero=>intro _;rfl
  | succ k ih =>
    intro hk
    simp only[lv]
    rw[hne k (by omega)]
    split
    ·rw[put_at,put_at,ih (by omega)]
    ·exact ih (by omega)
 intro j
 induction j with
 | zero=>intro h;omega
 | succ j ih =>
   intro hij hj
   by_cases e:i=j
   ·subst e
    have e1:lv tm d V L' (i+1)=put (lv tm d V L' i) (d i) (V i):=by simp only[lv];rw[if_pos hL']
    have e2:lv tm d V L (i+1)=lv tm d V L i:=by simp only[lv];rw[if_neg (by rw[hL];decide)]
    rw[e1,e2,put_at,a i (Nat.le_refl _)]
   ·have ih':=ih (by omega) (by omega)
    simp only[lv]
    rw[hne j (by omega)]
    by_cases e1:L j=true
    ·rw[if_pos e1,if_pos e1,put_at,put_at,ih']
     by_cases e2:d j=some t
     ·rw[if_pos e2]
      by_cases e3:d i=some t
      ·rw[hx e3 j (by omega) (by omega) e2] at e1;cases e1
      ·rw[if_neg e3,if_pos e2]
     ·rw[if_neg e2,if_neg e2]
    ·rw[if_neg e1,if_neg e1,ih']
def cnt (L:Nat→Bool):Nat→Nat
 | 0=>0
 | k+1=>cnt L k+if L k=true then 0 else 1
theorem cnt_le (L:Nat→Bool):∀ k,cnt L k≤k
 | 0=>Nat.le_refl _
 | k+1=>by
   have:=cnt_le L k
   simp only[cnt];split <;> omega
theorem cnt_zero {L:Nat→Bool}:∀ {k:Nat},cnt L k=0→∀ i,i<k→L i=true
 | 0,_,i,h=>by omega
 | k+1,h,i,hi=>by
   simp only[cnt] at h
   split at h
   ·rename_i hk
    by_cases e:i=k
    ·subst e;exact hk
    ·exact cnt_zero (by omega) i (by omega)
   ·omega
theorem cnt_add {L L':Nat→Bool} {i:Nat} (hL:L i=false) (hL':L' i=true) (hne:∀ k,k≠i→L' k=L k):∀ j,cnt L' j+(if i<j then 1 else 0)=cnt L j:=by
 intro j
 induction j with
 | zero=>rfl
 | succ j ih =>
   simp only[cnt]
   by_cases e:i=j
   ·subst e
    rw[if_neg (by omega)] at ih
    rw[hL,hL',if_pos rfl,if_pos (by omega),if_neg (by decide)];omega
   ·rw[hne j (by omega)]
    by_cases h:i<j
    ·have h':i<j+1:=by omega
     rw[if_pos h] at ih;rw[if_pos h'];omega
    ·have h':¬ i<j+1:=by omega
     rw[if_neg h] at ih;rw[if_neg h'];omega
theorem slotsOk_at {l:List IOp} {b:Array Nat} (h:slotsOk l b=true) {i j:Nat} {x y:IOp} (hx:l[i]?=some x) (hy:l[j]?=some y) (hij:i<j) :
 (b.getD j 0).testBit i=true∨((∀ d,x.d=some d→d∉y.names)∧∀ d,y.d=some d→d∉x.names):=by
 unfold slotsOk at h
 have h1:=List.all_eq_true.1 h (y,j) (List.mk_mem_zipIdx_iff_getElem?.2 hy)
 have h2:=List.all_eq_true.1 h1 (x,i) (List.mk_mem_zipIdx_iff_getElem?.2 hx)
 simp only[Bool.or_eq_true,Bool.and_eq_true,Bool.not_eq_true',decide_eq_false_iff_not] at h2
 rcases h2 with(h2|h2)|h2
 ·exact absurd hij h2
 ·exact .inl h2
 ·refine .inr ⟨fun d hd=>?_,fun d hd=>?_⟩
  ·have:=h2.1;rw[hd] at this;simpa using this
  ·have:=h2.2;rw[hd] at this;simpa using this
theorem barrier_at {ops:Array Oper} {b:Array Nat} {j i:Nat} (h:barrier ops b j=true) (hi:i<ops.size) (hne:i≠j) (hl:∀ o p,ops[i]?=some o→ops[j]?=some p→lightOp o=true→lightOp p=true) (hj:j<ops.size) :
 (i<j→(b.getD j 0).testBit i=true)∧(j<i→(b.getD i 0).testBit j=true):=by
 unfold barrier at h
 have h1:=List.all_eq_true.1 h (ops[i],i) (List.mk_mem_zipIdx_iff_getElem?.2 (by simp [hi]))
 simp only[Bool.or_eq_true,beq_iff_eq,hne,false_or,Bool.and_eq_true] at h1
 rcases h1 with h1|⟨h1,h2⟩
 ·refine⟨fun h2=>by rw[if_pos h2] at h1;exact h1,fun h2=>by rw[if_neg (by omega)] at h1;exact h1⟩
 ·have h3:=hl ops[i] ops[j] (Array.getElem?_eq_getElem hi) (Array.getElem?_eq_getElem hj) h1
  rw[Array.getElem?_eq_getElem hj] at h2
  simp only[h3] at h2
  cases h2
theorem light_io {nt:Nat} {ops:Array Oper} {q:Bool} {o:Oper} {io:IOp} (h:cI P no nt ops q o=some io) (hl:lightOp o=true):io.g=none∧io.o.lgt=true:=by
 obtain⟨h1,h2,_⟩:=cI_inv h
 unfold lightOp at hl
 simp only[Bool.and_eq_true,Option.isNone_iff_eq_none] at hl
 obtain⟨hg,ho⟩:=hl
 rw[hg] at h1
 refine⟨by simp only[cG,Option.some.injEq] at h1;exact h1.symm,?_⟩
 cases hop:o.op with
 | move x=>rw[hop] at h2;simp only[cO,Option.map_eq_some_iff] at h2;obtain⟨_,_,h3⟩:=h2;rw[←h3];rfl
 | assign x=>rw[hop] at h2;simp only[cO,Option.map_eq_some_iff] at h2;obtain⟨_,_,h3⟩:=h2;rw[←h3];rfl
 | extract x i=>rw[hop] at h2;simp only[cO,Option.map_eq_some_iff] at h2;obtain⟨_,_,h3⟩:=h2;rw[←h3];rfl
 | _=>rw[hop] at ho;cases ho
theorem edgesOk_at {ops:Array Oper} (h:edgesOk ops=true) {i:Nat} {o:Oper} (ho:ops[i]?=some o):∀ e∈o.after,Region.binds .any e=true→e.on<i:=by
 intro e he hb
 unfold edgesOk at h
 have h1:=List.all_eq_true.1 h (o,i) (List.mk_mem_zipIdx_iff_getElem?.2 (by simpa using ho))
 have h2:=Array.all_eq_true_iff_forall_mem.1 h1 e he
 simpa[hb] using h2
theorem MRel.glue {β β1 β2:Inj} {m m1:Mem} {w w1:World} {lo hi:Nat} (h:MRel no β m w) (h1:MRel no β1 m1 w1) (hs:w.heap.size≤w1.heap.size) (hb:∀ B,B<w.heap.size→w1.heap[B]?=w.heap[B]?)
 (hm:∀ b blk,lo≤b→b<hi→m b=some blk→m1 b=some blk) (h2:∀ b,β2 b=if lo≤b∧b<hi then β1 b else β b) (hf:∀ b L,lo≤b→b<hi→β1 b=some L→w.heap.size≤L.B)
 (ex:Ext0 β β2) (ex1:Ext0 β1 β2):MRel no β2 m w1:=by
 have cellEq:∀ (A:Addr),A.block<w.heap.size→w1.cell? A=w.cell? A:=by
  intro A hA
  unfold World.cell?
  rw[hb _ hA]
 have cs:∀ b L,β2 b=some L→(lo≤b∧b<hi∧β1 b=some L∧w.heap.size≤L.B)∨(β b=some L∧L.B<w.heap.size):=by
  intro b L e
  rw[h2] at e
  split at e
  ·rename_i hh;exact .inl ⟨hh.1,hh.2,e,hf b L hh.1 hh.2 e⟩
  ·exact .inr ⟨e,h.bound b L e⟩
 refine⟨fun b L e=>?_,fun b blk L hbk e i v hv=>?_,fun b blk L hbk e ho=>?_,fun b blk L hbk e ho=>?_,fun b b' blk blk' L L' hbk ho e hbk' e' hne=>?_,h1.kept,fun b blk L hbk e ho=>?_⟩
 ·rcases cs b L e with⟨_,_,e1,_⟩|⟨e1,h3⟩
  ·exact h1.bound b L e1
  ·omega
 ·rcases cs b L e with⟨ha,hb',e1,_⟩|⟨e1,h3⟩
  ·obtain⟨r,hr,hv'⟩:=h1.cells b blk L (hm b blk ha hb' hbk) e1 i v hv
   exact⟨r,hr,hv'.mono ex1⟩
  ·obtain⟨r,hr,hv'⟩:=h.cells b blk L hbk e1 i v hv
   exact⟨r,by rw[cellEq _ h3];exact hr,hv'.mono ex⟩
 ·rcases cs b L e with⟨ha,hb',e1,_⟩|⟨e1,h3⟩
  ·exact h1.own b blk L (hm b blk ha hb' hbk) e1 ho
  ·rw[hb _ h3];exact h.own b blk L hbk e1 ho
 ·rcases cs b L e with⟨ha,hb',e1,_⟩|⟨e1,h3⟩
  ·exact h1.ro b blk L (hm b blk ha hb' hbk) e1 ho
  ·exact h.ro b blk L hbk e1 ho
 ·rcases cs b L e with⟨ha,hb',e1,h3⟩|⟨e1,h3⟩
  ·rcases cs b' L' e' with⟨ha',hb'',e1',h3'⟩|⟨e1',h3'⟩
   ·exact h1.apart b b' blk blk' L L' (hm b blk ha hb' hbk) ho e1 (hm b' blk' ha' hb'' hbk') e1' hne
   ·omega
  ·rcases cs b' L' e' with⟨ha',hb'',e1',h3'⟩|⟨e1',h3'⟩
   ·omega
   ·exact h.apart b b' blk blk' L L' hbk ho e1 hbk' e1' hne
 ·rcases cs b L e with⟨ha,hb',e1,_⟩|⟨e1,h3⟩
  ·exact h1.ownS b blk L (hm b blk ha hb' hbk) e1 ho
  ·exact h.ownS b blk L hbk e1 ho
theorem MRel.glue2 {β β1 β2:Inj} {M0 mh' m':Mem} {w w1:World} (h:MRel no β M0 w) (h1:MRel no β1 mh' w1) (hs:w.heap.size≤w1.heap.size) (ex:Ext0 β β2) (ex1:Ext0 β1 β2) (hbd:∀ b L,β2 b=some L→β b=some L∨β1 b=some L) (F:Nat→Prop)
 (hc:∀ b blk L,m' b=some blk→β2 b=some L→(mh' b=some blk∧β1 b=some L∧¬ F b)∨(F b∧M0 b=some blk∧β b=some L∧w1.heap[L.B]?=w.heap[L.B]?))
 (hx:∀ b blk L b0 blk0 L0,m' b=some blk→mh' b=some blk→β1 b=some L→¬ F b→F b0→M0 b0=some blk0→β b0=some L0→(blk.own=true∨blk0.own=true)→L.B≠L0.B):MRel no β2 m' w1:=by
 refine⟨fun b L e=>?_,fun b blk L hbk e i v hv=>?_,fun b blk L hbk e ho=>?_,fun b blk L hbk e ho=>?_,fun b b' blk blk' L L' hbk ho e hbk' e' hne=>?_,h1.kept,fun b blk L hbk e ho=>?_⟩
 ·rcases hbd b L e with e1|e1
  ·exact Nat.lt_of_lt_of_le (h.bound b L e1) hs
  ·exact h1.bound b L e1
 ·rcases hc b blk L hbk e with⟨h2,h3,_⟩|⟨_,h2,h3,h4⟩
  ·obtain⟨r,hr,hv'⟩:=h1.cells b blk L h2 h3 i v hv
   exact⟨r,hr,hv'.mono ex1⟩
  ·obtain⟨r,hr,hv'⟩:=h.cells b blk L h2 h3 i v hv
   refine⟨r,?_,hv'.mono ex⟩
   rw[←hr]
   unfold World.cell?
   rw[h4]
 ·rcases hc b blk L hbk e with⟨h2,h3,_⟩|⟨_,h2,h3,h4⟩
  ·exact h1.own b blk L h2 h3 ho
  ·rw[h4];exact h.own b blk L h2 h3 ho
 ·rcases hc b blk L hbk e with⟨h2,h3,_⟩|⟨_,h2,h3,h4⟩
  ·exact h1.ro b blk L h2 h3 ho
  ·exact h.ro b blk L h2 h3 ho
 ·rcases hc b blk L hbk e with⟨h2,h3,h5⟩|⟨h5,h2,h3,h4⟩ <;> rcases hc b' blk' L' hbk' e' with⟨g2,g3,g5⟩|⟨g5,g2,g3,g4⟩
  ·exact h1.apart b b' blk blk' L L' h2 ho h3 g2 g3 hne
  ·exact hx b blk L b' blk' L' hbk h2 h3 h5 g5 g2 g3 (.inl ho)
  ·exact(hx b' blk' L' b blk L hbk' g2 g3 g5 h5 h2 h3 (.inr ho)).symm
  ·exact h.apart b b' blk blk' L L' h2 ho h3 g2 g3 hne
 ·rcases hc b blk L hbk e with⟨h2,h3,_⟩|⟨_,h2,h3,h4⟩
  ·exact h1.ownS b blk L h2 h3 ho
  ·exact h.ownS b blk L h2 h3 ho
end Go.Proofs.YtoppcdecolponaaGreat.AL
