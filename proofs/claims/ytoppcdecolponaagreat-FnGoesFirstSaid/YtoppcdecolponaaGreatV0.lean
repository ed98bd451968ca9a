/- A list of steps,in whatever order the model draws: what the runs come to. -/
import Derived.Test.YtoppcdecolponaaGreatAlS10
import Derived.LoopN
import Derived.Test.YtoppcdecolponaaGreatAlS4
import Derived.WalkKit
import Derived.ProofKit
import Derived.OpenShut
import Derived.ShutString
import Derived.ChangeOld
import Derived.SizedLaws
import Derived.ReadAgain
import Derived.Below
namespace Go.Proofs.YtoppcdecolponaaGreat.AL
open Go
set_option linter.unusedVariables false
set_option linter.unusedSimpArgs false
variable {no : No} {P : Program}
def SameSeg (bar:Nat→Bool) (j k:Nat):Prop:=∀ x,bar x=true→¬ (j<x∧x<k)∧¬ (k≤x∧x≤j)
def Wr (len:Nat) (bar:Nat→Bool) (tgt:Nat→List Nat) (k b j:Nat):Prop:=j<len∧b∈tgt j∧SameSeg bar j k
def At (len:Nat) (bar:Nat→Bool) (tgt:Nat→List Nat) (MM:Nat→Mem) (L:Nat→Bool) (k b:Nat) (blk:Blk):Prop:=
 (∃ j,Wr len bar tgt k b j∧L j=false∧(∀ j',Wr len bar tgt k b j'→j'<j→L j'=true)∧MM j b=some blk) ∨
 (∃ j,Wr len bar tgt k b j∧(∀ j',Wr len bar tgt k b j'→L j'=true)∧(∀ j',Wr len bar tgt k b j'→j'≤j)∧MM (j+1) b=some blk) ∨
 ((∀ j,¬ Wr len bar tgt k b j)∧MM k b=some blk)
theorem exists_max {p:Nat→Prop}:∀ (n:Nat),(∃ j,j<n∧p j)→∃ j,j<n∧p j∧∀ j',j'<n→p j'→j'≤j
 | 0,⟨_,h,_⟩=>by omega
 | n+1,⟨j,h1,h2⟩=>by
   by_cases hn:p n
   ·exact⟨n,by omega,hn,fun j' h _=>by omega⟩
   ·have:j<n:=by
     rcases Nat.lt_or_ge j n with h|h
     ·exact h
     ·have:j=n:=by omega
      subst this;exact absurd h2 hn
    obtain⟨i,h3,h4,h5⟩:=exists_max n ⟨j,this,h2⟩
    refine⟨i,by omega,h4,fun j' h6 h7=>?_⟩
    rcases Nat.lt_or_ge j' n with h|h
    ·exact h5 j' h h7
    ·have:j'=n:=by omega
     subst this;exact absurd h7 hn
theorem At.less {len:Nat} {bar:Nat→Bool} {tgt:Nat→List Nat} {MM:Nat→Mem} {L L':Nat→Bool} {k b:Nat} {blk:Blk} (h:At len bar tgt MM L' k b blk) (he:∀ j,Wr len bar tgt k b j→L j=L' j):At len bar tgt MM L k b blk:=by
 rcases h with⟨j,hw,hL,hpre,h6⟩|⟨j,hw,hdn,hmax,h6⟩|h
 ·exact .inl ⟨j,hw,by rw[he j hw];exact hL,fun j' hw' hlt=>by rw[he j' hw'];exact hpre j' hw' hlt,h6⟩
 ·exact .inr (.inl ⟨j,hw,fun j' hw'=>by rw[he j' hw'];exact hdn j' hw',hmax,h6⟩)
 ·exact .inr (.inr h)
theorem wr_last {len:Nat} {bar:Nat→Bool} {tgt:Nat→List Nat} {k b:Nat} (h:∃ j,Wr len bar tgt k b j):∃ j,Wr len bar tgt k b j∧∀ j',Wr len bar tgt k b j'→j'≤j:=by
 obtain⟨j,hj⟩:=h
 obtain⟨i,h1,h2,h3⟩:=exists_max (p:=Wr len bar tgt k b) len ⟨j,hj.1,hj⟩
 exact⟨i,h2,fun j' hj'=>h3 j' hj'.1 hj'⟩
def Plc (len:Nat) (bar:Nat→Bool) (tgt:Nat→List Nat) (MM:Nat→Mem) (L:Nat→Bool) (b:Nat) (blk:Blk):Prop:=
 ∃ k,k≤len∧(∀ j,j<k→bar j=true→L j=true)∧(∀ j,j<len→L j=true→bar j=true→j<k)∧At len bar tgt MM L k b blk
structure Mid (no:No) (nt:Nat) (bs len:Nat) (bar:Nat→Bool) (bef:Nat→Nat→Bool) (d:Nat→Option Nat) (TM:Nat→Tm) (MM:Nat→Mem) (NN:Nat→Nat) (VV:Nat→Value) (tgt:Nat→List Nat) (β0:Inj) (w0:World)
 (L:Nat→Bool) (β:Inj) (w:World) (a:Act):Prop where
 size:nt≤a.tmps.size
 defers:a.defers=[]
 closed:∀ j k,j<len→L j=true→bef j k=true→L k=true
 dom:∀ b,β b≠none→b<NN 0∨∃ k,k<len∧L k=true∧NN k≤b∧b<NN (k+1)
 ext:Ext β0 β (MM 0) bs (NN 0) (NN len) w0
 frm:Frm β0 (MM 0) bs (NN 0) w0 w
 mem:∀ m',(∀ b blk,m' b=some blk→Plc len bar tgt MM L b blk)→MRel no β m' w
 sdv:∀ j b,j<len→L j=true→b∈tgt j→β b≠none
 slots:∀ t,VRel no β (lv (TM 0) d VV L len t) (a.tmps.getD t undef)
theorem mono_le {NN:Nat→Nat} {len:Nat} (h:∀ i,i<len→NN i≤NN (i+1)) {i:Nat}:∀ j,i≤j→j≤len→NN i≤NN j:=by
 intro j
 induction j with
 | zero=>intro hij _;have:i=0:=by omega
         subst this;exact Nat.le_refl _
 | succ j ih =>
   intro hij hj
   by_cases e:i=j+1
   ·subst e;exact Nat.le_refl _
   ·exact Nat.le_trans (ih (by omega) (by omega)) (h j (by omega))
section
variable {bs : Nat} {l : List IOp} {TM : Nat → Tm} {MM : Nat → Mem} {NN : Nat → Nat} {VV : Nat → Value} {HH : Nat → Nat → Prop} {XX : Nat → Xs} {tgt : Nat → List Nat}
theorem Stps.down (hS:Stps P no bs l TM MM NN VV HH XX tgt) {bar:Nat→Bool} (hbq:∀ i io,l[i]?=some io→io.q = !bar i) {b:Nat} {blk:Blk} {i:Nat} (hb:b<NN i) :
 ∀ k,i≤k→k≤l.length→(∀ x,i≤x→x<k→bar x=false∧b∉tgt x)→MM k b=some blk→MM i b=some blk:=by
 intro k
 induction k with
 | zero=>intro h _ _ e;have:i=0:=by omega
         subst this;exact e
 | succ k ih =>
   intro hik hk hx e
   by_cases hi:i=k+1
   ·subst hi;exact e
   ·obtain⟨io,hio⟩:∃ io,l[k]?=some io:=⟨_,List.getElem?_eq_getElem (by omega)⟩
    obtain⟨hx1,hx2⟩:=hx k (by omega) (by omega)
    have hb':b<NN k:=Nat.lt_of_lt_of_le hb (@mono_le NN l.length hS.mono i k (by omega) (by omega))
    have hq:io.q=true:=by rw[hbq k io hio,hx1];rfl
    refine ih (by omega) (by omega) (fun x h1 h2=>hx x h1 (by omega)) ?_
    rcases hS.act k io hio with⟨_,_,_,h2,_⟩|⟨_,_,mi,mi',_,h2⟩|⟨_,_,_,mh,mh',_,hv⟩
    ·rw[h2] at e;exact e
    ·rcases(h2.2.1 hq).2 b blk e with⟨_,h3⟩|⟨h3,_⟩
     ·exact h3
     ·omega
    ·rcases hv.out b blk e with⟨_,_,h3⟩|⟨h3,_⟩|⟨h3,_⟩
     ·exact h3
     ·exact absurd h3 hx2
     ·omega
theorem Stps.dom0 (hS:Stps P no bs l TM MM NN VV HH XX tgt):∀ i,i≤l.length→∀ b,b<NN 0→Own (MM i) b→Own (MM 0) b:=by
 intro i
 induction i with
 | zero=>intro _ b _ e;exact e
 | succ i ih =>
   intro hi b hb e
   refine ih (by omega) b hb ?_
   obtain⟨io,hio⟩:∃ io,l[i]?=some io:=⟨_,List.getElem?_eq_getElem (by omega)⟩
   have hb':b<NN i:=Nat.lt_of_lt_of_le hb (@mono_le NN l.length hS.mono 0 i (Nat.zero_le _) (by omega))
   rcases hS.act i io hio with⟨_,_,_,h2,_⟩|⟨_,_,mi,mi',_,h2⟩|⟨_,_,_,mh,mh',_,hv⟩
   ·rw[h2] at e;exact e
   ·exact h2.2.2 b hb' e
   ·exact hv.own b hb' e
theorem Stps.hv (hS:Stps P no bs l TM MM NN VV HH XX tgt) {i b:Nat} {io:IOp} (hio:l[i]?=some io) (ht:b∈tgt i) :
 (∀ g b,io.g=some (g,b)→TM i g=.bool b)∧io.q=true∧(∀ b,b∈tgt i→(b,io.o.isCall)∈XX (i+1))∧∃ mh mh',OpS P no bs io.o (TM i) mh (NN i) (VV i) mh' (NN (i+1))∧Hv io.o (TM i) (NN i) (HH i) (XX i) (tgt i) (MM i) mh mh' (MM (i+1)):=by
 rcases hS.act i io hio with⟨_,h,_⟩|⟨_,h,_⟩|h
 ·rw[h] at ht;cases ht
 ·rw[h] at ht;cases ht
 ·exact h
theorem Stps.segs (hS:Stps P no bs l TM MM NN VV HH XX tgt) {bar:Nat→Bool} (hbq:∀ i io,l[i]?=some io→io.q = !bar i) {i:Nat} :
 ∀ k,i≤k→k≤l.length→(∀ x,i≤x→x<k→bar x=false)→(∀ b,HH i b→HH k b)∧(∀ b,HH k b→HH i b∨NN i≤b)∧∀ p,p∈XX i→p∈XX k:=by
 intro k
 induction k with
 | zero=>intro h _ _;have:i=0:=by omega
         subst this;exact⟨fun b h=>h,fun b h=>.inl h,fun b h=>h⟩
 | succ k ih =>
   intro hik hk hx
   by_cases hi:i=k+1
   ·subst hi;exact⟨fun b h=>h,fun b h=>.inl h,fun b h=>h⟩
   ·obtain⟨io,hio⟩:∃ io,l[k]?=some io:=⟨_,List.getElem?_eq_getElem (by omega)⟩
    have hq:io.q=true:=by rw[hbq k io hio,hx k (by omega) (by omega)];rfl
    obtain⟨i1,i2,i3⟩:=ih (by omega) (by omega) (fun x h1 h2=>hx x h1 (by omega))
    obtain⟨j1,j2,j3⟩:=hS.nx k io hio hq
    have hmn:=@mono_le NN l.length hS.mono i k (by omega) (by omega)
    refine⟨fun b h=>j1 b (i1 b h),fun b h=>?_,fun b h=>j3 b (i3 b h)⟩
    rcases j2 b h with h|h
    ·exact i2 b h
    ·exact .inr (by omega)
theorem Stps.twice (hS:Stps P no bs l TM MM NN VV HH XX tgt) {bar:Nat→Bool} (hbq:∀ i io,l[i]?=some io→io.q = !bar i) {i j b:Nat} {io jo:IOp} (hio:l[i]?=some io) (hjo:l[j]?=some jo) (hij:i<j) (hx:∀ x,i<x→x<j→bar x=false)
 (hi:b∈tgt i) (hjt:b∈tgt j):io.o.isCall=true∧jo.o.isCall=true:=by
 have hj:j<l.length:=(List.getElem?_eq_some_iff.1 hjo).1
 have h1:=(hS.hv hio hi).2.2.1 b hi
 have h2:=(hS.segs hbq (i:=i+1) j (by omega) (by omega) (fun x h1 h2=>hx x (by omega) h2)).2.2 _ h1
 obtain⟨_,_,_,mh,mh',_,hv⟩:=hS.hv hjo hjt
 obtain⟨h3,h4⟩:=(hv.tgt b hjt).2.1
 cases e:io.o.isCall with
 | false=>rw[e] at h2;exact absurd h2 h3
 | true =>
   refine⟨rfl,?_⟩
   cases e2:jo.o.isCall with
   | false=>rw[e] at h2;exact absurd h2 (h4 e2)
   | true=>rfl
theorem Stps.tlt' (hS:Stps P no bs l TM MM NN VV HH XX tgt) {j b:Nat} (hj:j<l.length) (ht:b∈tgt j):b<NN j:=by
 obtain⟨io,hio⟩:∃ io,l[j]?=some io:=⟨_,List.getElem?_eq_getElem hj⟩
 obtain⟨_,_,_,mh,mh',_,hv⟩:=hS.hv hio ht
 exact(hv.tgt b ht).2.2.1
theorem callsOk_at {l:List IOp} {b:Array Nat} (h:callsOk l b=true) {i j:Nat} {x y:IOp} (hx:l[i]?=some x) (hy:l[j]?=some y) (hij:i<j) (h1:x.o.isCall=true) (h2:y.o.isCall=true):(b.getD j 0).testBit i=true:=by
 unfold callsOk at h
 have h3:=List.all_eq_true.1 h (y,j) (List.mk_mem_zipIdx_iff_getElem?.2 hy)
 have h4:=List.all_eq_true.1 h3 (x,i) (List.mk_mem_zipIdx_iff_getElem?.2 hx)
 simpa[hij,h1,h2] using h4
theorem tr_draw (hS:Stps P no bs l TM MM NN VV HH XX tgt) {nt:Nat} {ops:Array Oper} (hlen:l.length=ops.size)
 (hci:∀ i o io,ops[i]?=some o→l[i]?=some io→cI P no nt ops (!barrier ops (Region.before ops) i) o=some io) (hed:edgesOk ops=true) (hsl:slotsOk l (Region.before ops)=true) (hco:callsOk l (Region.before ops)=true)
 {β0:Inj} {w0:World} (hβ0:BLt β0 (NN 0)) {Q:Exit→Act→World→Prop}
 (hQ:∀ β1 a' w',Ext β0 β1 (MM 0) bs (NN 0) (NN l.length) w0→FRel no nt β1 (TM l.length) a'→MRel no β1 (MM l.length) w'→Frm β0 (MM 0) bs (NN 0) w0 w'→Q .normal a' w') :
 ∀ (fuel:Nat) (listed:Array Bool) (β:Inj) (w:World) (a:Act),listed.size=ops.size→cnt (fun k=>listed.getD k false) l.length≤fuel →
   Mid no nt bs l.length (barrier ops (Region.before ops)) (fun j k=>((Region.before ops).getD j 0).testBit k) (fun i=>(l[i]?).bind (·.d)) TM MM NN VV tgt β0 w0 (fun k=>listed.getD k false) β w a →
   wpAny P .any ops Q fuel listed a w:=by
 have hbq:∀ i io,l[i]?=some io→io.q = !barrier ops (Region.before ops) i:=by
  intro i io hio
  have hil:i<l.length:=(List.getElem?_eq_some_iff.1 hio).1
  exact(cI_inv (hci i ops[i] io (Array.getElem?_eq_getElem (by omega)) hio)).2.2.2.1
 have hmono:=@mono_le NN l.length hS.mono
 have fin:∀ (listed:Array Bool) (β:Inj) (w:World) (a:Act),listed.size=ops.size→(∀ k,k<l.length→listed.getD k false=true) →
  Mid no nt bs l.length (barrier ops (Region.before ops)) (fun j k=>((Region.before ops).getD j 0).testBit k) (fun i=>(l[i]?).bind (·.d)) TM MM NN VV tgt β0 w0 (fun k=>listed.getD k false) β w a→Q .normal a w:=by
  intro listed β w a hsz hall hI
  refine hQ β a w hI.ext ⟨hI.size,hI.defers,fun t=>?_⟩ (hI.mem _ fun b blk e=>⟨l.length,Nat.le_refl _,fun j hj _=>hall j hj,fun j hj _ _=>hj,?_⟩) hI.frm
  rotate_left
  ·by_cases hex:∃ j,Wr l.length (barrier ops (Region.before ops)) tgt l.length b j
   ·obtain⟨j,hw,hmax⟩:=wr_last hex
    refine .inr (.inl ⟨j,hw,fun j' hw'=>hall j' hw'.1,hmax,?_⟩)
    obtain⟨hj,ht,hs⟩:=hw
    have hb:=hS.tlt' hj ht
    have hbx:∀ y,j<y→y<l.length→barrier ops (Region.before ops) y=false:=fun y h3 h4=>by
     cases e2:barrier ops (Region.before ops) y with
     | false=>rfl
     | true=>exact absurd ⟨h3,h4⟩ (hs y e2).1
    refine hS.down hbq (Nat.lt_of_lt_of_le hb (hS.mono j hj)) l.length (by omega) (Nat.le_refl _) (fun x h1 h2=>⟨hbx x (by omega) h2,fun e3=>?_⟩) e
    have:=hmax x ⟨h2,e3,fun y hy=>⟨(fun h5=>by rw[hbx y (by omega) h5.2] at hy;cases hy),fun h5=>by omega⟩⟩
    omega
   ·exact .inr (.inr ⟨fun j hw=>hex ⟨j,hw⟩,e⟩)
  have:=hI.slots t
  rw[lv_eq (TM:=TM) (len:=l.length) rfl (fun i hi=>?_) (Nat.le_refl _) (fun k hk _=>hall k hk) (fun k hk hk' _=>by omega) _ (Nat.le_refl _) (Nat.le_refl _)] at this
  ·exact this
  ·have hg:l[i]?=some l[i]:=List.getElem?_eq_getElem hi
   rw[hS.tm i _ hg]
   simp [hg]
 intro fuel
 induction fuel with
 | zero =>
   intro listed β w a hsz hc hI
   have hall:∀ k,k<l.length→listed.getD k false=true:=cnt_zero (Nat.le_zero.1 hc)
   refine⟨?_,fin listed β w a hsz hall hI⟩
   apply List.eq_nil_iff_forall_not_mem.2
   intro j hj
   obtain⟨h1,o,ho,_⟩:=mem_ready.1 hj
   have hjl:j<ops.size:=(Array.getElem?_eq_some_iff.1 ho).1
   have:=hall j (by omega)
   simp only[Array.getD_eq_getD_getElem?] at h1 this
   rw[Array.getElem?_eq_getElem (by omega)] at h1 this
   simp only[Option.getD_some] at h1 this
   rw[h1] at this;cases this
 | succ fuel ih =>
   intro listed β w a hsz hc hI
   refine⟨fun hnil=>fin listed β w a hsz ?_ hI,fun i hi=>?_⟩
   ·intro k
    induction k using Nat.strongRecOn with
    | _ k ihk =>
      intro hk
      cases e:listed.getD k false with
      | true=>rfl
      | false =>
        exfalso
        have hk':k<ops.size:=by omega
        have ho:ops[k]?=some ops[k]:=Array.getElem?_eq_getElem hk'
        have:k∈Region.ready .any ops listed:=by
         refine mem_ready.2 ⟨?_,_,ho,fun e' he' hb=>ihk e'.on (edgesOk_at hed ho e' he' hb) (by have:=edgesOk_at hed ho e' he' hb;omega)⟩
         simp only[Array.getD_eq_getD_getElem?] at e ⊢
         rw[Array.getElem?_eq_getElem (by omega)] at e ⊢
         simpa using e
        rw[hnil] at this;cases this
   ·obtain⟨h1,o,ho,hedge⟩:=mem_ready.1 hi
    have hil:i<ops.size:=(Array.getElem?_eq_some_iff.1 ho).1
    have hil':i<l.length:=by omega
    obtain⟨io,hio⟩:∃ io,l[i]?=some io:=⟨_,List.getElem?_eq_getElem hil'⟩
    have hci':=hci i o io ho hio
    obtain⟨hg,hop,hd,hq,hdlt,hcall⟩:=cI_inv hci'
    have hLi:listed.getD i false=false:=by
     simp only[Array.getD_eq_getD_getElem?] at h1 ⊢
     rw[Array.getElem?_eq_getElem (by omega)] at h1 ⊢
     simpa using h1
    let L:Nat→Bool:=fun k=>listed.getD k false
    let L':Nat→Bool:=fun k=>(listed.setIfInBounds i true).getD k false
    let bef:Nat→Nat→Bool:=fun j k=>((Region.before ops).getD j 0).testBit k
    let d:Nat→Option Nat:=fun i=>(l[i]?).bind (·.d)
    have hLi0:L i=false:=hLi
    have hcon:∀ k,L k=true→L k=false→False:=fun k h1 h2=>by rw[h1] at h2;cases h2
    have hcon':∀ k,L' k=true→L' k=false→False:=fun k h1 h2=>by rw[h1] at h2;cases h2
    have hLi1:L' i=true:=by simp [L',hsz,hil]
    have hne:∀ k,k≠i→L' k=L k:=fun k hk=>getD_set_ne false (Ne.symm hk)
    have hsub:∀ k,L k=true→L' k=true:=fun k hk=>getD_set_true hk
    have hbef:∀ k,bef i k=true→L k=true:=by
     intro k hk
     obtain⟨e,he,hb,h2⟩:=before_bit ho hk
     have hon:=hedge e (by simpa using he) hb
     rcases h2 with h2|⟨h2,h3⟩
     ·rw[←h2];exact hon
     ·exact hI.closed e.on k (by omega) hon h3
    have hafter:∀ k,k<l.length→bef k i=true→L k=false:=by
     intro k hk hb
     cases e:L k with
     | false=>rfl
     | true =>
       exact(hcon i (hI.closed k i hk e hb) hLi0).elim
    have hdi:d i=io.d:=by simp [d,hio]
    have hx:∀ t,d i=some t→∀ k,i<k→k<l.length→d k=some t→L k=false:=by
     intro t h2 k hik hk h3
     obtain⟨y,hy⟩:∃ y,l[k]?=some y:=⟨_,List.getElem?_eq_getElem hk⟩
     rw[hdi] at h2
     have h3':y.d=some t:=by simpa[d,hy] using h3
     rcases slotsOk_at hsl hio hy hik with h4|h4
     ·exact hafter k hk h4
     ·exact absurd (by simp [IOp.names,h3']) (h4.1 t h2)
    have hlvi:∀ t,t∈io.names→lv (TM 0) d VV L l.length t=TM i t:=by
     intro t ht
     refine lv_eq (TM:=TM) (len:=l.length) rfl (fun j hj=>?_) (Nat.le_of_lt hil') (fun k hk h2=>?_) (fun k hk hk' h2=>?_) _ (Nat.le_of_lt hil') (Nat.le_refl _)
     ·have hg:l[j]?=some l[j]:=List.getElem?_eq_getElem hj
      rw[hS.tm j _ hg];simp [d,hg]
     ·obtain⟨x,hxx⟩:∃ x,l[k]?=some x:=⟨_,List.getElem?_eq_getElem (by omega)⟩
      have h2':x.d=some t:=by simpa[d,hxx] using h2
      rcases slotsOk_at hsl hxx hio hk with h4|h4
      ·exact hbef k h4
      ·exact absurd ht (h4.1 t h2')
     ·by_cases e:k=i
      ·subst e;exact hLi0
      ·obtain⟨y,hy⟩:∃ y,l[k]?=some y:=⟨_,List.getElem?_eq_getElem hk'⟩
       have h2':y.d=some t:=by simpa[d,hy] using h2
       rcases slotsOk_at hsl hio hy (by omega:i<k) with h4|h4
       ·exact hafter k hk' h4
       ·exact absurd ht (h4.2 t h2')
    have hvt:∀ t,t∈io.names→VRel no β (TM i t) (a.tmps.getD t undef):=fun t ht=>by rw[←hlvi t ht];exact hI.slots t
    have hwant:=wanted_iff (nt:=nt) (β:=β) (tm:=TM i) (a:=a) hg fun g b e=>hvt g (by simp [IOp.names,e])
    have hclosed':∀ j k,j<l.length→L' j=true→bef j k=true→L' k=true:=by
     intro j k hj hLj hb
     by_cases e:j=i
     ·subst e;exact hsub k (hbef k hb)
     ·exact hsub k (hI.closed j k hj (by have h9:=hLj;rw[hne j e] at h9;exact h9) hb)
    have hcnt:cnt L' l.length≤fuel:=by
     have h2:=cnt_add hLi0 hLi1 hne l.length
     rw[if_pos hil'] at h2
     have h3:cnt L l.length≤fuel+1:=hc
     omega
    have hsz':(listed.setIfInBounds i true).size=ops.size:=by simp [hsz]
    let bar:Nat→Bool:=barrier ops (Region.before ops)
    have hord:∀ i j b k,i<j→Wr l.length bar tgt k b i→Wr l.length bar tgt k b j→bef j i=true:=by
     intro i j b k hij hwi hwj
     obtain⟨io,hio⟩:∃ io,l[i]?=some io:=⟨_,List.getElem?_eq_getElem hwi.1⟩
     obtain⟨jo,hjo⟩:∃ jo,l[j]?=some jo:=⟨_,List.getElem?_eq_getElem hwj.1⟩
     obtain⟨h1,h2⟩:=hS.twice hbq hio hjo hij (fun x hx1 hx2=>by
      cases e:bar x with
      | false=>exact e
      | true =>
        have:=hwi.2.2 x e
        have:=hwj.2.2 x e
        omega) hwi.2.1 hwj.2.1
     exact callsOk_at hco hio hjo hij h1 h2
    let lt:Nat→Bool:=fun k=>match ops[k]? with
     | some p=>lightOp p
     | none=>false
    have hcmp:∀ x y,x<l.length→y<l.length→bar x=true→y≠x→(lt y=false∨lt x=true∨bar y=true)→(y<x→bef x y=true)∧(x<y→bef y x=true):=by
     intro x y hx hy hb hne hc
     have hx':x<ops.size:=by omega
     have hy':y<ops.size:=by omega
     have key:∀ x y,x<l.length→y<l.length→bar x=true→y≠x→(lt y=false∨lt x=true)→(y<x→bef x y=true)∧(x<y→bef y x=true):=by
      intro x y hx hy hb hne hc
      refine barrier_at hb (by omega) hne (fun o p h1 h2 h3=>?_) (by omega)
      rcases hc with hc|hc
      ·simp only[lt,h1,h3] at hc;cases hc
      ·simpa only[lt,h2] using hc
     rcases hc with hc|hc|hc
     ·exact key x y hx hy hb hne (.inl hc)
     ·exact key x y hx hy hb hne (.inr hc)
     ·cases e:lt y with
      | false=>exact key x y hx hy hb hne (.inl e)
      | true=>exact(key y x hy hx hc (Ne.symm hne) (.inr e)).symm
    have hltN:∀ k,k<l.length→lt k=true→tgt k=[]∧NN (k+1)=NN k:=by
     intro k hk he
     obtain⟨ko,hko⟩:∃ ko,l[k]?=some ko:=⟨_,List.getElem?_eq_getElem hk⟩
     have hok:ops[k]?=some ops[k]:=Array.getElem?_eq_getElem (by omega)
     simp only[lt,hok] at he
     obtain⟨g1,g2⟩:=light_io (hci k _ ko hok hko) he
     exact⟨(hS.lgt k ko hko g1 g2).1,(hS.lgt k ko hko g1 g2).2.1⟩
    have hbarL:(lt i=false∨bar i=true)→∀ x,bar x=true→x<l.length→x≠i→(L x=true↔x<i):=by
     intro hli x hx hxl hxi
     obtain⟨h3,h2⟩:=hcmp x i hxl hil' hx (Ne.symm hxi) (hli.elim .inl fun h=>.inr (.inr h))
     have h2:i > x→bef i x=true:=h2
     have h3:i<x→bef x i=true:=h3
     constructor
     ·intro h4
      rcases Nat.lt_or_ge x i with h5|h5
      ·exact h5
      ·exact(hcon x h4 (hafter x hxl (h3 (by omega)))).elim
     ·intro h4;exact hbef x (h2 h4)
    have slots':∀ (β2:Inj) (rv:Value),Ext0 β β2→VRel no β2 (VV i) rv→∀ t,VRel no β2 (lv (TM 0) d VV L' l.length t) ((a.put o.dst rv).tmps.getD t undef):=by
     intro β2 rv hex hv t
     rw[lv_add hil' hLi0 hLi1 hne (hx t) l.length hil' (Nat.le_refl _)]
     have hF:FRel no nt β2 (lv (TM 0) d VV L l.length) a:=⟨hI.size,hI.defers,fun t=>(hI.slots t).mono hex⟩
     have:=(hF.put (d:=io.d) (fun d' e=>by rw[hd] at e;exact hdlt d' e) hv).slots t
     rw[put_at,←hd] at *
     rw[hdi]
     exact this
    by_cases hbar:barrier ops (Region.before ops) i=true
    ·skip
     have hlt:∀ k,k<l.length→k≠i→(bar k=true∨lt k=false)→(L k=true↔k<i):=by
      intro k hk hki hkl
      obtain⟨h2,h3⟩:=hcmp i k hil' hk hbar hki (hkl.elim (fun h=>.inr (.inr h)) .inl)
      constructor
      ·intro hL
       rcases Nat.lt_or_ge k i with h4|h4
       ·exact h4
       ·exact(hcon k hL (hafter k hk (h3 (by omega)))).elim
      ·intro h4;exact hbef k (h2 h4)
     have hdomi:∀ b,β b≠none→b<NN i:=by
      intro b hb
      rcases hI.dom b hb with h2|⟨k,hk,hLk,h2,h3⟩
      ·exact Nat.lt_of_lt_of_le h2 (hmono i (Nat.zero_le _) (Nat.le_of_lt hil'))
      ·have hki:k≠i:=by intro e;subst e;exact hcon _ hLk hLi0
       have:=(hlt k hk hki (by
        cases e:lt k with
        | false=>exact .inr rfl
        | true=>have:=(hltN k hk e).2;omega)).1 hLk
       exact Nat.lt_of_lt_of_le h3 (hmono i (by omega) (Nat.le_of_lt hil'))
     have hti:tgt i=[]:=by
      rcases hS.act i io hio with⟨_,h,_⟩|⟨_,h,_⟩|⟨_,h,_⟩
      ·exact h
      ·exact h
      ·rw[hq,hbar] at h;cases h
     have hMi:MRel no β (MM i) w:=by
      refine hI.mem _ fun b blk e=>⟨i,Nat.le_of_lt hil',fun j hj hb=>(hlt j (by omega) (by omega) (.inl hb)).2 hj,fun j hj hLj hb=>(hlt j hj (by intro e;subst e;exact hcon _ hLj hLi0) (.inl hb)).1 hLj,?_⟩
      have hwl:∀ j,Wr l.length bar tgt i b j→bar j=true∨lt j=false:=fun j hw=>by
       cases e:lt j with
       | false=>exact .inr rfl
       | true=>have h7:=hw.2.1;rw[(hltN j hw.1 e).1] at h7;cases h7
      have hwlt:∀ j,Wr l.length bar tgt i b j→j<i:=fun j hw=>by
       rcases Nat.lt_or_ge j i with h2|h2
       ·exact h2
       ·exact absurd ⟨Nat.le_refl _,h2⟩ (hw.2.2 i hbar).2
      by_cases hex:∃ j,Wr l.length bar tgt i b j
      ·obtain⟨j,hw,hmax⟩:=wr_last hex
       refine .inr (.inl ⟨j,hw,fun j' hw'=>(hlt j' hw'.1 (by have:=hwlt j' hw';omega) (hwl j' hw')).2 (hwlt j' hw'),hmax,?_⟩)
       have hji:=hwlt j hw
       obtain⟨hj,ht,hs⟩:=hw
       have hbx:∀ y,j<y→y<i→bar y=false:=fun y h3 h4=>by
        cases e2:bar y with
        | false=>rfl
        | true=>exact absurd ⟨h3,h4⟩ (hs y e2).1
       refine hS.down hbq (Nat.lt_of_lt_of_le (hS.tlt' hj ht) (hS.mono j hj)) i (by omega) (by omega) (fun x h1 h2=>⟨hbx x (by omega) h2,fun e3=>?_⟩) e
       have:=hmax x ⟨by omega,e3,fun y hy=>⟨(fun h5=>by rw[hbx y (by omega) h5.2] at hy;cases hy),fun h5=>by omega⟩⟩
       omega
      ·exact .inr (.inr ⟨fun j hw=>hex ⟨j,hw⟩,e⟩)
     have hexti:Ext β0 β (MM 0) bs (NN 0) (NN i) w0:=by
      refine⟨hI.ext.old,fun b e=>?_,hI.ext.fresh⟩
      have h2:=(hI.ext.only b e).1
      refine⟨h2,hdomi b fun e'=>?_⟩
      rw[e',hβ0 b h2] at e;exact e rfl
     have hBi:BLt β (NN i):=by
      intro b hb
      cases e:β b with
      | none=>rfl
      | some L=>have:=hdomi b (by rw[e];simp);omega
     have go:∀ (β1:Inj) (w1:World) (rv:Value),Ext β β1 (MM i) bs (NN i) (NN (i+1)) w→VRel no β1 (VV i) rv→MRel no β1 (MM (i+1)) w1→Frm β (MM i) bs (NN i) w w1→wpAny P .any ops Q fuel (listed.setIfInBounds i true) (a.put o.dst rv) w1:=by
      intro β1 w1 rv he hv hM1 hf
      have hB1:BLt β1 (NN (i+1)):=hBi.ext he (hS.mono i hil')
      refine ih _ β1 w1 _ hsz' hcnt ⟨?_,?_,hclosed',?_,?_,?_,?_,?_,slots' β1 rv he.old hv⟩
      ·exact((⟨hI.size,hI.defers,fun t=>hI.slots t⟩:FRel no nt β (lv (TM 0) d VV L l.length) a).mono he.old).put hdlt hv |>.size
      ·exact((⟨hI.size,hI.defers,fun t=>hI.slots t⟩:FRel no nt β (lv (TM 0) d VV L l.length) a).mono he.old).put hdlt hv |>.defers
      ·intro b hb
       by_cases e:β1 b=β b
       ·rw[e] at hb
        rcases hI.dom b hb with h2|⟨k,hk,hLk,h2,h3⟩
        ·exact .inl h2
        ·exact .inr ⟨k,hk,hsub k hLk,h2,h3⟩
       ·obtain⟨h2,h3⟩:=he.only b e
        exact .inr ⟨i,hil',hLi1,h2,h3⟩
      ·have:=hexti.trans he (hS.dom0 i (Nat.le_of_lt hil')) (hmono i (Nat.zero_le _) (Nat.le_of_lt hil')) (hS.mono i hil') hI.frm.size fun b hb _=>hβ0 b hb
       exact⟨this.old,fun b e=>⟨(this.only b e).1,Nat.lt_of_lt_of_le (this.only b e).2 (hmono l.length (by omega) (Nat.le_refl _))⟩,this.fresh⟩
      ·exact hI.frm.trans hexti hf (hS.dom0 i (Nat.le_of_lt hil')) fun b hb _=>hβ0 b hb
      ·intro m' hm'
       refine hM1.ofDom fun b Lb blk e hb=>?_
       obtain⟨k,hk,hk1,hk2,hAt⟩:=hm' b blk hb
       have hAt:At l.length bar tgt MM L' k b blk:=hAt
       have hik:i<k:=hk2 i hil' hLi1 hbar
       have hnb:∀ j,i<j→j<k→bar j=false:=by
        intro j h2 h3
        cases e:bar j with
        | false=>rfl
        | true =>
          have h4:=hk1 j h3 e
          have h5:L j=true:=by rw[←hne j (by omega)];exact h4
          have:=(hlt j (by omega) (by omega) (.inl e)).1 h5
          omega
       have hbn:b<NN (i+1):=by
        rcases Nat.lt_or_ge b (NN (i+1)) with h2|h2
        ·exact h2
        ·rw[hB1 b h2] at e;cases e
       have hwgt:∀ j,Wr l.length bar tgt k b j→i<j∧L' j=false:=fun j hw=>by
        have hji:i<j:=by
         rcases Nat.lt_trichotomy j i with h2|h2|h2
         ·exact absurd ⟨h2,hik⟩ (hw.2.2 i hbar).1
         ·subst h2;have:=hw.2.1;rw[hti] at this;cases this
         ·exact h2
        refine⟨hji,?_⟩
        cases e2:L' j with
        | false=>rfl
        | true =>
          have h5:L j=true:=by rw[←hne j (by omega)];exact e2
          have:=(hlt j hw.1 (by omega) (by
           cases e:lt j with
           | false=>exact .inr rfl
           | true=>have h7:=hw.2.1;rw[(hltN j hw.1 e).1] at h7;cases h7)).1 h5
          omega
       rcases hAt with⟨j,hw,_,hpre,h6⟩|⟨j,hw,hdn,_⟩|⟨hnw,h6⟩
       ·obtain⟨hji,_⟩:=hwgt j hw
        obtain⟨hj,ht,hs⟩:=hw
        have hbx:∀ y,i<y→y<j→bar y=false:=fun y h3 h4=>by
         cases e2:bar y with
         | false=>rfl
         | true =>
           rcases Nat.lt_or_ge y k with h5|h5
           ·rw[hnb y h3 h5] at e2;cases e2
           ·exact absurd ⟨h5,by omega⟩ (hs y e2).2
        refine hS.down hbq hbn j (by omega) (by omega) (fun x h1 h2=>⟨hbx x (by omega) h2,fun e3=>?_⟩) h6
        have hwx:Wr l.length bar tgt k b x:=⟨by omega,e3,fun y hy=>by
         have:=hs y hy
         refine⟨fun h5=>?_,fun h5=>?_⟩
         ·rcases Nat.lt_or_ge y j with h7|h7
          ·rw[hbx y (by omega) h7] at hy;cases hy
          ·by_cases h8:y=j
           ·subst h8;obtain⟨jo,hjo⟩:∃ jo,l[y]?=some jo:=⟨_,List.getElem?_eq_getElem hj⟩
            have h9:=(hS.hv hjo ht).2.1
            rw[hbq y jo hjo] at h9;have h10:bar y=true:=hy;rw[show barrier ops (Region.before ops) y=true from h10] at h9;cases h9
           ·exact this.1 ⟨by omega,h5.2⟩
         ·rw[hbx y (by omega) (by omega)] at hy;cases hy⟩
        have:=hpre x hwx h2
        rw[(hwgt x hwx).2] at this;cases this
       ·have:=hdn j hw
        rw[(hwgt j hw).2] at this;cases this
       ·refine hS.down hbq hbn k (by omega) hk (fun x h1 h2=>⟨hnb x (by omega) h2,fun e3=>hnw x ⟨by omega,e3,fun y hy=>⟨fun h3=>?_,fun h3=>by omega⟩⟩⟩) h6
        have:=hnb y (by omega) h3.2
        rw[this] at hy;cases hy
      ·intro j b hj hLj ht
       have hji:j≠i:=by intro e;subst e;rw[hti] at ht;cases ht
       have:=hI.sdv j b hj (by show L j=true;rw[←hne j hji];exact hLj) ht
       cases e:β b with
       | none=>exact absurd e this
       | some Lb=>rw[he.old b Lb e];simp
     unfold wpOp
     rw[ho]
     rcases hS.act i io hio with⟨⟨g,b,hgd,hsk⟩,_,hv0,hm0,hn0⟩|⟨hgd,_,mi,mi',hopS,hQt⟩|⟨_,hq2,_⟩
     rotate_right
     ·rw[hq,hbar] at hq2;cases hq2
     ·have hwn:=hwant.2.2 g b hgd hsk
      simp only[]
      rw[if_neg (by rw[hwn];decide)]
      refine go β w undef (Ext.refl ..) ?_ (by rw[hm0];exact hMi) (Frm.refl ..)
      rw[hv0];exact VRel.tuple rfl fun i x y hx=>by simp at hx
     ·have hwn:Region.wanted o (yielded ops a.tmps)=true:=by
       cases e:io.g with
       | none=>exact hwant.1 e
       | some p=>obtain⟨g,b⟩:=p;exact hwant.2.1 g b e (hgd g b e)
      simp only[]
      rw[if_pos hwn]
      obtain⟨rfl,hmm⟩:=hQt.1 (by rw[hq,hbar];rfl)
      subst hmm
      rw[hq,hbar] at hopS
      refine .inl (hopS nt o β w a _ Q hop hcall hBi ⟨hI.size,hI.defers,fun t ht=>hvt t (by simp [IOp.names,ht])⟩ hMi ?_)
      intro rv β1 w1 he hv hM1 hf
      exact go β1 w1 rv he hv hM1 hf
    ·skip
     have hbar':barrier ops (Region.before ops) i=false:=by simpa using hbar
     by_cases hli:lt i=true
     ·skip
      have hlo:lightOp o=true:=by simpa only[lt,ho] using hli
      obtain⟨hg0,hl0⟩:=light_io hci' hlo
      obtain⟨hti,hNN,hst⟩:=hS.lgt i io hio hg0 hl0
      have hwn:Region.wanted o (yielded ops a.tmps)=true:=hwant.1 hg0
      unfold wpOp
      rw[ho]
      simp only[]
      rw[if_pos hwn]
      have hopS:OpS P no (NN i) io.o (TM i) (fun _=>none) (NN i) (VV i) (fun _=>none) (NN i):=OpS.pure (fun b blk e=>by cases e) (hst _ _ _)
      have hcb:BLt (cut β (NN i)) (NN i):=fun b hb=>by simp only[cut];rw[if_neg (by omega)]
      have hTi:=hS.tlt i (Nat.le_of_lt hil')
      have hM0:MRel no β (fun _=>none) w:=hI.mem _ fun b blk e=>by cases e
      refine .inl (hopS nt o (cut β (NN i)) w a _ Q hop hcall hcb ⟨hI.size,hI.defers,fun t ht=>(hvt t (by simp [IOp.names,ht])).cut (hTi t)⟩ (hM0.cut (fun b blk e=>by cases e)) ?_)
      intro rv β1 w1 he hv hM1 hf
      have he:Ext (cut β (NN i)) β1 (fun _=>none) (NN i) (NN i) (NN i) w:=he
      have hf:Frm (cut β (NN i)) (fun _=>none) (NN i) (NN i) w w1:=hf
      have ex1:Ext0 β1 β:=by
       intro b Lb e
       have h3:β1 b=cut β (NN i) b:=by
        by_cases e3:β1 b=cut β (NN i) b
        ·exact e3
        ·have:=(he.only b e3);omega
       rw[e] at h3
       simp only[cut] at h3
       split at h3
       ·exact h3.symm
       ·cases h3
      have hblk:∀ B,B<w.heap.size→w1.heap[B]?=w.heap[B]?:=fun B hB=>hf.block B hB fun b L _ e2 _ _=>by obtain⟨x,hx,_⟩:=e2;cases hx
      refine ih _ β w1 _ hsz' hcnt ⟨?_,?_,hclosed',?_,hI.ext,?_,?_,?_,slots' β rv (fun _ _ h=>h) (hv.mono ex1)⟩
      ·exact((⟨hI.size,hI.defers,fun t=>hI.slots t⟩:FRel no nt β (lv (TM 0) d VV L l.length) a)).put hdlt (hv.mono ex1) |>.size
      ·exact((⟨hI.size,hI.defers,fun t=>hI.slots t⟩:FRel no nt β (lv (TM 0) d VV L l.length) a)).put hdlt (hv.mono ex1) |>.defers
      ·intro b hb
       rcases hI.dom b hb with h2|⟨k,hk,hLk,h2,h3⟩
       ·exact .inl h2
       ·exact .inr ⟨k,hk,hsub k hLk,h2,h3⟩
      ·have h2:=hI.frm
       refine⟨hf.os.trans h2.os,hf.tape.trans h2.tape,hf.output.trans h2.output,Nat.le_trans h2.size hf.size,fun B hB hne'=>?_⟩
       rw[hblk B (Nat.lt_of_lt_of_le hB h2.size),h2.block B hB hne']
      ·intro m' hm'
       have hMk:=hI.mem m' fun b blk e=>by
        obtain⟨k,hk,hk1,hk2,hAt⟩:=hm' b blk e
        refine⟨k,hk,fun j hj hb=>?_,fun j hj hLj hb=>hk2 j hj (hsub j hLj) hb,hAt.less fun j hw=>(hne j (by intro e;subst e;have:=hw.2.1;rw[hti] at this;cases this)).symm⟩
        have hji:j≠i:=by intro e;subst e;have h9:bar j=false:=hbar';have h10:bar j=true:=hb;rw[h9] at h10;cases h10
        have:=hk1 j hj hb
        have h8:L' j=true:=this
        rw[hne j hji] at h8;exact h8
       exact hMk.glue (lo:=NN i) (hi:=NN i) hM1 hf.size hblk (fun b blk h4 h5 _=>by omega) (fun b=>by rw[if_neg (by omega)]) (fun b Lb h2 h3 _=>by omega) (fun _ _ h=>h) ex1
      ·intro j b hj hLj ht
       have hji:j≠i:=by intro e;subst e;rw[hti] at ht;cases ht
       exact hI.sdv j b hj (by show L j=true;rw[←hne j hji];exact hLj) ht
     have hli:lt i=false:=by simpa using hli
     have hbarL:=hbarL (.inl hli)
     have hel1:∀ j,j<i→bar j=true→L j=true:=fun j hj hb=>(hbarL j hb (by omega) (by omega)).2 hj
     have hel2:∀ j,j<l.length→L j=true→bar j=true→j<i:=fun j hj hLj hb=>by
      have hji:j≠i:=by intro e;subst e;have h9:bar j=false:=hbar';rw[h9] at hb;cases hb
      exact(hbarL j hb hj hji).1 hLj
     have hbars:∀ k,(∀ j,j<k→bar j=true→L' j=true)→(∀ j,j<l.length→L' j=true→bar j=true→j<k) →
      (∀ j,j<k→bar j=true→L j=true)∧∀ j,j<l.length→L j=true→bar j=true→j<k:=by
      intro k h2 h3
      refine⟨fun j hj hb=>?_,fun j hj hLj hb=>h3 j hj (hsub j hLj) hb⟩
      have hji:j≠i:=by intro e;subst e;have h9:bar j=false:=hbar';rw[h9] at hb;cases hb
      rw[←hne j hji];exact h2 j hj hb
     have hbi:∀ k,k≤l.length→(∀ j,j<k→bar j=true→L j=true)→(∀ j,j<l.length→L j=true→bar j=true→j<k)→SameSeg bar i k:=by
      intro k hk h2 h3 x hxb
      have hxi:x≠i:=by intro e;subst e;have h9:bar x=false:=hbar';rw[h9] at hxb;cases hxb
      refine⟨fun h4=>?_,fun h4=>?_⟩
      ·have:=(hbarL x hxb (by omega) hxi).1 (h2 x h4.2 hxb);omega
      ·have:=h3 x (by omega) ((hbarL x hxb (by omega) hxi).2 (by omega)) hxb;omega
     have hquiet:∀ {b j k:Nat} (x:Nat),i<j→i+1≤x→x<j→SameSeg bar i k→Wr l.length bar tgt k b j→(Wr l.length bar tgt k b x→False)→bar x=false∧b∉tgt x:=by
      intro b j k x hij h1 h2 hsi hw hno
      have hbx:∀ y,i<y→y<j→bar y=false:=fun y h3 h4=>by
       cases e2:bar y with
       | false=>rfl
       | true =>
         have:=hsi y e2
         have:=hw.2.2 y e2
         omega
      refine⟨hbx x (by omega) h2,fun e3=>hno ⟨by have:=hw.1;omega,e3,fun y hy=>?_⟩⟩
      have h5:=hsi y hy
      have h6:=hw.2.2 y hy
      have h7:¬ (i<y∧y<j):=fun h8=>by rw[hbx y h8.1 h8.2] at hy;cases hy
      omega
     have hhv:=hS.act i io hio
     rw[←or_assoc] at hhv
     rcases hhv with hact|⟨hgd,hq1,hTX,mh,mh',hopS,hv⟩
     rotate_left
     ·skip
      have hwn:Region.wanted o (yielded ops a.tmps)=true:=by
       cases e:io.g with
       | none=>exact hwant.1 e
       | some p=>obtain⟨g,b⟩:=p;exact hwant.2.1 g b e (hgd g b e)
      unfold wpOp
      rw[ho]
      simp only[]
      rw[if_pos hwn]
      have hsii:SameSeg bar i i:=fun x hxb=>⟨fun h4=>by omega,fun h4=>by
       have h5:x=i:=by omega
       rw[h5] at hxb;have h9:bar i=false:=hbar';rw[h9] at hxb;cases hxb⟩
      have hbetw:∀ {j k:Nat},SameSeg bar i k→SameSeg bar j k→∀ x,bar x=true→¬ (i<x∧x<j)∧¬ (j<x∧x<i):=by
       intro j k h2 h3 x hxb
       have:=h2 x hxb
       have:=h3 x hxb
       omega
      have hnt:∀ b x,mh b=some x→b∉tgt i→∀ j k,SameSeg bar i k→¬ Wr l.length bar tgt k b j:=by
       intro b x hbx hbT j k hsi hw
       obtain⟨hj,ht,hsj⟩:=hw
       obtain⟨jo,hjo⟩:∃ jo,l[j]?=some jo:=⟨_,List.getElem?_eq_getElem hj⟩
       obtain⟨_,hjq',_,mhj,mhj',_,hvj⟩:=hS.hv hjo ht
       have hHj:=(hvj.tgt b ht).1
       have hjq:bar j=false:=by
        have:=hbq j jo hjo
        rw[hjq'] at this
        simpa using this.symm
       have hno:¬ HH i b:=(hv.hid b x hbx).resolve_left hbT
       have hbw:=hbetw hsi hsj
       rcases Nat.lt_trichotomy j i with h2|h2|h2
       ·refine hno ((hS.segs hbq i (by omega) (by omega) fun x h3 h4=>?_).1 b hHj)
        by_cases hxj:x=j
        ·subst hxj;exact hjq
        ·cases e2:bar x with
         | false=>exact e2
         | true=>exact absurd ⟨by omega,h4⟩ (hbw x e2).2
       ·subst h2;exact hbT ht
       ·rcases(hS.segs hbq (i:=i) j (by omega) (by omega) fun x h3 h4=>by
         by_cases hxi:x=i
         ·subst hxi;exact hbar'
         ·cases e2:bar x with
          | false=>exact e2
          | true=>exact absurd ⟨by omega,h4⟩ (hbw x e2).1).2.1 b hHj with h3|h3
        ·exact hno h3
        ·have:=(hS.mlt i (Nat.le_of_lt hil') b x (hv.sub b x hbx)).1;omega
      have hplc:∀ b blk,mh b=some blk→Plc l.length bar tgt MM L b blk:=by
       intro b blk e
       refine⟨i,Nat.le_of_lt hil',hel1,hel2,?_⟩
       by_cases hbT:b∈tgt i
       ·exact .inl ⟨i,⟨hil',hbT,hsii⟩,hLi0,fun j' hw' hlt=>hbef j' (hord j' i b i hlt hw' ⟨hil',hbT,hsii⟩),hv.sub b blk e⟩
       ·exact .inr (.inr ⟨fun j=>hnt b blk e hbT j i hsii,hv.sub b blk e⟩)
      have hMh:MRel no β mh w:=hI.mem mh hplc
      have hcb:BLt (cut β (NN i)) (NN i):=fun b hb=>by simp only[cut];rw[if_neg (by omega)]
      have hTi:=hS.tlt i (Nat.le_of_lt hil')
      have hmi:=hS.mlt i (Nat.le_of_lt hil')
      have hMl:MLt mh (NN i):=hmi.sub fun b x e=>hv.sub b x e
      refine .inl (hopS nt o (cut β (NN i)) w a _ Q hop hcall hcb ⟨hI.size,hI.defers,fun t ht=>(hvt t (by simp [IOp.names,ht])).cut (hTi t)⟩ (hMh.cut hMl) ?_)
      intro rv β1 w1 he hvr hM1 hf
      have cutb:∀ b Lb,cut β (NN i) b=some Lb→β b=some Lb∧b<NN i:=by
       intro b Lb e
       simp only[cut] at e
       split at e
       ·exact⟨e,by assumption⟩
       ·cases e
      have hnone:∀ b,NN i≤b→b<NN (i+1)→β b=none:=by
       intro b h2 h3
       cases e:β b with
       | none=>rfl
       | some Lb =>
         rcases hI.dom b (by rw[e];simp) with h4|⟨k,hk,hLk,h4,h5⟩
         ·have:=hmono i (Nat.zero_le _) (Nat.le_of_lt hil');omega
         ·have hki:k≠i:=by intro e;subst e;exact hcon _ hLk hLi0
          rcases Nat.lt_or_ge k i with h6|h6
          ·have:=@hmono (k+1) i (by omega) (Nat.le_of_lt hil');omega
          ·have:=@hmono (i+1) k (by omega) (Nat.le_of_lt hk);omega
      let β2:Inj:=fun b=>if NN i≤b∧b<NN (i+1) then β1 b else β b
      have ex:Ext0 β β2:=by
       intro b Lb e
       simp only[β2]
       split
       ·rename_i h2;rw[hnone b h2.1 h2.2] at e;cases e
       ·exact e
      have ex1:Ext0 β1 β2:=by
       intro b Lb e
       simp only[β2]
       split
       ·exact e
       ·rename_i h2
        have h3:β1 b=cut β (NN i) b:=by
         by_cases e3:β1 b=cut β (NN i) b
         ·exact e3
         ·exact absurd (he.only b e3) h2
        rw[e] at h3
        exact(cutb b Lb h3.symm).1
      have hTlt:∀ b,b∈tgt i→b<NN i:=fun b hb=>(hv.tgt b hb).2.2.1
      have hwT:∀ b blk k,b∈tgt i→SameSeg bar i k→At l.length bar tgt MM L' k b blk→MM (i+1) b=some blk:=by
       intro b blk k hbT hsi hAt
       have hwi:Wr l.length bar tgt k b i:=⟨hil',hbT,hsi⟩
       have hafter':∀ j,Wr l.length bar tgt k b j→i<j→L' j=false:=fun j hw hij=>by
        cases e2:L' j with
        | false=>rfl
        | true =>
          have h5:L j=true:=by rw[←hne j (by omega)];exact e2
          exact(hcon i (hI.closed j i hw.1 h5 (hord i j b k hij hwi hw)) hLi0).elim
       rcases hAt with⟨j,hw,hLj,hpre,h6⟩|⟨j,hw,hdn,hmax,h6⟩|⟨hnw,_⟩
       ·have hij:i<j:=by
         rcases Nat.lt_trichotomy i j with h8|h8|h8
         ·exact h8
         ·subst h8;exact(hcon' _ hLi1 hLj).elim
         ·have:=hsub j (hbef j (hord j i b k h8 hw hwi))
          exact(hcon' j this hLj).elim
        refine hS.down hbq (Nat.lt_of_lt_of_le (hTlt b hbT) (hS.mono i hil')) j (by omega) (by have:=hw.1;omega) (fun x h1 h2=>hquiet x hij h1 h2 hsi hw fun hwx=>?_) h6
        exact hcon' x (hpre x hwx h2) (hafter' x hwx (by omega))
       ·have h7:=hmax i hwi
        have:j=i:=by
         rcases Nat.lt_or_ge i j with h8|h8
         ·exact(hcon' j (hdn j hw) (hafter' j hw h8)).elim
         ·omega
        subst this;exact h6
       ·exact(hnw i hwi).elim
      have hext0:∀ b L0,cut β (NN i) b=some L0→Own mh b→bs≤b→w0.heap.size≤L0.B∨∃ b1 L1,β0 b1=some L1∧Own (MM 0) b1∧bs≤b1∧b1<NN 0∧L1.B=L0.B:=by
       intro b L0 e ho1 hbs
       obtain⟨e1,hlt⟩:=cutb b L0 e
       cases e0:β0 b with
       | some L00 =>
         have h2:=hI.ext.old b L00 e0
         rw[e1] at h2;cases h2
         have h3:b<NN 0:=by
          rcases Nat.lt_or_ge b (NN 0) with h3|h3
          ·exact h3
          ·rw[hβ0 b h3] at e0;cases e0
         obtain⟨x,hx1,hx2⟩:=ho1
         exact .inr ⟨b,L0,e0,hS.dom0 i (Nat.le_of_lt hil') b h3 ⟨x,hv.sub b x hx1,hx2⟩,hbs,h3,rfl⟩
       | none=>exact hI.ext.fresh b L0 e1 e0
      refine ih _ β2 w1 _ hsz' hcnt ⟨?_,?_,hclosed',?_,?_,?_,?_,?_,slots' β2 rv ex (hvr.mono ex1)⟩
      ·exact((⟨hI.size,hI.defers,fun t=>hI.slots t⟩:FRel no nt β (lv (TM 0) d VV L l.length) a).mono ex).put hdlt (hvr.mono ex1) |>.size
      ·exact((⟨hI.size,hI.defers,fun t=>hI.slots t⟩:FRel no nt β (lv (TM 0) d VV L l.length) a).mono ex).put hdlt (hvr.mono ex1) |>.defers
      ·intro b hb
       by_cases h2:NN i≤b∧b<NN (i+1)
       ·exact .inr ⟨i,hil',hLi1,h2.1,h2.2⟩
       ·simp only[β2] at hb
        rw[if_neg h2] at hb
        rcases hI.dom b hb with h2|⟨k,hk,hLk,h2,h3⟩
        ·exact .inl h2
        ·exact .inr ⟨k,hk,hsub k hLk,h2,h3⟩
      ·refine⟨fun b Lb e=>ex b Lb (hI.ext.old b Lb e),fun b e=>?_,fun b Lb e e0=>?_⟩
       ·by_cases h2:NN i≤b∧b<NN (i+1)
        ·have h3:=hmono i (Nat.zero_le _) (Nat.le_of_lt hil')
         have h4:=@hmono (i+1) l.length (by omega) (Nat.le_refl _)
         omega
        ·simp only[β2] at e
         rw[if_neg h2] at e
         exact hI.ext.only b e
       ·by_cases h2:NN i≤b∧b<NN (i+1)
        ·simp only[β2] at e
         rw[if_pos h2] at e
         rcases he.fresh b Lb e (by simp only[cut];rw[if_neg (by omega)]) with h4|⟨b0,L0,h5,h6,h7,h8,h9⟩
         ·have:=hI.frm.size
          exact .inl (by omega)
         ·rcases hext0 b0 L0 h5 h6 h7 with h10|⟨b1,L1,q1,q2,q3,q4,q5⟩
          ·exact .inl (by omega)
          ·exact .inr ⟨b1,L1,q1,q2,q3,q4,by omega⟩
        ·simp only[β2] at e
         rw[if_neg h2] at e
         exact hI.ext.fresh b Lb e e0
      ·have h2:=hI.frm
       refine⟨hf.os.trans h2.os,hf.tape.trans h2.tape,hf.output.trans h2.output,Nat.le_trans h2.size hf.size,fun B hB hne'=>?_⟩
       rw[hf.block B (Nat.lt_of_lt_of_le hB h2.size) ?_,h2.block B hB hne']
       intro b L0 e ho1 hbs hlt heq
       rcases hext0 b L0 e ho1 hbs with h10|⟨b1,L1,q1,q2,q3,q4,q5⟩
       ·omega
       ·exact hne' b1 L1 q1 q2 q3 q4 (by omega)
      ·intro m' hm'
       let M0:Mem:=mrg mh fun b=>if(β b).isSome then m' b else none
       have hM0:MRel no β M0 w:=by
        refine hI.mem M0 fun b blk e=>?_
        rcases mrg_inv e with e|⟨e0,e⟩
        ·exact hplc b blk e
        ·split at e
         ·obtain⟨k,hk,hk1,hk2,hAt⟩:=hm' b blk e
          obtain⟨h2,h3⟩:=hbars k hk1 hk2
          refine⟨k,hk,h2,h3,hAt.less (fun j hw=>?_)⟩
          refine(hne j ?_).symm
          intro e1;subst e1
          obtain⟨x,hx⟩:=(hv.tgt b hw.2.1).2.2.2.1
          rw[hx] at e0;cases e0
         ·cases e
       have hM0h:∀ b x,mh b=some x→M0 b=some x:=fun b x e=>mrg_some e
       refine MRel.glue2 hM0 hM1 hf.size ex ex1 (fun b Lb e=>?_) (fun b=>mh b=none∧β b≠none) (fun b blk Lb hb e=>?_) (fun b blk Lb b0 blk0 L0 hmb hb e hnF hF0 hb0 e0 hoo=>?_)
       ·simp only[β2] at e
        split at e
        ·exact .inr e
        ·exact .inl e
       ·obtain⟨k,hk,hk1,hk2,hAt⟩:=hm' b blk hb
        have hAt:At l.length bar tgt MM L' k b blk:=hAt
        obtain⟨h2,h3⟩:=hbars k hk1 hk2
        have hsi:=hbi k hk h2 h3
        by_cases hnew:NN i≤b∧b<NN (i+1)
        ·skip
         simp only[β2] at e
         rw[if_pos hnew] at e
         refine .inl ⟨?_,e,fun hF=>hF.2 (hnone b hnew.1 hnew.2)⟩
         have key:MM (i+1) b=some blk→mh' b=some blk:=fun e=>by
          rcases hv.out b blk e with⟨h6,_⟩|⟨_,h6⟩|⟨_,h6⟩
          ·omega
          ·exact h6
          ·exact h6
         apply key
         have hnoi:b∉tgt i:=fun ht=>by have:=hTlt b ht;omega
         have hnoL:∀ j,Wr l.length bar tgt k b j→j≠i→L' j=true→False:=fun j hw hji e2 =>
          absurd (hnone b hnew.1 hnew.2) (hI.sdv j b hw.1 (by show L j=true;rw[←hne j hji];exact e2) hw.2.1)
         rcases hAt with⟨j,hw,hLj,hpre,h6⟩|⟨j,hw,hdn,_⟩|⟨hnw,h6⟩
         ·have h7:=hS.tlt' hw.1 hw.2.1
          have hij:i<j:=by
           rcases Nat.lt_or_ge i j with h8|h8
           ·exact h8
           ·have:=hmono i h8 (Nat.le_of_lt hil');omega
          refine hS.down hbq hnew.2 j (by omega) (by have:=hw.1;omega) (fun x h1 h2=>hquiet x hij h1 h2 hsi hw fun hwx=>?_) h6
          have:=hpre x hwx h2
          exact hnoL x hwx (by omega) this
         ·exact(hnoL j hw (by intro e;subst e;exact hnoi hw.2.1) (hdn j hw)).elim
         ·rcases Nat.lt_or_ge i k with h7|h7
          ·have hbx:∀ y,i<y→y<k→bar y=false:=fun y h8 h9=>by
            cases e2:bar y with
            | false=>rfl
            | true=>exact absurd ⟨h8,h9⟩ (hsi y e2).1
           refine hS.down hbq hnew.2 k (by omega) hk (fun x h1 h2=>⟨hbx x (by omega) h2,fun e3=>hnw x ⟨by omega,e3,fun y hy=>⟨fun h8=>?_,fun h8=>by omega⟩⟩⟩) h6
           rw[hbx y (by omega) h8.2] at hy;cases hy
          ·have h8:=(hS.mlt k hk b blk h6).1
           have:=@hmono k i h7 (Nat.le_of_lt hil')
           omega
        ·simp only[β2] at e
         rw[if_neg hnew] at e
         have hβ1:b<NN i→β1 b=some Lb:=fun h4=>he.old b Lb (by simp only[cut];rw[if_pos h4];exact e)
         by_cases hbT:b∈tgt i
         ·skip
          have hlt:=hTlt b hbT
          have hwi:Wr l.length bar tgt k b i:=⟨hil',hbT,hsi⟩
          have h6:MM (i+1) b=some blk:=hwT b blk k hbT hsi hAt
          obtain⟨x,hx⟩:=(hv.tgt b hbT).2.2.2.1
          refine .inl ⟨?_,hβ1 hlt,fun hF=>by rw[hF.1] at hx;cases hx⟩
          rcases hv.out b blk h6 with⟨_,h7,_⟩|⟨_,h7⟩|⟨_,h7⟩
          ·exact absurd hbT h7
          ·exact h7
          ·exact h7
         ·cases hmb:mh b with
          | some x =>
            have hlt:b<NN i:=(hMl b x hmb).1
            refine .inl ⟨?_,hβ1 hlt,fun hF=>nomatch hF.1⟩
            have hnw:∀ j,¬ Wr l.length bar tgt k b j:=fun j=>hnt b x hmb hbT j k hsi
            have h6:MM k b=some blk:=by
             rcases hAt with⟨j,hw,_⟩|⟨j,hw,_⟩|⟨_,h6⟩
             ·exact(hnw j hw).elim
             ·exact(hnw j hw).elim
             ·exact h6
            have hx:=hv.sub b x hmb
            have hnj:∀ j,j<l.length→b∈tgt j→¬ SameSeg bar j k:=fun j hj ht hs=>hnw j ⟨hj,ht,hs⟩
            have hxe:x=blk:=by
             rcases Nat.lt_or_ge i k with h7|h7
             ·have hbx:∀ y,i≤y→y<k→bar y=false:=fun y h8 h9=>by
               by_cases hy:y=i
               ·subst hy;exact hbar'
               ·cases e2:bar y with
                | false=>rfl
                | true=>exact absurd ⟨by omega,h9⟩ (hsi y e2).1
              have h8:=hS.down hbq hlt k (by omega) hk (fun y h1 h2=>⟨hbx y h1 h2,fun e3=>hnj y (by omega) e3 fun z hz=>⟨fun h8=>?_,fun h8=>by omega⟩⟩) h6
              ·rw[hx] at h8;cases h8;rfl
              ·rw[hbx z (by omega) h8.2] at hz;cases hz
             ·have hlk:b<NN k:=(hS.mlt k hk b blk h6).1
              have hbx:∀ y,k≤y→y<i→bar y=false:=fun y h8 h9=>by
               cases e2:bar y with
               | false=>rfl
               | true=>exact absurd ⟨h8,by omega⟩ (hsi y e2).2
              have h8:=hS.down hbq hlk i (by omega) (by omega) (fun y h1 h2=>⟨hbx y h1 h2,fun e3=>hnj y (by omega) e3 fun z hz=>⟨fun h8=>by omega,fun h8=>?_⟩⟩) hx
              ·rw[h6] at h8;cases h8;rfl
              ·rw[hbx z (by omega) (by omega)] at hz;cases hz
            rw[←hxe];exact hv.keep b x hmb hbT
          | none =>
            have hm0:M0 b=some blk:=by
             show mrg mh _ b=some blk
             rw[mrg_none hmb,if_pos (by rw[e];rfl)];exact hb
            refine .inr ⟨⟨rfl,by rw[e];simp⟩,hm0,e,?_⟩
            refine hf.block Lb.B (hM0.bound b Lb e) fun b1 L1 q1 q2 q3 q4=>?_
            obtain⟨x,hx1,hx2⟩:=q2
            exact hM0.apart b1 b x blk L1 Lb (hM0h b1 x hx1) hx2 (cutb b1 L1 q1).1 hm0 e (fun e1=>by subst e1;rw[hmb] at hx1;cases hx1)
       ·skip
        have hne0:∀ b1 x,mh b1=some x→b1≠b0:=fun b1 x hx e1=>by subst e1;rw[hF0.1] at hx;cases hx
        by_cases hnew:NN i≤b∧b<NN (i+1)
        ·rcases he.fresh b Lb e (by simp only[cut];rw[if_neg (by omega)]) with h4|⟨b1,L1,h5,⟨x,h6,h6'⟩,h7,h8,h9⟩
         ·have:=hM0.bound b0 L0 e0;omega
         ·have:=hM0.apart b1 b0 x blk0 L1 L0 (hM0h b1 x h6) h6' (cutb b1 L1 h5).1 hb0 e0 (hne0 b1 x h6)
          omega
        ·have h3:β1 b=cut β (NN i) b:=by
          by_cases e3:β1 b=cut β (NN i) b
          ·exact e3
          ·exact absurd (he.only b e3) hnew
         rw[e] at h3
         obtain⟨h4,hlt⟩:=cutb b Lb h3.symm
         obtain⟨x,hx⟩:∃ x,mh b=some x:=by
          cases e1:mh b with
          | some x=>exact⟨x,rfl⟩
          | none=>exact absurd ⟨e1,by rw[h4];simp⟩ hnF
         rcases hoo with ho1|ho1
         ·refine hM0.apart b b0 x blk0 Lb L0 (hM0h b x hx) ?_ h4 hb0 e0 (hne0 b x hx)
          by_cases hbT:b∈tgt i
          ·obtain⟨k,hk,hk1,hk2,hAt⟩:=hm' b blk hmb
           have hAt:At l.length bar tgt MM L' k b blk:=hAt
           obtain⟨h2,h3⟩:=hbars k hk1 hk2
           have h6:MM (i+1) b=some blk:=hwT b blk k hbT (hbi k hk h2 h3) hAt
           obtain⟨y,hy1,hy2⟩:=hv.own b hlt ⟨blk,h6,ho1⟩
           rw[hv.sub b x hx] at hy1;cases hy1;exact hy2
          ·have:=hv.keep b x hx hbT
           rw[hb] at this;cases this;exact ho1
         ·exact(hM0.apart b0 b blk0 x L0 Lb hb0 ho1 e0 (hM0h b x hx) h4 (Ne.symm (hne0 b x hx))).symm
      ·intro j b hj hLj ht
       by_cases hji:j=i
       ·subst hji
        obtain⟨_,_,_,_,s,ad,hs,hab,hsp,hlead⟩:=hv.tgt b ht
        have hvs:=hvt s (by simp [IOp.names,hs])
        have:∃ Lb,β b=some Lb:=by
         obtain⟨ab,ao,asp⟩:=ad
         simp only at hab hsp
         subst hab hsp
         rcases hlead with hl|⟨ln,cp,hl⟩
         ·rw[hl] at hvs
          generalize a.tmps.getD s undef=r at hvs
          cases hvs with|ptr e=>exact⟨_,e⟩
         ·rw[hl] at hvs
          generalize a.tmps.getD s undef=r at hvs
          cases hvs with|slice e _ _=>exact⟨_,e⟩
        obtain⟨Lb,e⟩:=this
        rw[ex b Lb e];simp
       ·have:=hI.sdv j b hj (by show L j=true;rw[←hne j hji];exact hLj) ht
        cases e:β b with
        | none=>exact absurd e this
        | some Lb=>rw[ex b Lb e];simp
     have hti:tgt i=[]:=by rcases hact with⟨_,h,_⟩|⟨_,h,_⟩ <;> exact h
     have hAtL:∀ k b blk,At l.length bar tgt MM L' k b blk→At l.length bar tgt MM L k b blk:=by
      intro k b blk hAt
      exact hAt.less fun j hw=>(hne j (by intro e;subst e;have:=hw.2.1;rw[hti] at this;cases this)).symm
     have hPlc:∀ b blk,Plc l.length bar tgt MM L' b blk→Plc l.length bar tgt MM L b blk:=by
      rintro b blk ⟨k,hk,hk1,hk2,hAt⟩
      obtain⟨h2,h3⟩:=hbars k hk1 hk2
      exact⟨k,hk,h2,h3,hAtL k b blk hAt⟩
     have hsdv':∀ (β2:Inj),Ext0 β β2→∀ j b,j<l.length→L' j=true→b∈tgt j→β2 b≠none:=by
      intro β2 hex j b hj hLj ht
      have hji:j≠i:=by intro e;subst e;rw[hti] at ht;cases ht
      have:=hI.sdv j b hj (by show L j=true;rw[←hne j hji];exact hLj) ht
      cases e:β b with
      | none=>exact absurd e this
      | some Lb=>rw[hex b Lb e];simp
     unfold wpOp
     rw[ho]
     rcases hact with⟨⟨g,b,hgd,hsk⟩,_,hv0,hm0,hn0⟩|⟨hgd,_,mi,mi',hopS,hQt⟩
     ·have hwn:=hwant.2.2 g b hgd hsk
      simp only[]
      rw[if_neg (by rw[hwn];decide)]
      have hvu:VRel no β (VV i) undef:=by rw[hv0];exact VRel.tuple rfl fun i x y hx=>by simp at hx
      refine ih _ β w _ hsz' hcnt ⟨?_,?_,hclosed',?_,hI.ext,hI.frm,?_,hsdv' β (fun _ _ h=>h),slots' β undef (fun _ _ h=>h) hvu⟩
      ·exact((⟨hI.size,hI.defers,fun t=>hI.slots t⟩:FRel no nt β (lv (TM 0) d VV L l.length) a)).put hdlt hvu |>.size
      ·exact((⟨hI.size,hI.defers,fun t=>hI.slots t⟩:FRel no nt β (lv (TM 0) d VV L l.length) a)).put hdlt hvu |>.defers
      ·intro b hb
       rcases hI.dom b hb with h2|⟨k,hk,hLk,h2,h3⟩
       ·exact .inl h2
       ·exact .inr ⟨k,hk,hsub k hLk,h2,h3⟩
      ·intro m' hm'
       exact hI.mem m' fun b blk e=>hPlc b blk (hm' b blk e)
     ·have hwn:Region.wanted o (yielded ops a.tmps)=true:=by
       cases e:io.g with
       | none=>exact hwant.1 e
       | some p=>obtain⟨g,b⟩:=p;exact hwant.2.1 g b e (hgd g b e)
      simp only[]
      rw[if_pos hwn]
      obtain⟨hQ1,hQ2⟩:=hQt.2.1 (by rw[hq,hbar'];rfl)
      rw[hq,hbar'] at hopS
      have hMi:MRel no β mi w:=by
       refine hI.mem _ fun b blk e=>⟨i,Nat.le_of_lt hil',hel1,hel2,.inr (.inr ⟨fun j hw=>?_,(hQ1 b blk e).1⟩)⟩
       obtain⟨hj,ht,hs⟩:=hw
       obtain⟨jo,hjo⟩:∃ jo,l[j]?=some jo:=⟨_,List.getElem?_eq_getElem hj⟩
       obtain⟨_,hjq',_,mhj,mhj',_,hvj⟩:=hS.hv hjo ht
       have hHj:=(hvj.tgt b ht).1
       rcases Nat.lt_trichotomy j i with h2|h2|h2
       ·have hjq:bar j=false:=by
         have:=hbq j jo hjo
         rw[hjq'] at this
         simpa using this.symm
        refine(hQ1 b blk e).2 ((hS.segs hbq i (by omega) (by omega) fun x h3 h4=>?_).1 b hHj)
        by_cases hxj:x=j
        ·subst hxj;exact hjq
        ·cases e2:bar x with
         | false=>exact e2
         | true=>exact absurd ⟨Nat.lt_of_le_of_ne h3 (Ne.symm hxj),h4⟩ (hs x e2).1
       ·subst h2;rw[hti] at ht;cases ht
       ·rcases(hS.segs hbq (i:=i) j (by omega) (by omega) fun x h3 h4=>by
         cases e2:bar x with
         | false=>exact e2
         | true=>exact absurd ⟨h3,Nat.le_of_lt h4⟩ (hs x e2).2).2.1 b hHj with h3|h3
        ·exact(hQ1 b blk e).2 h3
        ·have:=(hS.mlt i (Nat.le_of_lt hil') b blk (hQ1 b blk e).1).1;omega
      have hcb:BLt (cut β (NN i)) (NN i):=fun b hb=>by simp only[cut];rw[if_neg (by omega)]
      have hTi:=hS.tlt i (Nat.le_of_lt hil')
      have hMl:MLt mi (NN i):=(hS.mlt i (Nat.le_of_lt hil')).sub fun b x e=>(hQ1 b x e).1
      refine .inl (hopS nt o (cut β (NN i)) w a _ Q hop hcall hcb ⟨hI.size,hI.defers,fun t ht=>(hvt t (by simp [IOp.names,ht])).cut (hTi t)⟩ (hMi.cut hMl) ?_)
      intro rv β1 w1 he hv hM1 hf
      have he:Ext (cut β (NN i)) β1 mi (NN i) (NN i) (NN (i+1)) w:=he
      have hf:Frm (cut β (NN i)) mi (NN i) (NN i) w w1:=hf
      have hnone:∀ b,NN i≤b→b<NN (i+1)→β b=none:=by
       intro b h2 h3
       cases e:β b with
       | none=>rfl
       | some Lb =>
         rcases hI.dom b (by rw[e];simp) with h4|⟨k,hk,hLk,h4,h5⟩
         ·have:=hmono i (Nat.zero_le _) (Nat.le_of_lt hil');omega
         ·have hki:k≠i:=by intro e;subst e;exact hcon _ hLk hLi0
          rcases Nat.lt_or_ge k i with h6|h6
          ·have:=@hmono (k+1) i (by omega) (Nat.le_of_lt hil');omega
          ·have:=@hmono (i+1) k (by omega) (Nat.le_of_lt hk);omega
      let β2:Inj:=fun b=>if NN i≤b∧b<NN (i+1) then β1 b else β b
      have ex:Ext0 β β2:=by
       intro b Lb e
       simp only[β2]
       split
       ·rename_i h2;rw[hnone b h2.1 h2.2] at e;cases e
       ·exact e
      have ex1:Ext0 β1 β2:=by
       intro b Lb e
       simp only[β2]
       split
       ·exact e
       ·rename_i h2
        have h3:β1 b=cut β (NN i) b:=by
         by_cases e3:β1 b=cut β (NN i) b
         ·exact e3
         ·exact absurd (he.only b e3) h2
        rw[e] at h3
        simp only[cut] at h3
        split at h3
        ·exact h3.symm
        ·cases h3
      have hfr:∀ b Lb,NN i≤b→b<NN (i+1)→β1 b=some Lb→w.heap.size≤Lb.B:=by
       intro b Lb h2 h3 e
       rcases he.fresh b Lb e (by simp only[cut];rw[if_neg (by omega)]) with h4|⟨b0,L0,_,_,h5,h6,_⟩
       ·exact h4
       ·omega
      have hblk:∀ B,B<w.heap.size→w1.heap[B]?=w.heap[B]?:=fun B hB=>hf.block B hB fun b L _ _ h2 h3=>by omega
      refine ih _ β2 w1 _ hsz' hcnt ⟨?_,?_,hclosed',?_,?_,?_,?_,hsdv' β2 ex,slots' β2 rv ex (hv.mono ex1)⟩
      ·exact((⟨hI.size,hI.defers,fun t=>hI.slots t⟩:FRel no nt β (lv (TM 0) d VV L l.length) a).mono ex).put hdlt (hv.mono ex1) |>.size
      ·exact((⟨hI.size,hI.defers,fun t=>hI.slots t⟩:FRel no nt β (lv (TM 0) d VV L l.length) a).mono ex).put hdlt (hv.mono ex1) |>.defers
      ·intro b hb
       by_cases h2:NN i≤b∧b<NN (i+1)
       ·exact .inr ⟨i,hil',hLi1,h2.1,h2.2⟩
       ·simp only[β2] at hb
        rw[if_neg h2] at hb
        rcases hI.dom b hb with h2|⟨k,hk,hLk,h2,h3⟩
        ·exact .inl h2
        ·exact .inr ⟨k,hk,hsub k hLk,h2,h3⟩
      ·refine⟨fun b Lb e=>ex b Lb (hI.ext.old b Lb e),fun b e=>?_,fun b Lb e e0=>?_⟩
       ·by_cases h2:NN i≤b∧b<NN (i+1)
        ·have h3:=hmono i (Nat.zero_le _) (Nat.le_of_lt hil')
         have h4:=@hmono (i+1) l.length (by omega) (Nat.le_refl _)
         omega
        ·simp only[β2] at e
         rw[if_neg h2] at e
         exact hI.ext.only b e
       ·by_cases h2:NN i≤b∧b<NN (i+1)
        ·simp only[β2] at e
         rw[if_pos h2] at e
         have:=hfr b Lb h2.1 h2.2 e
         have:=hI.frm.size
         exact .inl (by omega)
        ·simp only[β2] at e
         rw[if_neg h2] at e
         exact hI.ext.fresh b Lb e e0
      ·have h2:=hI.frm
       refine⟨hf.os.trans h2.os,hf.tape.trans h2.tape,hf.output.trans h2.output,Nat.le_trans h2.size hf.size,fun B hB hne'=>?_⟩
       rw[hblk B (Nat.lt_of_lt_of_le hB h2.size),h2.block B hB hne']
      ·intro m' hm'
       have hMk:=hI.mem m' fun b blk e=>hPlc b blk (hm' b blk e)
       refine hMk.glue hM1 hf.size hblk ?_ (fun _=>rfl) hfr ex ex1
       intro b blk h4 h5 hb
       obtain⟨k,hk,hk1,hk2,hAt⟩:=hm' b blk hb
       have hAt:At l.length bar tgt MM L' k b blk:=hAt
       obtain⟨h2,h3⟩:=hbars k hk1 hk2
       have hsi:=hbi k hk h2 h3
       have key:MM (i+1) b=some blk→mi' b=some blk:=fun e=>by
        rcases hQ2 b blk e with⟨h6,_⟩|⟨_,h6⟩
        ·omega
        ·exact h6
       apply key
       have hnoi:b∉tgt i:=fun ht=>by rw[hti] at ht;cases ht
       have hnoL:∀ j,Wr l.length bar tgt k b j→j≠i→L' j=true→False:=fun j hw hji e2 =>
        absurd (hnone b h4 h5) (hI.sdv j b hw.1 (by show L j=true;rw[←hne j hji];exact e2) hw.2.1)
       rcases hAt with⟨j,hw,hLj,hpre,h6⟩|⟨j,hw,hdn,_⟩|⟨hnw,h6⟩
       ·have h7:=hS.tlt' hw.1 hw.2.1
        have hij:i<j:=by
         rcases Nat.lt_or_ge i j with h8|h8
         ·exact h8
         ·have:=hmono i h8 (Nat.le_of_lt hil');omega
        refine hS.down hbq h5 j (by omega) (by have:=hw.1;omega) (fun x h1 h2=>hquiet x hij h1 h2 hsi hw fun hwx=>?_) h6
        have:=hpre x hwx h2
        exact hnoL x hwx (by omega) this
       ·exact(hnoL j hw (by intro e;subst e;exact hnoi hw.2.1) (hdn j hw)).elim
       ·rcases Nat.lt_or_ge i k with h7|h7
        ·have hbx:∀ y,i<y→y<k→bar y=false:=fun y h8 h9=>by
          cases e2:bar y with
          | false=>rfl
          | true=>exact absurd ⟨h8,h9⟩ (hsi y e2).1
         refine hS.down hbq h5 k (by omega) hk (fun x h1 h2=>⟨hbx x (by omega) h2,fun e3=>hnw x ⟨by omega,e3,fun y hy=>⟨fun h8=>?_,fun h8=>by omega⟩⟩⟩) h6
         rw[hbx y (by omega) h8.2] at hy;cases hy
        ·have h8:=(hS.mlt k hk b blk h6).1
         have:=@hmono k i h7 (Nat.le_of_lt hil')
         omega
end
end Go.Proofs.YtoppcdecolponaaGreat.AL
namespace Go.Proofs.YtoppcdecolponaaGreat.AL
open Go
set_option linter.unusedVariables false
set_option linter.unusedSimpArgs false
variable {no : No} {P : Program}
def resOne (tmps:Array Value):ResultVar→Sem Value
 | .tmp t=>pure (tmps.getD t undef)
 | .cell a t=>do loadVar t (←asAddr (tmps.getD a undef))
theorem results_eq (f:Func) (tmps:Array Value):results f tmps=(do
 let vs ←f.results.mapM (resOne tmps)
 pure (if h:vs.size=1 then vs[0] else .tuple vs)):=by
 unfold results
 congr 1
theorem resOne_sim {nt:Nat} {β:Inj} {tm:Tm} {a:Act} {m:Mem} {w:World} (hF:FRel no nt β tm a) (hM:MRel no β m w) {x:ResultVar} {r:RV} (hc:cR P x=some r) {v:Value} (hv:retv1 tm m r=some v) :
 ∃ rv,(resOne a.tmps x).run P w=.ok rv w∧VRel no β v rv:=by
 cases x with
 | tmp t =>
   simp only[cR,Option.some.injEq] at hc
   subst hc
   simp only[retv1,Option.some.injEq] at hv
   subst hv
   exact⟨_,by simp [resOne],hF.slots t⟩
 | cell t ty =>
   simp only[cR,Option.bind_eq_bind,Option.bind_eq_some_iff] at hc
   obtain⟨b,hb,hc⟩:=hc
   have hs:=hF.slots t
   cases b with
   | true =>
     simp only[if_true,Option.bind_eq_some_iff,Option.some.injEq] at hc
     obtain⟨k,hk,rfl⟩:=hc
     simp only[retv1] at hv
     split at hv
     ·rename_i ad he
      split at hv
      ·rename_i us hu
       simp only[Option.some.injEq] at hv
       subst hv
       rw[he] at hs
       obtain⟨ra,hra⟩:=ptr_of hs
       rw[hra] at hs
       obtain⟨rs,hrun,hl,hsz,hrel⟩:=rdn_sim P hM hs hu
       refine⟨.agg rs,?_,.agg (by simp [hl,hsz]) fun i x y hx hy=>hrel i x y (by simpa using hx) hy⟩
       simp only[resOne,hra]
       simp [asAddr,loadVar,run_aggT hb,run_sizeT hk,hrun]
      ·cases hv
     ·cases hv
   | false =>
     simp only[Bool.false_eq_true,if_false,Option.some.injEq] at hc
     subst hc
     simp only[retv1] at hv
     split at hv
     ·rename_i ad he
      rw[he] at hs
      obtain⟨ra,hra⟩:=ptr_of hs
      rw[hra] at hs
      obtain⟨r,hr,hrel⟩:=rd_sim hM hs hv
      refine⟨r,?_,hrel⟩
      simp only[resOne,hra]
      simp [asAddr,loadVar,run_aggT hb,hr]
     ·cases hv
theorem retvs_sim {nt:Nat} {β:Inj} {tm:Tm} {a:Act} {m:Mem} {w:World} (hF:FRel no nt β tm a) (hM:MRel no β m w):∀ (xs:List ResultVar) (rs:List RV) (vs:List Value),xs.mapM (cR P)=some rs→retvs tm m rs=some vs →
 ∃ out:List Value,(xs.mapM (resOne a.tmps)).run P w=.ok out w∧out.length=vs.length∧∀ (i:Nat) x y,vs[i]?=some x→out[i]?=some y→VRel no β x y
 | [],rs,vs,h,hv=>by
   simp at h;subst h
   simp only[retvs,Option.some.injEq] at hv
   subst hv
   exact⟨[],by simp,rfl,fun i x y hx=>by simp at hx⟩
 | x::xs,rs,vs,h,hv=>by
   simp only[List.mapM_cons,Option.bind_eq_bind,Option.bind_eq_some_iff,Option.pure_def,Option.some.injEq] at h
   obtain⟨r,hr,rs',hrs,rfl⟩:=h
   simp only[retvs] at hv
   split at hv
   ·rename_i v vs' h1 h2
    simp only[Option.some.injEq] at hv
    subst hv
    obtain⟨rv,e1,e2⟩:=resOne_sim hF hM hr h1
    obtain⟨out,e3,e4,e5⟩:=retvs_sim hF hM xs rs' vs' hrs h2
    refine⟨rv::out,by simp [List.mapM_cons,e1,e3],by simp [e4],fun i x y hx hy=>?_⟩
    cases i with
    | zero=>simp at hx hy;subst hx;subst hy;exact e2
    | succ i=>exact e5 i x y (by simpa using hx) (by simpa using hy)
   ·cases hv
theorem results_sim {nt:Nat} {β:Inj} {tm:Tm} {a:Act} {m:Mem} {w:World} (hF:FRel no nt β tm a) (hM:MRel no β m w) {f:Func} {res:List RV} (hc:f.results.toList.mapM (cR P)=some res) {v:Value} (hv:retv res tm m=some v) :
 ∃ rv,(results f a.tmps).run P w=.ok rv w∧VRel no β v rv:=by
 unfold retv at hv
 cases hvs:retvs tm m res with
 | none=>rw[hvs] at hv;cases hv
 | some vs =>
   obtain⟨out,e1,e2,e3⟩:=retvs_sim hF hM f.results.toList res vs hc hvs
   rw[hvs] at hv
   rw[results_eq,Array.mapM_eq_mapM_toList]
   have hrel:∀ (i:Nat) x y,vs.toArray[i]?=some x→out.toArray[i]?=some y→VRel no β x y:=fun i x y hx hy=>e3 i x y (by simpa using hx) (by simpa using hy)
   by_cases h1:vs.length=1
   ·obtain⟨x,rfl⟩:=List.length_eq_one_iff.1 h1
    simp only[Option.some.injEq] at hv
    subst hv
    obtain⟨y,rfl⟩:=List.length_eq_one_iff.1 (e2.trans h1)
    exact⟨y,by simp [e1],e3 0 x y rfl rfl⟩
   ·have hv':v=.tuple vs.toArray:=by
     split at hv
     ·rename_i x h2;simp only[Option.some.injEq] at h2;subst h2;exact absurd rfl h1
     ·rename_i vs' _ h2;simp only[Option.some.injEq] at h2 hv;subst h2;exact hv.symm
     ·rename_i h2;cases h2
    subst hv'
    refine⟨.tuple out.toArray,?_,.tuple (by simp [e2]) hrel⟩
    have:¬ out.length=1:=by omega
    simp [e1,this]
def exR:Ex→Exit
 | .normal=>.normal
 | .exit i=>.exit i
 | .ret=>.ret
def wpx (P:Program) (k:Nat) (c:Code) (Q:Exit→Act→World→Prop) (a:Act) (w:World):Prop:=
 match c with
 | .loop c=>Code.rounds P c Q k a w
 | c=>c.wp P Q a w
theorem wpx.wp {k:Nat} {c:Code} {Q:Exit→Act→World→Prop} {a:Act} {w:World} (h:wpx P k c Q a w):c.wp P Q a w:=by
 cases c with
 | loop c=>exact wp_loop_rounds k h
 | _=>exact h
def SemC (P:Program) (no:No) (bs:Nat) (c:C) (tm:Tm) (m:Mem) (n:Nat) (e:Ex) (tm1:Tm) (m1:Mem) (n1:Nat):Prop:=
 ∃ k,∀ (nt:Nat) (code:Code) (β:Inj) (w:World) (a:Act) (Q:Exit→Act→World→Prop),cC P no nt code=some c→BLt β n→FRel no nt β tm a→MRel no β m w →
     (∀ β1 a' w',Ext β β1 m bs n n1 w→FRel no nt β1 tm1 a'→MRel no β1 m1 w'→Frm β m bs n w w'→Q (exR e) a' w')→wpx P k code Q a w
def Hdj (h:Mem) (X:Xs) (m:Mem) (n:Nat):Prop:=(∀ b x,h b=some x→m b=none)∧∀ b,XIn X b→b<n∧m b=none
def Hdn (h:Mem) (X:Xs):Nat→Prop:=fun b=>h b≠none∨XIn X b
def Sem1 (P:Program) (no:No) (bs:Nat):Task→Mem→Nat→Res→Mem→Nat→Prop
 | .code c tm,m,n,.exit e tm1,m1,n1=>SemC P no bs c tm m n e tm1 m1 n1
 | .ops l tm,m,n,.exit e tm1,m1,n1=>e=.normal∧∃ m2,TrL P no bs (fun _=>False) [] l tm m n tm1 m2 n1∧sub m1 m2
 | .opsH h X l tm,m,n,.exit e tm1,m1,n1=>Hdj h X m n→e=.normal∧∃ m2,TrL P no bs (Hdn h X) X l tm (mrg h m) n tm1 m2 n1∧sub m1 m2
 | .call f args,m,n,.ret v,m1,n1=>CallSim P no bs f args m n v m1 n1
 | _,_,_,_,_,_=>True
theorem BLt.none {β:Inj} {n n1:Nat} (h:BLt β n):∀ b,n≤b→b<n1→β b=none:=fun b hb _=>h b hb
theorem cC_code {nt:Nat} {code:Code} {c:C} (h:cC P no nt code=some c) :
 match c with
 | .skip=>code=.skip
 | .rg l=>∃ id ops draw,code=.region id ops draw∧cL P no nt ops draw=some l
 | .seq a b=>∃ x y,code=.seq x y∧cC P no nt x=some a∧cC P no nt y=some b
 | .cond e a b=>∃ o x y,code=.cond o x y∧cE no o=some e∧cC P no nt x=some a∧cC P no nt y=some b
 | .block i a=>∃ x,code=.block i x∧cC P no nt x=some a
 | .loop a=>∃ x,code=.loop x∧cC P no nt x=some a
 | .exit i=>code=.exit i
 | .ret=>code=.ret:=by
 cases code with
 | skip=>simp only[cC,Option.some.injEq] at h;subst h;rfl
 | region id ops draw =>
   simp only[cC,Option.map_eq_some_iff] at h
   obtain⟨l,hl,rfl⟩:=h
   exact⟨_,_,_,rfl,hl⟩
 | seq x y =>
   simp only[cC,Option.bind_eq_bind,Option.bind_eq_some_iff,Option.some.injEq] at h
   obtain⟨a,ha,b,hb,rfl⟩:=h
   exact⟨_,_,rfl,ha,hb⟩
 | cond o x y =>
   simp only[cC,Option.bind_eq_bind,Option.bind_eq_some_iff,Option.some.injEq] at h
   obtain⟨e,he,a,ha,b,hb,rfl⟩:=h
   exact⟨_,_,_,rfl,he,ha,hb⟩
 | block i x =>
   simp only[cC,Option.bind_eq_bind,Option.bind_eq_some_iff,Option.some.injEq] at h
   obtain⟨a,ha,rfl⟩:=h
   exact⟨_,rfl,ha⟩
 | loop x =>
   simp only[cC,Option.bind_eq_bind,Option.bind_eq_some_iff,Option.some.injEq] at h
   obtain⟨a,ha,rfl⟩:=h
   exact⟨_,rfl,ha⟩
 | exit i=>simp only[cC,Option.some.injEq] at h;subst h;rfl
 | ret=>simp only[cC,Option.some.injEq] at h;subst h;rfl
 | _=>simp [cC] at h
theorem FRel.less {nt:Nat} {β:Inj} {tm tm2:Tm} {a:Act} (h:FRel no nt β tm a) (h2:∀ t,tm2 t=junk∨tm2 t=tm t):FRel no nt β tm2 a:=
 ⟨h.size,h.defers,fun t=>by
   rcases h2 t with e|e
   ·rw[e];exact .junk
   ·rw[e];exact h.slots t⟩
theorem MRel.back {β β1:Inj} {m m1:Mem} {w w1:World} (h:MRel no β m w) (h1:MRel no β1 m1 w1) (hs:sub m m1) (e:Ext0 β β1):MRel no β m w1:=by
 refine⟨fun b L hb=>h1.bound b L (e _ _ hb),fun b blk L hb eb i v hv=>?_,fun b blk L hb eb ho=>h1.own b blk L (hs _ _ hb) (e _ _ eb) ho,fun b blk L hb eb ho=>h.ro b blk L hb eb ho,
  fun b b' blk blk' L L' hb ho eb hb' eb' hne=>h.apart b b' blk blk' L L' hb ho eb hb' eb' hne,h1.kept,fun b blk L hb eb ho=>h.ownS b blk L hb eb ho⟩
 obtain⟨r0,hr0,hv0⟩:=h.cells b blk L hb eb i v hv
 obtain⟨r1,hr1,hv1⟩:=h1.cells b blk L (hs _ _ hb) (e _ _ eb) i v hv
 exact⟨r1,hr1,hv0.back e hv1⟩
theorem MRel.drawn {β:Inj} {m:Mem} {w:World} {k:Nat} (h:MRel no β m w):MRel no β m { w with drawn:=k }:=
 ⟨h.bound,fun b blk L hb e i v hv=>by
   obtain⟨r,hr,hrel⟩:=h.cells b blk L hb e i v hv
   exact⟨r,hr,hrel⟩,h.own,h.ro,h.apart,h.kept,h.ownS⟩
theorem mapM_zip {nt:Nat} {ops:Array Oper}:∀ {lo:List Oper} {l:List IOp},lo.mapM (cI P no nt ops false)=some l→CompL P no nt ops lo l
 | [],l,h=>by simp at h;subst h;trivial
 | o::lo,l,h=>by
   simp only[List.mapM_cons,Option.bind_eq_bind,Option.bind_eq_some_iff,Option.pure_def,Option.some.injEq] at h
   obtain⟨io,hio,l',hl,rfl⟩:=h
   exact⟨hio,mapM_zip hl⟩
theorem mapM_at {α γ:Type} {f:α→Option γ}:∀ {xs:List α} {ys:List γ},xs.mapM f=some ys→ys.length=xs.length∧∀ (i:Nat) (x:α) (y:γ),xs[i]?=some x→ys[i]?=some y→f x=some y
 | [],ys,h=>by simp at h;subst h;simp
 | x::xs,ys,h=>by
   simp only[List.mapM_cons,Option.bind_eq_bind,Option.bind_eq_some_iff,Option.pure_def,Option.some.injEq] at h
   obtain⟨y,hy,ys',hys,rfl⟩:=h
   obtain⟨h1,h2⟩:=mapM_at hys
   refine⟨by simp [h1],fun i a b ha hb=>?_⟩
   cases i with
   | zero=>simp at ha hb;subst ha;subst hb;exact hy
   | succ i=>exact h2 i a b (by simpa using ha) (by simpa using hb)
theorem region_sim (hm:P.follows .mixedOrders=true) {bs n n1:Nat} {l:List IOp} {tm tm1:Tm} {m m1:Mem} {H:Nat→Prop} {X:Xs} (h:TrL P no bs H X l tm m n tm1 m1 n1) {nt:Nat} {id:Nat} {ops:Array Oper} {draw:Bool} (hc:cL P no nt ops draw=some l)
 {β:Inj} {w:World} {a:Act} {Q:Exit→Act→World→Prop} (hβ:BLt β n) (hF:FRel no nt β tm a) (hM:MRel no β m w)
 (hQ:∀ β1 a' w',Ext β β1 m bs n n1 w→FRel no nt β1 tm1 a'→MRel no β1 m1 w'→Frm β m bs n w w'→Q .normal a' w'):(Code.region id ops draw).wp P Q a w:=by
 cases draw with
 | false =>
   simp only[cL,Bool.false_eq_true,if_false] at hc
   exact wp_region_list (tr_text h nt ops ops.toList (mapM_zip hc) β w a Q hβ hF hM hQ)
 | true =>
   simp only[cL,if_true,Option.bind_eq_some_iff] at hc
   obtain⟨l',hl,hc⟩:=hc
   split at hc
   ·rename_i hck
    simp only[Option.some.injEq] at hc
    subst hc
    simp only[Bool.and_eq_true] at hck
    obtain⟨hlen,hat⟩:=mapM_at hl
    have hlen':l'.length=ops.size:=by simpa using hlen
    obtain⟨TM,MM,NN,VV,HH,XX,tgt,e1,e2,e3,e7,e8,e4,e5,e6,hS⟩:=tr_steps h
    subst e1 e2 e3
    refine wp_region_any hm ?_
    refine tr_draw hS (nt:=nt) hlen' (fun i o io ho hio=>?_) hck.1 hck.2.1 hck.2.2 (β0:=β) (w0:={ w with drawn:=w.drawn+1 }) hβ (Q:=Q) ?_ ops.size _ β _ a (by simp) ?_ ?_
    ·have:=hat i (o,i) io (by rw[List.getElem?_zipIdx];simp [ho]) hio
     exact this
    ·intro β1 a' w' he hF1 hM1 hf
     rw[e4] at hF1;rw[e5] at hM1;rw[e6] at he
     exact hQ β1 a' w' ⟨he.old,he.only,he.fresh⟩ hF1 hM1 ⟨hf.os,hf.tape,hf.output,hf.size,hf.block⟩
    ·exact Nat.le_trans (cnt_le ..) (by omega)
    ·have hno:∀ k,(Array.replicate ops.size false).getD k false=false:=by
      intro k
      simp only[Array.getD_eq_getD_getElem?,Array.getElem?_replicate]
      split <;> rfl
     have hlv:∀ k t,lv (TM 0) (fun i=>(l'[i]?).bind (·.d)) VV (fun k=>(Array.replicate ops.size false).getD k false) k t=TM 0 t:=by
      intro k t
      induction k with
      | zero=>rfl
      | succ k ih=>simp only[lv];rw[if_neg (by rw[hno];decide)];exact ih
     refine⟨hF.size,hF.defers,fun j k _ h2 _=>absurd h2 (by rw[hno];decide),fun b hb=>.inl ?_,Ext.refl ..,Frm.refl ..,fun m' hm'=>?_,fun j b _ h2 _=>absurd h2 (by rw[hno];decide),fun t=>?_⟩
     ·rcases Nat.lt_or_ge b (NN 0) with h2|h2
      ·exact h2
      ·exact absurd (hβ b h2) hb
     ·skip
      have hbq:∀ i io,l'[i]?=some io→io.q = !barrier ops (Region.before ops) i:=by
       intro i io hio
       have hil:i<l'.length:=(List.getElem?_eq_some_iff.1 hio).1
       have h3:=hat i (ops[i],i) io (by rw[List.getElem?_zipIdx];simp) hio
       exact(cI_inv h3).2.2.2.1
      refine(hM.drawn).ofDom fun b L blk e hb=>?_
      have hb0:b<NN 0:=by
       rcases Nat.lt_or_ge b (NN 0) with h2|h2
       ·exact h2
       ·rw[hβ b h2] at e;cases e
      obtain⟨k,hk,hk1,_,hAt⟩:=hm' b blk hb
      have hnb:∀ j,j<k→barrier ops (Region.before ops) j=false:=by
       intro j hj
       cases e:barrier ops (Region.before ops) j with
       | false=>rfl
       | true=>have h9:(Array.replicate ops.size false).getD j false=true:=hk1 j hj e;rw[hno] at h9;cases h9
      rcases hAt with⟨j,hw,_,hpre,h6⟩|⟨j,hw,hdn,_⟩|⟨hnw,h6⟩
      ·obtain⟨hj,ht,hs⟩:=hw
       have hbx:∀ y,y<j→barrier ops (Region.before ops) y=false:=fun y h4=>by
        rcases Nat.lt_or_ge y k with h5|h5
        ·exact hnb y h5
        ·cases e2:barrier ops (Region.before ops) y with
         | false=>rfl
         | true=>exact absurd ⟨h5,Nat.le_of_lt h4⟩ (hs y e2).2
       refine hS.down hbq hb0 j (by omega) (by omega) (fun x h1 h2=>⟨hbx x h2,fun e3=>?_⟩) h6
       have h9:(Array.replicate ops.size false).getD x false=true:=hpre x ⟨by omega,e3,fun y hy=>⟨fun h5=>?_,fun h5=>?_⟩⟩ h2
       ·rw[hno] at h9;cases h9
       ·rw[hnb y h5.2] at hy;cases hy
       ·rw[hbx y (by omega)] at hy;cases hy
      ·have h9:(Array.replicate ops.size false).getD j false=true:=hdn j hw
       rw[hno] at h9;cases h9
      ·refine hS.down hbq hb0 k (by omega) hk (fun x h1 h2=>⟨hnb x h2,fun e3=>hnw x ⟨by omega,e3,fun y hy=>⟨fun h8=>?_,fun h8=>by omega⟩⟩⟩) h6
       rw[hnb y h8.2] at hy;cases hy
     ·rw[hlv];exact hF.slots t
   ·cases hc
theorem qt_keep {q:Bool} {n:Nat} {m m2:Mem} (hdm:∀ b,b<n→Own m2 b→Own m b) (h:q=true→∀ b blk,b<n→m2 b=some blk→m b=some blk):Qt q n (fun _=>False) m m m2 m2:=
 ⟨fun _=>⟨rfl,rfl⟩,⟨fun hq=>⟨fun b x e=>⟨e,fun h=>h⟩,fun b x e=>by
   rcases Nat.lt_or_ge b n with h2|h2
   ·exact .inl ⟨h2,h hq b x h2 e⟩
   ·exact .inr ⟨h2,e⟩⟩,hdm⟩⟩
theorem Big.enter {G:Prg} (hL:Link P no G) {bs f:Nat} {args:List Value} {m:Mem} {n:Nat} {r:Res} {m1:Mem} {n1:Nat} (h:Big G bs (.call f args) m n r m1 n1):∀ fr,no fr=some f→∀ (rargs:Array Value) (w:World),(callFunc fr rargs).run P w=.ok (.enter fr rargs) w:=by
 have:∀ {bs T m n r m1 n1},Big G bs T m n r m1 n1→∀ f args,T=.call f args→∀ fr,no fr=some f→∀ (rargs:Array Value) (w:World),(callFunc fr rargs).run P w=.ok (.enter fr rargs) w:=by
  intro bs T m n r m1 n1 h
  induction h with
  | call hf =>
    intro f args e fr hno rargs w
    cases e
    obtain⟨pf,hpf,hcf⟩:=(hL.1 _ _ hf).2 fr hno
    exact call_enter hpf hcf rargs w
  | callS _ _ _ ih=>intro f args e;exact ih f args e
  | callN hv=>intro f args e fr hno rargs w;cases e;exact(hL.2.1 _ _ _ hv fr hno).1 rargs w
  | callJ hv =>
    intro f args e fr hno rargs w;cases e
    obtain⟨rfl,_⟩:=natJ_inv hv
    exact(hL.2.2 fr hno).1 rargs w
  | drop _ _ ih=>intro f args e;exact ih f args e
  | _=>intro f args e;cases e
 exact this h f args rfl
theorem MRel.grow {β:Inj} {m:Mem} {w w':World} (h:MRel no β m w) (hb:Go.RowKit.Below w.heap.size w w'):MRel no β m w':=
 ⟨fun b L e=>Nat.lt_of_lt_of_le (h.bound b L e) hb.size,fun b blk L hk e i v hv=>by
   obtain⟨r,h1,h2⟩:=h.cells b blk L hk e i v hv
   exact⟨r,by rw[World.cell?_of_block (w:=w) (hb.block _ (h.bound b L e))];exact h1,h2⟩,
  fun b blk L hk e ho=>by rw[hb.block _ (h.bound b L e)];exact h.own b blk L hk e ho,h.ro,h.apart,
  ⟨Nat.le_trans h.kept.1 hb.size,fun B hB=>by rw[hb.block B (Nat.lt_of_lt_of_le hB h.kept.1)];exact h.kept.2 B hB⟩,h.ownS⟩
theorem nat_rargs {β:Inj} {f:Nat} {args:List Value} {v:Value} {rargs:Array Value} (h:nat f args=some v) (hsz:rargs.size=args.length) (hrel:∀ (i:Nat) x y,args[i]?=some x→rargs[i]?=some y→VRel no β x y):rargs=args.toArray:=by
 apply Array.ext
 ·simpa using hsz
 ·intro i h1 h2
  have h3:i<args.length:=by simpa using h2
  have:=hrel i args[i] rargs[i] (List.getElem?_eq_getElem h3) (Array.getElem?_eq_getElem h1)
  have key:rargs[i]=args[i]:=by
   rcases nat_args h args[i] (List.getElem_mem h3) with⟨s,e⟩|⟨k,n,e⟩
   ·rw[e] at this ⊢
    revert this;generalize rargs[i]=y;intro this;cases this;rfl
   ·rw[e] at this ⊢
    revert this;generalize rargs[i]=y;intro this;cases this;rfl
  simpa using key
theorem qt_hid {n:Nat} {h m m1:Mem} {X:Xs} (hd:Hdj h X m n) (hk:∀ b blk,b<n→m1 b=some blk→m b=some blk) (hh:∀ b x,h b=some x→b<n) (hdm:∀ b,b<n→Own m1 b→Own m b):Qt true n (Hdn h X) (mrg h m) m m1 (mrg h m1):=by
 refine⟨fun e=>absurd e (by decide),fun _=>⟨fun b x e=>?_,fun b x e=>?_⟩,fun b hb e=>own_mrg (hdm b hb) e⟩
 ·cases e1:h b with
  | some y=>rw[hd.1 b y e1] at e;cases e
  | none =>
    refine⟨by rw[mrg_none e1];exact e,fun h=>?_⟩
    rcases h with h|h
    ·exact h e1
    ·have:=(hd.2 b h).2;rw[this] at e;cases e
 ·rcases mrg_inv e with e1|⟨e0,e1⟩
  ·exact .inl ⟨hh b x e1,mrg_some e1⟩
  ·rcases Nat.lt_or_ge b n with h2|h2
   ·exact .inl ⟨h2,by rw[mrg_none e0];exact hk b x h2 e1⟩
   ·exact .inr ⟨h2,e1⟩
theorem hid_disj {n n1:Nat} {h m m1:Mem} {X:Xs} (hn:n≤n1) (hd:Hdj h X m n) (hk:∀ b blk,b<n→m1 b=some blk→m b=some blk) (hh:∀ b x,h b=some x→b<n):Hdj h X m1 n1:=by
 have gen:∀ b,b<n→m b=none→m1 b=none:=by
  intro b hb e
  cases e1:m1 b with
  | none=>rfl
  | some y=>have:=hk b y hb e1;rw[e] at this;cases this
 exact⟨fun b x e=>gen b (hh b x e) (hd.1 b x e),fun b hb=>⟨by have:=(hd.2 b hb).1;omega,gen b (hd.2 b hb).1 (hd.2 b hb).2⟩⟩
theorem HvR.hv {o:O} {tm:Tm} {n:Nat} {h m mh mh' h2 m2:Mem} {X:Xs} {T:List Nat} (hv:HvR o tm n h X T m mh mh' h2 m2) (hd:Hdj h X m n) (hh:MLt h n) (ho:∀ b,b<n→Own mh' b→Own mh b) :
 Hv o tm n (Hdn h X) X T (mrg h m) mh mh' (mrg h2 m2):=by
 have hm0:∀ b x,m b=some x→h b=none:=fun b x e=>by
  cases e1:h b with
  | none=>rfl
  | some y=>rw[hd.1 b y e1] at e;cases e
 refine⟨fun b x e=>?_,fun b x e=>?_,fun b hb=>?_,hv.keep,fun b x e=>?_,hv.ownB ho⟩
 ·rcases hv.sub b x e with⟨_,e1⟩|e1
  ·exact mrg_some e1
  ·rw[mrg_none (hm0 b x e1)];exact e1
 ·rcases hv.sub b x e with⟨e1,_⟩|e1
  ·exact .inl e1
  ·refine .inr fun h1=>?_
   rcases h1 with h1|h1
   ·exact h1 (hm0 b x e1)
   ·have:=(hd.2 b h1).2;rw[this] at e1;cases e1
 ·obtain⟨h1,_,⟨x,h3,h4⟩,h5⟩:=hv.tgt b hb
  exact⟨.inl (by rw[h3];simp),h1,(hh b x h3).1,⟨x,h4⟩,h5⟩
 ·rcases mrg_inv e with e1|⟨e0,e1⟩
  ·rcases hv.outH b x e1 with⟨h1,h2,h3⟩|⟨h1|h1,h2⟩
   ·exact .inl ⟨h1,h2,mrg_some h3⟩
   ·exact .inr (.inl ⟨h1,h2⟩)
   ·exact .inr (.inr ⟨h1,h2⟩)
  ·rcases hv.outM b x e1 with⟨h1,h2⟩|⟨h1,h2⟩
   ·refine .inl ⟨h1,fun hT=>?_,by rw[mrg_none (hm0 b x h2)];exact h2⟩
    have:=(hv.tgt b hT).2.1;rw[this] at h2;cases h2
   ·exact .inr (.inr ⟨h1,h2⟩)
theorem HvR.dj {o:O} {tm:Tm} {n n1:Nat} {h m mh mh' h2 m2:Mem} {X:Xs} {T:List Nat} (hv:HvR o tm n h X T m mh mh' h2 m2) (hn:n≤n1) (hd:Hdj h X m n) (hh:MLt h n):Hdj h2 (XAdd o T X) m2 n1:=by
 refine⟨hv.dis,fun b hb=>?_⟩
 have key:b<n∧m b=none:=by
  rcases XAdd.xin.1 hb with h1|h1
  ·obtain⟨_,h2,⟨x,h3,_⟩,_⟩:=hv.tgt b h1
   exact⟨(hh b x h3).1,h2⟩
  ·exact hd.2 b h1
 refine⟨by omega,?_⟩
 cases e:m2 b with
 | none=>rfl
 | some x =>
   rcases hv.outM b x e with⟨_,h2⟩|⟨h2,_⟩
   ·rw[key.2] at h2;cases h2
   ·omega
theorem HvR.nx {o:O} {tm:Tm} {n:Nat} {h m mh mh' h2 m2:Mem} {X:Xs} {T:List Nat} {q:Bool} (hv:HvR o tm n h X T m mh mh' h2 m2):Nx q n (Hdn h X) X (Hdn h2 (XAdd o T X)) (XAdd o T X):=by
 refine fun _=>⟨fun b hb=>?_,fun b hb=>?_,fun p hb=>XAdd.mem.2 (.inr hb)⟩
 ·rcases hb with hb|hb
  ·by_cases hT:b∈T
   ·exact .inr (XAdd.xin.2 (.inl hT))
   ·cases e:h b with
    | none=>exact absurd e hb
    | some x=>exact .inl (by rw[hv.stay b x e hT];simp)
  ·exact .inr (XAdd.xin.2 (.inr hb))
 ·have hT:b∈T→h b≠none:=fun h1=>by
   obtain⟨_,_,⟨x,h3,_⟩,_⟩:=hv.tgt b h1
   rw[h3];simp
  rcases hb with hb|hb
  ·cases e:h2 b with
   | none=>exact absurd e hb
   | some x =>
     rcases hv.outH b x e with⟨_,_,h3⟩|⟨h1|h1,_⟩
     ·exact .inl (.inl (by rw[h3];simp))
     ·exact .inl (.inl (hT h1))
     ·exact .inr h1
  ·rcases XAdd.xin.1 hb with h1|h1
   ·exact .inl (.inl (hT h1))
   ·exact .inl (.inr h1)
theorem offG.guard {o:IOp} {tm:Tm} (h:offG o tm):∃ g b,o.g=some (g,b)∧((∃ c,tm g=.bool c∧c≠b)∨∃ vs,tm g=.tuple vs):=h
theorem at_leads {io:O} {tm:Tm} {s:Nat} {a:Addr} (h:io.at tm=some (s,a)) {bs n:Nat} {m m1:Mem} {v:Value} {n1:Nat} (hs:stepO bs io tm m n=some (v,m1,n1)):Leads io tm a.block:=by
 cases io with
 | st x v =>
   cases x with
   | k c=>simp [O.at] at h
   | t s' =>
     simp only[O.at] at h
     split at h
     ·rename_i ad hts
      cases h
      refine⟨s,a,by simp [O.slots,E.slots],rfl,?_,.inl hts⟩
      cases hsp:a.spot with
      | none=>rfl
      | some k=>simp [stepO,E.ev,hts,AL.wr,hsp] at hs
     ·cases h
 | stn k x v =>
   cases x with
   | k c=>simp [O.at] at h
   | t s' =>
     simp only[O.at] at h
     split at h
     ·rename_i ad hts
      cases h
      refine⟨s,a,by simp [O.slots,E.slots],rfl,?_,.inl hts⟩
      cases hsp:a.spot with
      | none=>rfl
      | some k =>
        simp only[stepO,E.ev,hts] at hs
        split at hs
        ·rename_i a2 vs e1 e2
         cases e1
         split at hs
         ·simp [AL.wrn,hsp] at hs
         ·cases hs
        ·cases hs
     ·cases h
 | _=>simp [O.at] at h
theorem lgt_step {bs n n1:Nat} {o:O} {tm:Tm} {m m1:Mem} {v:Value} (hs:stepO bs o tm m n=some (v,m1,n1)) (h:o.lgt=true):m1=m∧n1=n∧∀ bs' m' n',stepO bs' o tm m' n'=some (v,m',n'):=by
 cases o with
 | mv x =>
   simp only[stepO,Option.some.injEq,Prod.mk.injEq] at hs
   obtain⟨rfl,rfl,rfl⟩:=hs
   exact⟨rfl,rfl,fun _ _ _=>rfl⟩
 | ext i x =>
   simp only[stepO] at hs
   split at hs
   ·rename_i vs hx
    split at hs
    ·rename_i u hu
     simp only[Option.some.injEq,Prod.mk.injEq] at hs
     obtain⟨rfl,rfl,rfl⟩:=hs
     exact⟨rfl,rfl,fun _ _ _=>by simp only[stepO,hx,hu]⟩
    ·cases hs
   ·cases hs
 | _=>cases h
theorem callee_lgt {o:O} {tm:Tm} {p:Nat×List Value} (h:o.callee tm=some p):o.lgt=false:=by
 cases o <;> first|rfl|(simp [O.callee] at h;done)
theorem stepA_lgt {bs n n1:Nat} {o:O} {tm:Tm} {m m1:Mem} {v:Value} (hs:stepA bs o tm m n=some (v,m1,n1)):o.lgt=false:=by
 obtain⟨sz,x,lo,hi,a,len,cap,h,l,b,e,_⟩:=stepA_inv hs
 subst e;rfl
theorem at_lgt {o:O} {tm:Tm} {p:Nat×Addr} (h:o.at tm=some p):o.lgt=false:=by
 cases o <;> first|rfl|(simp [O.at] at h;done)
theorem big_sim {G:Prg} (hm:P.follows .mixedOrders=true) (hL:Link P no G) {bs:Nat} {T:Task} {m:Mem} {n:Nat} {r:Res} {m1:Mem} {n1:Nat} (h:Big G bs T m n r m1 n1):T.okT G=true→T.lt n→MLt m n→Sem1 P no bs T m n r m1 n1:=by
 have hG:∀ f fn,G f=some fn→fn.body.ok=true:=fun f fn hf=>(hL.1 f fn hf).1
 have hL0:=hL.2.2
 induction h with
 | @skip bs tm m n =>
   intro _ hT hM
   refine show SemC .. from⟨0,fun nt code β w a Q hc hβ hF hMR hQ=>?_⟩
   obtain rfl:code=.skip:=cC_code hc
   exact wp_skip (hQ β a w (Ext.refl ..) hF hMR (Frm.refl ..))
 | @ret bs tm m n =>
   intro _ hT hM
   refine show SemC .. from⟨0,fun nt code β w a Q hc hβ hF hMR hQ=>?_⟩
   obtain rfl:code=.ret:=cC_code hc
   exact wp_ret (hQ β a w (Ext.refl ..) hF hMR (Frm.refl ..))
 | @exit bs tm m n i =>
   intro _ hT hM
   refine show SemC .. from⟨0,fun nt code β w a Q hc hβ hF hMR hQ=>?_⟩
   obtain rfl:code=.exit i:=cC_code hc
   exact wp_exit (hQ β a w (Ext.refl ..) hF hMR (Frm.refl ..))
 | @seqN bs ca cb tm m n tm1 m1 n1 r m2 n2 h1 h2 ih1 ih2 =>
   intro ho hT hM
   have ho':=ho
   simp only[Task.okT,C.ok,Bool.and_eq_true] at ho'
   obtain⟨l1,l2,l3⟩:=h1.lt hG ho'.1 hT hM
   obtain⟨k0,s1⟩:=ih1 ho'.1 hT hM
   have s2:=ih2 ho'.2 l2 l3
   have k1:=h1.keep.1
   have k2:=h2.keep.1
   cases r with
   | ret=>trivial
   | exit e tm2 =>
     obtain⟨k3,s2⟩:=s2
     refine show SemC .. from⟨0,fun nt code β w a Q hc hβ hF hMR hQ=>?_⟩
     obtain⟨x,y,rfl,hx,hy⟩:=cC_code hc
     refine wp_seq (s1 nt x β w a _ hx hβ hF hMR fun β1 a' w' he hF1 hM1 hf=>?_).wp
     refine(s2 nt y β1 w' a' Q hy (hβ.ext he k1) hF1 hM1 fun β2 a2 w2 he2 hF2 hM2 hf2=>?_).wp
     exact hQ β2 a2 w2 (he.trans he2 h1.own k1 k2 hf.size hβ.none) hF2 hM2 (hf.trans he hf2 h1.own hβ.none)
 | @seqE bs ca cb tm m n e tm1 m1 n1 h1 hne ih =>
   intro ho hT hM
   have ho':=ho
   simp only[Task.okT,C.ok,Bool.and_eq_true] at ho'
   obtain⟨k0,s1⟩:=ih ho'.1 hT hM
   refine show SemC .. from⟨0,fun nt code β w a Q hc hβ hF hMR hQ=>?_⟩
   obtain⟨x,y,rfl,hx,hy⟩:=cC_code hc
   refine wp_seq (s1 nt x β w a _ hx hβ hF hMR fun β1 a' w' he hF1 hM1 hf=>?_).wp
   have:=hQ β1 a' w' he hF1 hM1 hf
   cases e with
   | normal=>exact absurd rfl hne
   | exit i=>exact this
   | ret=>exact this
 | @cond bs c ca cb tm m n t r m1 n1 hct h1 ih =>
   intro ho hT hM
   have ho':=ho
   simp only[Task.okT,C.ok,Bool.and_eq_true] at ho'
   have s1:=ih (by cases t;exact ho'.2;exact ho'.1.2) hT hM
   cases r with
   | ret=>trivial
   | exit e tm2 =>
     obtain⟨k0,s1⟩:=s1
     refine show SemC .. from⟨0,fun nt code β w a Q hc hβ hF hMR hQ=>?_⟩
     obtain⟨o,x,y,rfl,he,hx,hy⟩:=cC_code hc
     have hv:=E.sim hF he
     rw[hct] at hv
     have hv':a.eval o=.bool t:=by generalize a.eval o=z at hv;cases hv;rfl
     refine wp_cond hv' ?_
     refine(s1 nt (if t=true then x else y) β w a Q ?_ hβ hF hMR hQ).wp
     cases t
     ·exact hy
     ·exact hx
 | @block bs i c tm m n e tm1 m1 n1 h1 ih =>
   intro ho hT hM
   obtain⟨k0,s1⟩:=ih ho hT hM
   refine show SemC .. from⟨0,fun nt code β w a Q hc hβ hF hMR hQ=>?_⟩
   obtain⟨x,rfl,hx⟩:=cC_code hc
   refine wp_block (s1 nt x β w a _ hx hβ hF hMR fun β1 a' w' he hF1 hM1 hf=>?_).wp
   have:=hQ β1 a' w' he hF1 hM1 hf
   cases e with
   | normal=>exact this
   | ret=>exact this
   | exit j =>
     simp only[Ex.out] at this
     show if j=i then Q .normal a' w' else Q (.exit j) a' w'
     by_cases e:j=i
     ·rw[if_pos e] at this ⊢;exact this
     ·rw[if_neg e] at this ⊢;exact this
 | @loopN bs c tm m n tm1 m1 n1 r m2 n2 h1 h2 ih1 ih2 =>
   intro ho hT hM
   obtain⟨l1,l2,l3⟩:=h1.lt hG ho hT hM
   obtain⟨k0,s1⟩:=ih1 ho hT hM
   have s2:=ih2 ho l2 l3
   have k1:=h1.keep.1
   have k2:=h2.keep.1
   cases r with
   | ret=>trivial
   | exit e tm2 =>
     obtain⟨k3,s2⟩:=s2
     refine show SemC .. from⟨k3+1,fun nt code β w a Q hc hβ hF hMR hQ=>?_⟩
     have hc':=hc
     obtain⟨x,rfl,hx⟩:=cC_code hc
     refine(s1 nt x β w a (Exit.then (Code.rounds P x Q k3) Q) hx hβ hF hMR fun β1 a' w' he hF1 hM1 hf=>?_).wp
     exact s2 nt (.loop x) β1 w' a' Q hc' (hβ.ext he k1) hF1 hM1 fun β2 a2 w2 he2 hF2 hM2 hf2=>hQ β2 a2 w2 (he.trans he2 h1.own k1 k2 hf.size hβ.none) hF2 hM2 (hf.trans he hf2 h1.own hβ.none)
 | @loopE bs c tm m n e tm1 m1 n1 h1 hne ih =>
   intro ho hT hM
   obtain⟨k0,s1⟩:=ih ho hT hM
   refine show SemC .. from⟨1,fun nt code β w a Q hc hβ hF hMR hQ=>?_⟩
   obtain⟨x,rfl,hx⟩:=cC_code hc
   refine(s1 nt x β w a _ hx hβ hF hMR fun β1 a' w' he hF1 hM1 hf=>?_).wp
   have:=hQ β1 a' w' he hF1 hM1 hf
   cases e with
   | normal=>exact absurd rfl hne
   | exit i=>exact this
   | ret=>exact this
 | @rg bs l tm m n tm1 m1 n1 h1 ih =>
   intro ho hT hM
   obtain⟨_,m2,htr,hsub⟩:=ih ho hT hM
   refine show SemC .. from⟨0,fun nt code β w a Q hc hβ hF hMR hQ=>?_⟩
   obtain⟨id,ops,draw,rfl,hl⟩:=cC_code hc
   exact region_sim hm htr hl hβ hF hMR fun β1 a' w' he hF1 hM1 hf=>hQ β1 a' w' he hF1 (hM1.mono hsub) hf
 | @opsNil bs tm m n=>intro _ hT hM;exact⟨rfl,m,.nil hT hM,fun _ _ h=>h⟩
 | @opsSkip bs o l tm m n g b c r m1 n1 hg hv hne h1 ih =>
   intro ho hT hM
   simp only[Task.okT,List.all_cons,Bool.and_eq_true] at ho
   have s1:=ih ho.2 (TLt.put hT _ nov_lt) hM
   cases r with
   | ret=>trivial
   | exit e tm2 =>
     obtain⟨he,m2,htr,hsub⟩:=s1
     exact⟨he,m2,.skip hg (.inl ⟨c,hv,hne⟩) hT hM (fun _=>⟨fun b h=>h,fun b h=>.inl h,fun b h=>h⟩) htr,hsub⟩
 | @opsNone bs o l tm m n g b vs r m1 n1 hg hv h1 ih =>
   intro ho hT hM
   simp only[Task.okT,List.all_cons,Bool.and_eq_true] at ho
   have s1:=ih ho.2 (TLt.put hT _ nov_lt) hM
   cases r with
   | ret=>trivial
   | exit e tm2 =>
     obtain⟨he,m2,htr,hsub⟩:=s1
     exact⟨he,m2,.skip hg (.inr ⟨vs,hv⟩) hT hM (fun _=>⟨fun b h=>h,fun b h=>.inl h,fun b h=>h⟩) htr,hsub⟩
 | @opsPure bs o l tm m n v m1 n1 r m2 n2 hg hs h1 ih =>
   intro ho hT hM
   simp only[Task.okT,List.all_cons,Bool.and_eq_true] at ho
   obtain⟨l1,l2,l3⟩:=step_lt ho.1 hs hT hM
   have s1:=ih ho.2 (TLt.put (hT.mono l1) _ l2) l3
   cases r with
   | ret=>trivial
   | exit e tm2 =>
     obtain⟨he,m2,htr,hsub⟩:=s1
     refine⟨he,m2,.step hg (OpS.pure hM hs) l1 (qt_keep (step_own hs) fun hq b blk hb e=>?_) hT hM (fun _=>⟨fun b h=>h,fun b h=>.inl h,fun b h=>h⟩) (fun e=>(lgt_step hs e).2) htr,hsub⟩
     rw[hq] at hs
     exact(step_keep hs).2 b blk hb hb e
 | @opsAlt bs o l tm m n v m1 n1 r m2 n2 hg hq hs h1 ih =>
   intro ho hT hM
   simp only[Task.okT,List.all_cons,Bool.and_eq_true] at ho
   obtain⟨l1,l2,l3⟩:=stepA_lt hs hM
   have s1:=ih ho.2 (TLt.put (hT.mono l1) _ l2) l3
   cases r with
   | ret=>trivial
   | exit e tm2 =>
     obtain⟨he,m3,htr,hsub⟩:=s1
     exact⟨he,m3,.step hg (by rw[hq];exact OpS.alt hM hs) l1 ⟨fun _=>⟨rfl,rfl⟩,fun e=>absurd e (by rw[hq];decide),stepA_own hs⟩ hT hM (fun _=>⟨fun b h=>h,fun b h=>.inl h,fun b h=>h⟩) (fun e=>by rw[stepA_lgt hs] at e;cases e) htr,hsub⟩
 | @opsCall bs o l tm m n f args v m1 n1 r m2 n2 hg hcal h1 h2 ih1 ih2 =>
   intro ho hT hM
   simp only[Task.okT,List.all_cons,Bool.and_eq_true] at ho
   have la:=callee_lt ho.1 hT hcal
   obtain⟨l1,l2,l3⟩:=h1.lt hG rfl la hM
   have s1:=ih1 rfl la hM
   have s2:=ih2 ho.2 (TLt.put (hT.mono l1) _ l2) l3
   cases r with
   | ret=>trivial
   | exit e tm2 =>
     obtain⟨he,m2,htr,hsub⟩:=s2
     have HE:=h1.enter hL
     refine⟨he,m2,.step hg (OpS.call HE hcal s1) l1 (qt_keep h1.own fun hq b blk hb e=>?_) hT hM (fun _=>⟨fun b h=>h,fun b h=>.inl h,fun b h=>h⟩) (fun e=>by rw[callee_lgt hcal] at e;cases e) htr,hsub⟩
     have:=h1.keep.2 b blk
     rw[if_pos hq] at this
     exact this hb hb e
 | @rgH bs h l tm m n tm1 m1 n1 hd h1 ih =>
   intro ho hT hM
   obtain⟨hh,hm0⟩:=hM.unmrg hd
   obtain⟨_,m2,htr,hsub⟩:=ih ho ⟨hT,hh⟩ hm0 ⟨hd,fun b hb=>by obtain⟨_,hb⟩:=hb;cases hb⟩
   refine show SemC .. from⟨0,fun nt code β w a Q hc hβ hF hMR hQ=>?_⟩
   obtain⟨id,ops,draw,rfl,hl⟩:=cC_code hc
   exact region_sim hm htr hl hβ hF hMR fun β1 a' w' he hF1 hM1 hf=>hQ β1 a' w' he hF1 (hM1.mono hsub) hf
 | @opsPureH bs h o l tm m n v m1 n1 r m2 n2 hg hq hs hd h1 ih =>
   intro ho hT hM
   simp only[Task.okT,List.all_cons,Bool.and_eq_true] at ho
   obtain⟨l1,l2,l3⟩:=step_lt ho.1 hs hT hM
   obtain⟨l4,l5⟩:=l3.unmrg hd
   have s1:=ih ho.2 ⟨TLt.put (hT.mono l1) _ l2,l4⟩ l5
   cases r with
   | ret=>trivial
   | exit e tm2 =>
     obtain⟨he,m3,htr,hsub⟩:=s1 ⟨hd,fun b hb=>by obtain⟨_,hb⟩:=hb;cases hb⟩
     refine⟨he,m3,.step hg (OpS.pure hM (by rw[hq];exact hs)) l1 ⟨fun _=>⟨rfl,rfl⟩,fun e=>absurd e (by rw[hq];decide),step_own hs⟩ hT hM (fun e=>by rw[hq] at e;cases e) (fun e=>(lgt_step hs e).2) htr,hsub⟩
 | @hNil bs h X tm m n=>intro _ hT hM hd;exact⟨rfl,_,.nil hT.1 (hT.2.mrg hM),fun _ _ h=>h⟩
 | @hBar bs h X o l tm m n r m1 n1 hq h1 ih =>
   intro ho hT hM
   have s1:=ih ho hT.1 (hT.2.mrg hM)
   cases r with
   | ret=>trivial
   | exit e tm2 =>
     intro hd
     obtain⟨he,m2,htr,hsub⟩:=s1
     exact⟨he,m2,htr.bar hq,hsub⟩
 | @hSkip bs h X o l tm m n r m1 n1 hq hg h1 ih =>
   intro ho hT hM
   simp only[Task.okT,List.all_cons,Bool.and_eq_true] at ho
   have s1:=ih ho.2 ⟨TLt.put hT.1 _ nov_lt,hT.2⟩ hM
   cases r with
   | ret=>trivial
   | exit e tm2 =>
     intro hd
     obtain⟨he,m2,htr,hsub⟩:=s1 hd
     obtain⟨g,b,hg1,hg2⟩:=hg
     exact⟨he,m2,.skip hg1 hg2 hT.1 (hT.2.mrg hM) (fun _=>⟨fun b h=>h,fun b h=>.inl h,fun b h=>h⟩) htr,hsub⟩
 | @hPure bs h X o l tm m n v m1 n1 r m2 n2 hq hg hs h1 ih =>
   intro ho hT hM
   simp only[Task.okT,List.all_cons,Bool.and_eq_true] at ho
   obtain⟨l1,l2,l3⟩:=step_lt ho.1 hs hT.1 hM
   have s1:=ih ho.2 ⟨TLt.put (hT.1.mono l1) _ l2,hT.2.mono l1⟩ l3
   cases r with
   | ret=>trivial
   | exit e tm2 =>
     intro hd
     have hk:∀ b blk,b<n→m1 b=some blk→m b=some blk:=fun b blk hb e=>(step_keep hs).2 b blk hb hb e
     have hh:∀ b x,h b=some x→b<n:=fun b x e=>(hT.2 b x e).1
     obtain⟨he,m3,htr,hsub⟩:=s1 (hid_disj l1 hd hk hh)
     refine⟨he,m3,.step hg (OpS.pure hM (by rw[hq];exact hs)) l1 (by rw[hq];exact qt_hid hd hk hh (step_own hs)) hT.1 (hT.2.mrg hM) (fun _=>⟨fun b h=>h,fun b h=>.inl h,fun b h=>h⟩) (fun e=>(lgt_step hs e).2) htr,hsub⟩
 | @hCall bs h X o l tm m n f args v m1 n1 r m2 n2 hq hg hcal h1 h2 ih1 ih2 =>
   intro ho hT hM
   simp only[Task.okT,List.all_cons,Bool.and_eq_true] at ho
   have la:=callee_lt ho.1 hT.1 hcal
   obtain⟨l1,l2,l3⟩:=h1.lt hG rfl la hM
   have s1:=ih1 rfl la hM
   have s2:=ih2 ho.2 ⟨TLt.put (hT.1.mono l1) _ l2,hT.2.mono l1⟩ l3
   cases r with
   | ret=>trivial
   | exit e tm2 =>
     intro hd
     have hk:∀ b blk,b<n→m1 b=some blk→m b=some blk:=fun b blk hb e=>h1.keep.2 b blk hb hb e
     have hh:∀ b x,h b=some x→b<n:=fun b x e=>(hT.2 b x e).1
     obtain⟨he,m3,htr,hsub⟩:=s2 (hid_disj l1 hd hk hh)
     have HE:=h1.enter hL
     refine⟨he,m3,.step hg (OpS.call HE hcal (by rw[hq];exact s1)) l1 (by rw[hq];exact qt_hid hd hk hh h1.own) hT.1 (hT.2.mrg hM) (fun _=>⟨fun b h=>h,fun b h=>.inl h,fun b h=>h⟩) (fun e=>by rw[callee_lgt hcal] at e;cases e) htr,hsub⟩
 | @opsNewH bs o l tm m n v blk r m2 n2 hg hq hs h1 ih =>
   intro ho hT hM
   simp only[Task.okT,List.all_cons,Bool.and_eq_true] at ho
   obtain⟨l1,l2,l3⟩:=step_lt ho.1 hs hT hM
   have hh1:MLt (upd (fun _=>none) n (some blk)) (n+1):=by
    intro b x e
    simp only[upd] at e
    split at e
    ·rename_i hb;subst hb;cases e;exact l3 b _ (by simp [upd])
    ·exact nomatch e
   have s1:=ih ho.2 ⟨TLt.put (hT.mono l1) _ l2,hh1⟩ (hM.mono l1)
   cases r with
   | ret=>trivial
   | exit e tm2 =>
     have hmn:m n=none:=hM.fresh n (Nat.le_refl _)
     have hd1:∀ b x,upd (fun _=>none) n (some blk) b=some x→m b=none:=by
      intro b x e
      simp only[upd] at e
      split at e
      ·rename_i hb;subst hb;exact hmn
      ·cases e
     obtain⟨he,m3,htr,hsub⟩:=s1 ⟨hd1,fun b hb=>by obtain⟨_,hb⟩:=hb;cases hb⟩
     have hmm:∀ b x,mrg (upd (fun _=>none) n (some blk)) m b=some x→(b<n∧m b=some x)∨(n≤b∧upd m n (some blk) b=some x):=by
      intro b x e
      rcases mrg_inv e with e5|⟨e0,e5⟩
      ·by_cases hb:b=n
       ·subst hb;exact .inr ⟨Nat.le_refl _,by simp only[upd,if_pos] at e5 ⊢;exact e5⟩
       ·simp only[upd,if_neg hb] at e5
        cases e5
      ·by_cases hb:b=n
       ·subst hb;simp [upd] at e0
       ·simp only[upd,if_neg hb] at e0
        exact .inl ⟨(hM b x e5).1,e5⟩
     refine⟨he,m3,.step (H':=Hdn (upd (fun _=>none) n (some blk)) []) (X':=[]) hg (OpS.pure hM (by rw[hq];exact hs)) l1 ⟨fun e=>absurd e (by rw[hq];decide),fun _=>⟨fun b x e=>?_,hmm⟩,fun b hb e=>own_mrgU (h:=fun _=>none) (by omega) e⟩ hT hM (fun _=>⟨fun b hb=>?_,fun b hb=>?_,fun b h=>h⟩) (fun e=>(lgt_step hs e).2) htr,hsub⟩
     ·exact⟨e,fun h=>h⟩
     ·exact hb.elim
     ·rcases hb with hb|⟨_,hb⟩
      ·simp only[upd] at hb;split at hb
       ·exact .inr (by omega)
       ·exact absurd rfl hb
      ·cases hb
 | @hNew bs h X o l tm m n v blk r m2 n2 hq hg hs h1 ih =>
   intro ho hT hM
   simp only[Task.okT,List.all_cons,Bool.and_eq_true] at ho
   obtain⟨l1,l2,l3⟩:=step_lt ho.1 hs hT.1 hM
   have hh1:MLt (upd h n (some blk)) (n+1):=by
    intro b x e
    simp only[upd] at e
    split at e
    ·rename_i hb;subst hb;cases e;exact l3 b _ (by simp [upd])
    ·exact(hT.2.mono l1) b x e
   have s1:=ih ho.2 ⟨TLt.put (hT.1.mono l1) _ l2,hh1⟩ (hM.mono l1)
   cases r with
   | ret=>trivial
   | exit e tm2 =>
     intro hd
     have hmn:m n=none:=hM.fresh n (Nat.le_refl _)
     have hh:∀ b x,h b=some x→b<n:=fun b x e=>(hT.2 b x e).1
     have hd1:∀ b x,upd h n (some blk) b=some x→m b=none:=by
      intro b x e
      simp only[upd] at e
      split at e
      ·rename_i hb;subst hb;exact hmn
      ·exact hd.1 b x e
     obtain⟨he,m3,htr,hsub⟩:=s1 ⟨hd1,fun b hb=>⟨by have:=(hd.2 b hb).1;omega,(hd.2 b hb).2⟩⟩
     have hmm:∀ b x,mrg (upd h n (some blk)) m b=some x→(b<n∧mrg h m b=some x)∨(n≤b∧upd m n (some blk) b=some x):=by
      intro b x e
      rcases mrg_inv e with e5|⟨e0,e5⟩
      ·by_cases hb:b=n
       ·subst hb;exact .inr ⟨Nat.le_refl _,by simp only[upd,if_pos] at e5 ⊢;exact e5⟩
       ·simp only[upd,if_neg hb] at e5
        exact .inl ⟨hh b x e5,mrg_some e5⟩
      ·by_cases hb:b=n
       ·subst hb;simp [upd] at e0
       ·simp only[upd,if_neg hb] at e0
        exact .inl ⟨(hM b x e5).1,by rw[mrg_none e0];exact e5⟩
     refine⟨he,m3,.step (H':=Hdn (upd h n (some blk)) X) (X':=X) hg (OpS.pure hM (by rw[hq];exact hs)) l1 ⟨fun e=>absurd e (by rw[hq];decide),fun _=>⟨fun b x e=>?_,hmm⟩,fun b hb e=>own_mrgU (by omega) e⟩ hT.1 (hT.2.mrg hM) (fun _=>⟨fun b hb=>?_,fun b hb=>?_,fun b h=>h⟩) (fun e=>(lgt_step hs e).2) htr,hsub⟩
     ·cases e1:h b with
      | some y=>rw[hd.1 b y e1] at e;cases e
      | none =>
        refine⟨by rw[mrg_none e1];exact e,fun h=>?_⟩
        rcases h with h|h
        ·exact h e1
        ·have:=(hd.2 b h).2;rw[this] at e;cases e
     ·rcases hb with hb|hb
      ·refine .inl ?_
       simp only[upd];split
       ·simp
       ·exact hb
      ·exact .inr hb
     ·rcases hb with hb|hb
      ·simp only[upd] at hb;split at hb
       ·exact .inr (by omega)
       ·exact .inl (.inl hb)
      ·exact .inl (.inr hb)
 | @hSide bs h X o l tm m n b0 blk blk1 s a v r m2 n2 hq hg hX hb hbs hat hab hst h1 ih =>
   intro ho hT hM
   simp only[Task.okT,List.all_cons,Bool.and_eq_true] at ho
   obtain⟨l1,l2,l3⟩:=step_lt ho.1 (hst _ _ hb) hT.1 hT.2
   have s1:=ih ho.2 ⟨TLt.put hT.1 _ l2,l3⟩ hM
   cases r with
   | ret=>trivial
   | exit e tm2 =>
     intro hd
     have hv:HvR o.o tm n h X [b0] m (upd (fun _=>none) b0 (some blk)) (upd (upd (fun _=>none) b0 (some blk)) b0 (some blk1)) (upd h b0 (some blk1)) m:=by
      refine⟨fun b x e=>?_,fun b hb1=>?_,fun b x e hne=>?_,fun b x e hne=>?_,fun b x e=>?_,fun b x e=>.inl ⟨(hM b x e).1,e⟩,fun b x e=>?_⟩
      ·simp only[upd] at e
       split at e
       ·rename_i hbb;subst hbb;cases e;exact .inl ⟨List.mem_singleton.2 rfl,hb⟩
       ·cases e
      ·have:=List.mem_singleton.1 hb1
       subst this
       refine⟨hX,hd.1 b _ hb,⟨blk,hb,by simp [upd]⟩,?_⟩
       rw[←hab];exact at_leads hat (hst (upd (fun _=>none) b (some blk)) n (by simp [upd]))
      ·simp only[upd] at e
       split at e
       ·rename_i hbb;exact absurd (List.mem_singleton.2 hbb) hne
       ·cases e
      ·simp only[upd];rw[if_neg fun hbb=>hne (List.mem_singleton.2 hbb)];exact e
      ·simp only[upd] at e ⊢
       split at e
       ·rename_i hbb;exact .inr ⟨.inl (List.mem_singleton.2 hbb),by rw[if_pos hbb];exact e⟩
       ·rename_i hbb;exact .inl ⟨(hT.2 b x e).1,fun h=>hbb (List.mem_singleton.1 h),e⟩
      ·simp only[upd] at e
       split at e
       ·rename_i hbb;subst hbb;exact hd.1 b _ hb
       ·exact hd.1 b x e
     have hst1:=hst (upd (fun _=>none) b0 (some blk)) n (by simp [upd])
     have hMh:=hv.lt hT.2 hM
     obtain⟨he,m3,htr,hsub⟩:=s1 (hv.dj (Nat.le_refl _) hd hT.2)
     exact⟨he,m3,.heavy (T:=[b0]) hq (at_lgt hat) hg (OpS.pure hMh hst1) (Nat.le_refl _) (hv.hv hd hT.2 (step_own hst1)) hT.1 (hT.2.mrg hM) hv.nx (fun b hb=>XAdd.mem.2 (.inl ⟨hb,rfl⟩)) htr,hsub⟩
 | @hHvO bs h X T o l tm m mh n v mh' h2 m2 n1 r m3 n3 hq hg hs hv h1 ih =>
   intro ho hT hM
   simp only[Task.okT,List.all_cons,Bool.and_eq_true] at ho
   have hMh:=hv.lt hT.2 hM
   obtain⟨l1,l2,l3⟩:=step_lt ho.1 hs hT.1 hMh
   obtain⟨l7,l8⟩:=hv.lt2 l1 hT.2 hM l3
   have s1:=ih ho.2 ⟨TLt.put (hT.1.mono l1) _ l2,l7⟩ l8
   cases r with
   | ret=>trivial
   | exit e tm2 =>
     intro hd
     obtain⟨he,m4,htr,hsub⟩:=s1 (hv.dj l1 hd hT.2)
     cases hlg:o.o.lgt with
     | false=>exact⟨he,m4,.heavy (T:=T) hq hlg hg (OpS.pure hMh hs) l1 (hv.hv hd hT.2 (step_own hs)) hT.1 (hT.2.mrg hM) hv.nx (fun b hb=>XAdd.mem.2 (.inl ⟨hb,rfl⟩)) htr,hsub⟩
     | true =>
       obtain⟨e1,e2,e3⟩:=lgt_step hs hlg
       subst e1;subst e2
       refine⟨he,m4,.step (mi:=fun _=>none) (mi':=fun _=>none) hg (OpS.pure (fun b x e=>by cases e) (e3 _ _ _)) (Nat.le_refl _) ⟨fun e=>absurd e (by rw[hq];decide),fun _=>⟨(fun b x e=>by cases e),fun b x e=>.inl ?_⟩,hv.ownB (step_own hs)⟩ hT.1 (hT.2.mrg hM) hv.nx (fun e=>(lgt_step hs e).2) htr,hsub⟩
       have hb:b<n1:=by
        rcases mrg_inv e with e|⟨_,e⟩
        ·exact(l7 b x e).1
        ·exact(l8 b x e).1
       refine⟨hb,?_⟩
       rcases hv.back hb e with e|⟨e4,e⟩
       ·exact e
       ·exact hv.row e4 e
 | @hHvC bs h X T o l tm m mh n f args v mh' h2 m2 n1 r m3 n3 hq hg hcal h1 hv h3 ih1 ih =>
   intro ho hT hM
   simp only[Task.okT,List.all_cons,Bool.and_eq_true] at ho
   have hMh:=hv.lt hT.2 hM
   have la:=callee_lt ho.1 hT.1 hcal
   obtain⟨l1,l2,l3⟩:=h1.lt hG rfl la hMh
   obtain⟨l7,l8⟩:=hv.lt2 l1 hT.2 hM l3
   have s0:=ih1 rfl la hMh
   have s1:=ih ho.2 ⟨TLt.put (hT.1.mono l1) _ l2,l7⟩ l8
   cases r with
   | ret=>trivial
   | exit e tm2 =>
     intro hd
     have HE:=h1.enter hL
     obtain⟨he,m4,htr,hsub⟩:=s1 (hv.dj l1 hd hT.2)
     exact⟨he,m4,.heavy (T:=T) hq (callee_lgt hcal) hg (OpS.call HE hcal s0) l1 (hv.hv hd hT.2 h1.own) hT.1 (hT.2.mrg hM) hv.nx (fun b hb=>XAdd.mem.2 (.inl ⟨hb,rfl⟩)) htr,hsub⟩
 | @call bs f args fn m n e tm1 m1 n1 v hf h1 hex hr ih =>
   intro _ hT hM
   have h0:TLt (tm0 args) n:=by
    intro t
    simp only[tm0,List.getD]
    cases ha:args[t]? with
    | none=>exact .junk
    | some x=>exact hT x (List.mem_of_getElem? ha)
   obtain⟨k0,s1⟩:=ih (hG _ _ hf) h0 hM
   intro β w rargs fr hno hβ hMR hsz hrel
   obtain⟨_,hlk⟩:=hL.1 f fn hf
   obtain⟨pf,hpf,hcf⟩:=hlk fr hno
   unfold cF at hcf
   simp only[Option.bind_eq_bind,Option.bind_eq_some_iff] at hcf
   obtain⟨c,hb,hcf⟩:=hcf
   split at hcf
   ·cases hcf
   ·simp only[Option.bind_eq_some_iff] at hcf
    obtain⟨body,hbody,hcf⟩:=hcf
    split at hcf
    ·simp only[Option.bind_eq_some_iff,Option.some.injEq] at hcf
     obtain⟨res,hres,rfl⟩:=hcf
     refine calls_of_wp hpf hb ?_
     refine(s1 pf.ntmps c β w _ _ hbody hβ ⟨?_,rfl,fun t=>?_⟩ hMR fun β1 a' w' he hF1 hM1 hf1=>?_).wp
     ·simp;omega
     ·simp only[tm0,List.getD]
      cases ha:args[t]? with
      | none=>exact .junk
      | some x =>
        have ht:t<args.length:=(List.getElem?_eq_some_iff.1 ha).1
        have hy:rargs[t]?=some rargs[t]:=Array.getElem?_eq_getElem (by omega)
        have:=hrel t x _ ha hy
        simp only[Option.getD_some,Array.getD_eq_getD_getElem?]
        rw[Array.getElem?_append_left (by omega),hy]
        exact this
     ·obtain⟨rv,e1,e2⟩:=results_sim hF1 hM1 hres hr
      have:a'.defers=[]∧∃ v,(results pf a'.tmps).run P w'=.ok v w'∧∃ rv β1,(Ending.returned v)=.returned rv∧VRel no β1 _ rv∧Ext β β1 m bs n n1 w∧MRel no β1 m1 w'∧Frm β m bs n w w':=
       ⟨hF1.defers,rv,e1,rv,β1,rfl,e2,he,hM1,hf1⟩
      rcases hex with rfl|rfl
      ·exact this
      ·exact this
    ·cases hcf
 | @callS bs f args m n v m1 n1 h1 hv hsub ih =>
   intro ho hT hM
   have s1:=ih ho hT hM
   intro β w rargs fr hno hβ hMR hsz hrel
   refine Calls.mono (s1 β w rargs fr hno hβ hMR hsz hrel) ?_
   rintro e w' ⟨rv,β1,rfl,hv1,he,hM1,hf⟩
   exact⟨rv,β,rfl,hv1.ofFlat hv,Ext.refl ..,hMR.back hM1 hsub he.old,hf⟩
 | @callN bs f args m n v hv =>
   intro ho hT hM
   intro β w rargs fr hno hβ hMR hsz hrel
   rw[nat_rargs hv hsz hrel]
   refine Calls.mono ((hL.2.1 f args v hv fr hno).2 w hMR.kept) ?_
   rintro e w' ⟨rfl,hb⟩
   exact⟨v,β,rfl,VRel.const (nat_flat hv) (nat_nofunc hv),Ext.refl ..,hMR.grow hb,⟨hb.os,hb.tape,hb.output,hb.size,fun B hB _=>hb.block B hB⟩⟩
 | @callJ bs f args m n v hv =>
   intro ho hT hM
   intro β w rargs fr hno hβ hMR hsz hrel
   obtain⟨rfl,a,l,c,s,vs,xs,rfl,hrd,hxs,hn1,hn2,hlc,rfl⟩:=natJ_inv hv
   obtain⟨hlen,hat⟩:=strsV_at hxs
   have hsz':rargs.size=2:=hsz
   have v0:=hrel 0 _ rargs[0] rfl (Array.getElem?_eq_getElem (by omega))
   have v1:=hrel 1 _ rargs[1] rfl (Array.getElem?_eq_getElem (by omega))
   have er:rargs = #[rargs[0],rargs[1]]:=by
    apply Array.ext
    ·simpa using hsz'
    ·intro i h1 h2
     have:i=0∨i=1:=by simp at h2;omega
     rcases this with rfl|rfl <;> rfl
   unfold AL.rdn at hrd
   split at hrd
   ·cases hrd
   ·rename_i hsp
    split at hrd
    ·rename_i blk hb
     split at hrd
     ·rename_i hle
      cases hrd
      rw[er]
      revert v0 v1
      generalize rargs[0]=r0
      generalize rargs[1]=r1
      intro v0 v1
      cases v1
      cases v0 with
      | @slice b o2 L _ _ c' hL hc hroom =>
        have hl:xs.length=l:=by rw[hlen];simp;simp at hle;omega
        subst hl
        refine Calls.mono ((hL0 fr hno).2 w hMR.kept L.B (L.O+o2) c' xs s (fun j x hj=>?_) (hMR.bound _ _ hL) hn1 (by omega) hn2) ?_
        ·have h3:=hat j x hj
         have hj2:=(List.getElem?_eq_some_iff.1 hj).1
         rw[List.getElem?_take_of_lt hj2,List.getElem?_drop] at h3
         obtain⟨r,hr1,hr2⟩:=hMR.cells b blk L hb hL _ _ h3
         cases hr2
         rw[Nat.add_assoc]
         exact hr1
        ·rintro e w' ⟨rfl,hbl⟩
         exact⟨_,β,rfl,.string _,Ext.refl ..,hMR.grow hbl,⟨hbl.os,hbl.tape,hbl.output,hbl.size,fun B hB _=>hbl.block B hB⟩⟩
      | empty=>simp at hsp
     ·cases hrd
    ·cases hrd
 | @drop bs T m n r m1 n1 m2 h1 hsub ih =>
   intro ho hT hM
   have s1:=ih ho hT hM
   cases T with
   | code c tm =>
     cases r with
     | ret=>trivial
     | exit e tm1 =>
       obtain⟨k0,s1⟩:=s1
       refine show SemC .. from⟨k0,fun nt code β w a Q hc hβ hF hMR hQ=>?_⟩
       exact s1 nt code β w a Q hc hβ hF hMR fun β1 a' w' he hF1 hM1 hf=>hQ β1 a' w' he hF1 (hM1.mono hsub) hf
   | ops l tm =>
     cases r with
     | ret=>trivial
     | exit e tm1 =>
       obtain⟨he,m3,htr,hs⟩:=s1
       exact⟨he,m3,htr,fun b x hb=>hs b x (hsub b x hb)⟩
   | opsH h X l tm =>
     cases r with
     | ret=>trivial
     | exit e tm1 =>
       intro hd
       obtain⟨he,m3,htr,hs⟩:=s1 hd
       exact⟨he,m3,htr,fun b x hb=>hs b x (hsub b x hb)⟩
   | call f args =>
     cases r with
     | exit=>trivial
     | ret v =>
       intro β w rargs fr hno hβ hMR hsz hrel
       refine Calls.mono (s1 β w rargs fr hno hβ hMR hsz hrel) ?_
       rintro e w' ⟨rv,β1,rfl,hv1,he,hM1,hf⟩
       exact⟨rv,β1,rfl,hv1,he,hM1.mono hsub,hf⟩
 | @rst bs c tm m n e tm1 m1 n1 tm2 h1 hsub h ih =>
   intro ho hT hM
   obtain⟨k0,s1⟩:=ih ho hT hM
   refine show SemC .. from⟨k0,fun nt code β w a Q hc hβ hF hMR hQ=>?_⟩
   refine s1 nt code β w a Q hc hβ hF hMR fun β1 a' w' he hF1 hM1 hf=>?_
   refine hQ β a' w' (Ext.refl ..) ⟨hF1.size,hF1.defers,fun t=>?_⟩ (hMR.back hM1 hsub he.old) hf
   rcases(h t).2 with h2|⟨h2,h3|h3⟩
   ·rw[h2];exact .junk
   ·rw[h2,h3]
    have:=hF1.slots t
    rw[h3] at this
    exact(hF.slots t).back he.old this
   ·rw[h2];exact(hF1.slots t).ofFlat h3
 | @jk bs c tm m n e tm1 m1 n1 tm2 h1 h ih =>
   intro ho hT hM
   obtain⟨k0,s1⟩:=ih ho hT hM
   refine show SemC .. from⟨k0,fun nt code β w a Q hc hβ hF hMR hQ=>?_⟩
   exact s1 nt code β w a Q hc hβ hF hMR fun β1 a' w' he hF1 hM1 hf=>hQ β1 a' w' he (hF1.less fun t=>(h t).2) hM1 hf
 | @wk bs c tm m n r m1 n1 tm2 h1 h ih =>
   intro ho hT hM
   have s1:=ih ho (fun t=>by
    rcases(h t).2 with h4|h4
    ·rw[h4];exact .junk
    ·rw[h4];exact hT t) hM
   cases r with
   | ret=>trivial
   | exit e tm1 =>
     obtain⟨k0,s1⟩:=s1
     refine show SemC .. from⟨k0,fun nt code β w a Q hc hβ hF hMR hQ=>?_⟩
     exact s1 nt code β w a Q hc hβ (hF.less fun t=>(h t).2) hMR hQ
end Go.Proofs.YtoppcdecolponaaGreat.AL
namespace Go.Proofs.YtoppcdecolponaaGreat.AL
open Go
set_option linter.unusedVariables false
theorem nat_cases {g:Nat} {args:List Value} {v:Value} (h:nat g args=some v) :
 (g=408∧∃ (s:ByteArray) (d:Int),args=[.string s,.int .i64 d]∧s.size≤140737488355328∧v=.tuple #[.int .i64 (numN s.data.toList d).1,.bool (numN s.data.toList d).2]) ∨
 (g=272∧∃ n:Int,args=[.int .i64 n]∧(-9223372036854775808≤n∧n≤9223372036854775807)∧v=.string ⟨(Lib.itoa n).toArray⟩) ∨
 (g=273∧∃ (s:ByteArray) (c:Int),args=[.string s,.int .u8 c]∧v=.int .i64 (Lib.indexByte s.data.toList c.toNat.toUInt8)) ∨
 (g=473∧∃ (s:ByteArray) (c:UInt8),args=[.string s,.string ⟨#[c]⟩]∧v=.int .i64 (Lib.indexByte s.data.toList c)) ∨
 (g=472∧∃ (s:ByteArray) (c:UInt8),args=[.string s,.string ⟨#[c]⟩]∧v=.int .i64 (Lib.countByte s.data.toList c)):=by
 unfold nat at h
 split at h
 ·unfold natS at h
  split at h
  ·split at h
   ·rename_i hk;cases h;exact .inl ⟨hk.1,_,_,rfl,hk.2,rfl⟩
   ·cases h
  ·split at h
   ·rename_i hk;cases h;exact .inr (.inr (.inl ⟨hk,_,_,rfl,rfl⟩))
   ·cases h
  ·rename_i p
   split at h
   ·rename_i c hc
    have hp:p=⟨#[c]⟩:=by
     apply ByteArray.ext
     apply Array.toList_inj.1
     exact hc
    subst hp
    split at h
    ·rename_i hk;cases h;exact .inr (.inr (.inr (.inl ⟨hk,_,_,rfl,rfl⟩)))
    ·split at h
     ·rename_i hk;cases h;exact .inr (.inr (.inr (.inr ⟨hk,_,_,rfl,rfl⟩)))
     ·cases h
   ·cases h
  ·cases h
 ·split at h
  ·rename_i hk;cases h;exact .inr (.inl ⟨hk.1,_,rfl,hk.2,rfl⟩)
  ·cases h
 ·cases h
theorem look_mem {α:Type}:∀ {S:List (Nat×α)} {t:Nat} {v:α},S.lookup t=some v→(t,v)∈S
 | [],t,v,h=>by simp at h
 | (a,b)::S,t,v,h=>by
   simp only[List.lookup] at h
   split at h
   ·rename_i e;simp at e;subst e;cases h;exact .head _
   ·exact .tail _ (look_mem h)
theorem no_num {T:List (Nat×Nat)} {f g:Nat} (h:T.all (fun p=>p.2 != g)=true) (hm:(f,g)∈T):False:=by
 have:=List.all_eq_true.1 h _ hm
 simp at this
end Go.Proofs.YtoppcdecolponaaGreat.AL
namespace Go.Proofs.YtoppcdecolponaaGreat.AL
open Go
set_option linter.unusedVariables false
theorem wrap_in (x:Int) (h:-9223372036854775808≤x∧x≤9223372036854775807):IntKind.wrap .i64 x=x:=by
 unfold IntKind.wrap
 simp only[IntKind.bits,IntKind.signed,Nat.reduceSub,Bool.true_and]
 have e1:(2:Int) ^ 64=18446744073709551616:=by decide
 have e2:(2:Int) ^ 63=9223372036854775808:=by decide
 simp only[e1,e2,decide_eq_true_eq]
 split <;> omega
theorem sub_refl (m:Mem):sub m m:=fun _ _ h=>h
theorem sub_trans {a b c:Mem} (h:sub a b) (k:sub b c):sub a c:=fun _ _ e=>k _ _ (h _ _ e)
theorem sub_upd {m m1:Mem} {n:Nat} {b:Option Blk} (h:sub m m1) (hf:m n=none):sub m (upd m1 n b):=by
 intro j x e
 simp only[upd]
 split
 ·rename_i h1;rw[h1,hf] at e;cases e
 ·exact h _ _ e
theorem Fresh.at {m:Mem} {n b:Nat} (h:Fresh m n) (hb:n≤b):m b=none:=h b hb
theorem Fresh.upd {m:Mem} {n:Nat} (h:Fresh m n) (b:Option Blk):Fresh (upd m n b) (n+1):=by
 intro j hj
 simp only[AL.upd]
 rw[if_neg (by omega)]
 exact h j (by omega)
def RowsAt (m:Mem) (sz:Nat) (a:Option Addr) (rows:List (List Value)):Prop:=
 rows≠[]→okA a∧∃ blk,m (adr a).block=some blk∧blk.sz=sz∧∀ i r,rows[i]?=some r→r.length=sz∧(adr a).off+i * sz+sz≤blk.cells.length∧(blk.cells.drop ((adr a).off+i * sz)).take sz=r
theorem RowsAt.ok {m sz a rows} (h:RowsAt m sz a rows) {i:Nat} (hi:i<rows.length):okA a:=(h (by intro e;simp [e] at hi)).1
theorem RowsAt.lt {m sz a rows n} (h:RowsAt m sz a rows) (hf:Fresh m n) {i:Nat} (hi:i<rows.length):(adr a).block<n:=by
 obtain⟨_,blk,hb,_⟩:=h (by intro e;simp [e] at hi)
 rcases Nat.lt_or_ge (adr a).block n with h1|h1
 ·exact h1
 ·rw[hf _ h1] at hb;cases hb
theorem RowsAt.rdn {m sz a rows} (h:RowsAt m sz a rows) {i:Nat} {r:List Value} (hr:rows[i]?=some r) :
 rdn m ⟨(adr a).block,(adr a).off+i * sz,none⟩ sz=some r:=by
 obtain⟨_,blk,hb,_,h⟩:=h (by intro e;simp [e] at hr)
 obtain⟨h1,h2,h3⟩:=h i r hr
 simp [AL.rdn,hb,h2,h3]
theorem RowsAt.rd {m sz a rows} (h:RowsAt m sz a rows) {i j:Nat} {r:List Value} {x:Value} (hr:rows[i]?=some r) (hj:r[j]?=some x) :
 rd m ⟨(adr a).block,(adr a).off+i * sz+j,none⟩=some x:=by
 obtain⟨_,blk,hb,_,h⟩:=h (by intro e;simp [e] at hr)
 obtain⟨h1,h2,h3⟩:=h i r hr
 have hjs:j<sz:=by
  have:=(List.getElem?_eq_some_iff.1 hj).1
  omega
 have e:r[j]?=blk.cells[(adr a).off+i * sz+j]?:=by
  rw[←h3,List.getElem?_take_of_lt hjs,List.getElem?_drop]
 simp [AL.rd,hb,←e,hj]
theorem RowsAt.mono {m m1 sz a rows} (h:RowsAt m sz a rows) (hs:sub m m1):RowsAt m1 sz a rows:=by
 intro hne
 obtain⟨h1,blk,hb,h2⟩:=h hne
 exact⟨h1,blk,hs _ _ hb,h2⟩
end Go.Proofs.YtoppcdecolponaaGreat.AL
namespace Go.Proofs.YtoppcdecolponaaGreat.AL
open Go
open Go.ChangeShapes Go.WideShapes
set_option linter.unusedVariables false
set_option linter.unusedSimpArgs false
def RInt (k:IntKind) (m:Mem) (x:Int) (vs:List Value):Prop:=vs=[.int k x]∧(Lit.int k x).wf=true
def RBool (m:Mem) (x:Bool) (vs:List Value):Prop:=vs=[.bool x]
def RStr (m:Mem) (x:ByteArray) (vs:List Value):Prop:=vs=[.string x]∧x.size≤2 ^ 47
def RSl {α:Type} (k:Nat) (R:Mem→α→List Value→Prop) (m:Mem) (xs:List α) (vs:List Value):Prop:=
 ∃ (a:Option Addr) (c:Nat) (rows:List (List Value)),vs=[.slice a xs.length c]∧xs.length≤c∧RowsAt m k a rows∧rows.length=xs.length∧(∀ (i:Nat) x r,xs[i]?=some x→rows[i]?=some r→R m x r)∧xs.length≤2 ^ 47
def RNil (m:Mem) (x:Unit) (vs:List Value):Prop:=vs=[]
def RCons {α γ:Type} (R1:Mem→α→List Value→Prop) (R2:Mem→γ→List Value→Prop) (m:Mem) (x:α×γ) (vs:List Value):Prop:=
 ∃ v1 v2,vs=v1++v2∧R1 m x.1 v1∧R2 m x.2 v2
def Mono {α:Type} (R:Mem→α→List Value→Prop):Prop:=∀ m m1 x vs,R m x vs→sub m m1→R m1 x vs
theorem RInt.mono {k:IntKind}:Mono (RInt k):=fun _ _ _ _ h _=>h
theorem RBool.mono:Mono RBool:=fun _ _ _ _ h _=>h
theorem RStr.mono:Mono RStr:=fun _ _ _ _ h _=>h
theorem RNil.mono:Mono RNil:=fun _ _ _ _ h _=>h
theorem RCons.mono {α γ:Type} {R1:Mem→α→List Value→Prop} {R2:Mem→γ→List Value→Prop} (h1:Mono R1) (h2:Mono R2):Mono (RCons R1 R2):=by
 rintro m m1 x vs ⟨v1,v2,e,a,b⟩ hs
 exact⟨v1,v2,e,h1 _ _ _ _ a hs,h2 _ _ _ _ b hs⟩
theorem RSl.mono {α:Type} {k:Nat} {R:Mem→α→List Value→Prop} (h:Mono R):Mono (RSl k R):=by
 rintro m m1 xs vs ⟨a,c,rows,e,hc,hr,hl,hx,hb⟩ hs
 exact⟨a,c,rows,e,hc,hr.mono hs,hl,fun i x r h1 h2=>h _ _ _ _ (hx i x r h1 h2) hs,hb⟩
structure View (no:No) (W:World) (β:Inj) (m:Mem) (n:Nat):Prop where
 lt:BLt β n
 mlt:MLt m n
 rel:MRel no β m W
 ro:∀ b blk,m b=some blk→blk.own=false
structure Grow (β β1:Inj) (m m1:Mem) (n n1:Nat):Prop where
 ext:Ext0 β β1
 mem:sub m m1
 le:n≤n1
theorem Grow.refl (β:Inj) (m:Mem) (n:Nat):Grow β β m m n n:=⟨fun _ _ h=>h,fun _ _ h=>h,Nat.le_refl _⟩
theorem Grow.trans {β β1 β2:Inj} {m m1 m2:Mem} {n n1 n2:Nat} (h:Grow β β1 m m1 n n1) (k:Grow β1 β2 m1 m2 n1 n2):Grow β β2 m m2 n n2:=
 ⟨fun b L e=>k.ext b L (h.ext b L e),fun b x e=>k.mem b x (h.mem b x e),Nat.le_trans h.le k.le⟩
theorem View.none (no:No) (W:World) (hk:no.S≤W.heap.size∧∀ B,B<no.S→W.heap[B]?=no.W.heap[B]?):View no W (fun _=>Option.none) (fun _=>Option.none) 0:=
 ⟨fun _ _=>rfl,(fun b blk e=>by cases e),⟨(fun b L e=>by cases e),(fun b blk L e=>by cases e),(fun b blk L e=>by cases e),(fun b blk L e=>by cases e),(fun b b' blk blk' L L' e=>by cases e),hk,fun b blk L e=>by cases e⟩,fun b blk e=>by cases e⟩
structure Wds (no:No) (β:Inj) (n:Nat) (vs cs:List Value):Prop where
 len:vs.length=cs.length
 rel:∀ (i:Nat) v r,vs[i]?=some v→cs[i]?=some r→VRel no β v r
 lt:∀ v,v∈vs→VLt n v
theorem Wds.mono {no:No} {β β1:Inj} {m m1:Mem} {n n1:Nat} {vs cs:List Value} (h:Wds no β n vs cs) (g:Grow β β1 m m1 n n1):Wds no β1 n1 vs cs:=
 ⟨h.len,fun i v r h1 h2=>(h.rel i v r h1 h2).mono g.ext,fun v hv=>(h.lt v hv).mono g.le⟩
theorem Wds.one {no:No} {β:Inj} {n:Nat} {v r:Value} (h:VRel no β v r) (hl:VLt n v):Wds no β n [v] [r]:=
 ⟨rfl,fun i x y hx hy=>by
   cases i with
   | zero=>simp at hx hy;subst hx;subst hy;exact h
   | succ i=>simp at hx,fun x hx=>by simp at hx;subst hx;exact hl⟩
theorem Wds.append {no:No} {β:Inj} {n:Nat} {vs vs' cs cs':List Value} (h:Wds no β n vs cs) (h':Wds no β n vs' cs'):Wds no β n (vs++vs') (cs++cs'):=by
 refine⟨by simp [h.len,h'.len],fun i v r h1 h2=>?_,fun v hv=>?_⟩
 ·by_cases hi:i<vs.length
  ·rw[List.getElem?_append_left hi] at h1
   rw[List.getElem?_append_left (by rw[←h.len];exact hi)] at h2
   exact h.rel i v r h1 h2
  ·rw[List.getElem?_append_right (by omega)] at h1
   rw[List.getElem?_append_right (by rw[←h.len];omega),←h.len] at h2
   exact h'.rel _ v r h1 h2
 ·rcases List.mem_append.1 hv with h1|h1
  ·exact h.lt v h1
  ·exact h'.lt v h1
section
variable {H : Type} (enc : TypeId × Value → H) (P : Program) (no : No) (W : World)
def Opn {α:Type} (t:TypeId) (R:Mem→α→List Value→Prop):Prop:=
 ∀ (fuel:Nat) (cs:List Value) (x:DataW H×List MemPlace),DataW.trod enc P W 0 (fun _=>true) true fuel t cs=some x→(∀ k,k∈x.1.weights P t→k≤reachBytes)→∀ β m n,View no W β m n →
   ∃ y vs β1 m1 n1,Grow β β1 m m1 n n1∧View no W β1 m1 n1∧Wds no β1 n1 vs cs∧R m1 y vs
def OpnF {α:Type} (fs:List Field) (o:Nat) (R:Mem→α→List Value→Prop):Prop:=
 ∀ (fuel:Nat) (cs:List Value) (xs:List (DataW H×List MemPlace)),fs.mapM (fun f=>DataW.trod enc P W 0 (fun _=>true) true fuel f.type ((cs.drop f.offset).take (P.cellsOf f.type)))=some xs →
   (∀ k,k∈DataW.weightsEach P (fs.map (·.type)) (xs.map (·.1))→k≤reachBytes)→cs.length=o+(fs.map fun f=>P.cellsOf f.type).sum→∀ β m n,View no W β m n →
   ∃ y vs β1 m1 n1,Grow β β1 m m1 n n1∧View no W β1 m1 n1∧Wds no β1 n1 vs (cs.drop o)∧R m1 y vs
end
section
variable {H : Type} {enc : TypeId × Value → H} {P : Program} {no : No} {W : World}
theorem Opn.int {t:TypeId} {k:IntKind} (ht:P.underlying t=some (.int k)):Opn enc P no W t (RInt k):=by
 intro fuel cs x h _ β m n hV
 obtain⟨i,rfl,rfl,hw⟩:=DataW.trod_int ht h
 exact⟨i,[.int k i],β,m,n,Grow.refl ..,hV,.one (.int k i) (.word rfl),rfl,hw⟩
theorem Opn.bool {t:TypeId} (ht:P.underlying t=some .bool):Opn enc P no W t RBool:=by
 intro fuel cs x h _ β m n hV
 obtain⟨b,rfl,rfl⟩:=DataW.trod_bool ht h
 exact⟨b,[.bool b],β,m,n,Grow.refl ..,hV,.one (.bool b) (.word rfl),rfl⟩
theorem Opn.imp {α γ:Type} {t:TypeId} {R:Mem→α→List Value→Prop} {R':Mem→γ→List Value→Prop} (h:Opn enc P no W t R) (hi:∀ m x vs,R m x vs→∃ y,R' m y vs):Opn enc P no W t R':=by
 intro fuel cs x hx hwt β m n hV
 obtain⟨y,vs,β1,m1,n1,h1,h2,h3,h4⟩:=h fuel cs x hx hwt β m n hV
 obtain⟨z,hz⟩:=hi _ _ _ h4
 exact⟨z,vs,β1,m1,n1,h1,h2,h3,hz⟩
theorem OpnF.nil {o:Nat}:OpnF enc P no W [] o RNil:=by
 intro fuel cs xs _ _ hl β m n hV
 exact⟨(),[],β,m,n,Grow.refl ..,hV,⟨by simp at hl;simp [hl],fun i v r h=>by simp at h,fun v h=>by simp at h⟩,rfl⟩
theorem OpnF.cons {α γ:Type} {f:Field} {fs:List Field} {o k:Nat} {R1:Mem→α→List Value→Prop} {R2:Mem→γ→List Value→Prop} (hm:Mono R1) (ho:f.offset=o) (hk:P.cellsOf f.type=k)
 (h1:Opn enc P no W f.type R1) (h2:OpnF enc P no W fs (o+k) R2):OpnF enc P no W (f::fs) o (RCons R1 R2):=by
 intro fuel cs xs hx hwt hl β m n hV
 simp only[List.mapM_cons,Option.bind_eq_bind,Option.bind_eq_some_iff,Option.pure_def,Option.some.injEq] at hx
 obtain⟨x,hx,xs',hxs,rfl⟩:=hx
 simp only[List.map_cons,DataW.weightsEach,List.mem_append] at hwt
 simp only[List.map_cons,List.sum_cons,hk] at hl
 obtain⟨y1,v1,β1,m1,n1,g1,V1,w1,r1⟩:=h1 fuel _ x hx (fun k hk=>hwt k (.inl hk)) β m n hV
 obtain⟨y2,v2,β2,m2,n2,g2,V2,w2,r2⟩:=h2 fuel cs xs' hxs (fun k hk=>hwt k (.inr hk)) (by omega) β1 m1 n1 V1
 refine⟨(y1,y2),v1++v2,β2,m2,n2,g1.trans g2,V2,?_,v1,v2,rfl,hm _ _ _ _ r1 g2.mem,r2⟩
 have:=(w1.mono g2).append w2
 rw[ho,hk] at this
 have e:(cs.drop o).take k++cs.drop (o+k)=cs.drop o:=by rw[←List.drop_drop];exact List.take_append_drop ..
 rwa [e] at this
theorem Opn.struct {α:Type} {t:TypeId} {fs:Array Field} {R:Mem→α→List Value→Prop} (ht:P.underlying t=some (.struct fs)) (hc:P.cellsOf t=(fs.toList.map fun f=>P.cellsOf f.type).sum)
 (h:OpnF enc P no W fs.toList 0 R):Opn enc P no W t R:=by
 intro fuel cs x hx hwt β m n hV
 obtain⟨xs,k,rfl,rfl,hl,hls,hf⟩:=DataW.trod_struct ht hx
 have e:fs.toList.mapM (fun f=>DataW.trod enc P W 0 (fun _=>true) true k f.type ((cs.drop f.offset).take (P.cellsOf f.type)))=some xs:=by
  have gen:∀ (fl:List Field) (ys:List (DataW H×List MemPlace)),ys.length=fl.length→(∀ (i:Nat) f,fl[i]?=some f→DataW.trod enc P W 0 (fun _=>true) true k f.type ((cs.drop f.offset).take (P.cellsOf f.type))=ys[i]?) →
   fl.mapM (fun f=>DataW.trod enc P W 0 (fun _=>true) true k f.type ((cs.drop f.offset).take (P.cellsOf f.type)))=some ys:=by
   intro fl
   induction fl with
   | nil=>intro ys h1 _;simp at h1;subst h1;rfl
   | cons f fl ih =>
     intro ys h1 h2
     cases ys with
     | nil=>simp at h1
     | cons y ys =>
       have h3:=h2 0 f rfl
       simp only[List.getElem?_cons_zero] at h3
       simp [List.mapM_cons,h3,ih ys (by simpa using h1) fun i g hg=>by simpa using h2 (i+1) g (by simpa using hg)]
  exact gen _ _ (by simpa using hls) fun i f hi=>hf i f (by simpa using hi)
 obtain⟨y,vs,β1,m1,n1,g,V,w,r⟩:=h k cs xs e (fun k' hk'=>hwt k' (by simp only[DataW.weights,ht];exact hk')) (by rw[hl,hc];omega) β m n hV
 exact⟨y,vs,β1,m1,n1,g,V,by simpa using w,r⟩
theorem cells_at {a:Addr} {k:Nat} {cs:List Value} (h:W.cells? 0 a k=some cs):cs.length=k∧∀ i,i<k→W.cell? (a.add i)=cs[i]?:=by
 unfold World.cells? at h
 rw[if_pos (Nat.zero_le _)] at h
 refine⟨by simpa using mapM_some_length h,fun i hi=>mapM_some_get h i i (by simp [hi])⟩
theorem cell_spot {a:Addr} {v:Value} (h:W.cell? a=some v):a.spot=none∧a.block<W.heap.size:=by
 unfold World.cell? at h
 split at h
 ·rename_i hb
  split at h
  ·cases h
  ·rename_i hs
   refine⟨by simpa using hs,?_⟩
   exact(Array.getElem?_eq_some_iff.1 hb).1
 ·cases h
theorem weights_all {e:TypeId}:∀ {ds:List (DataW H)} {d:DataW H},d∈ds→∀ k,k∈d.weights P e→k∈DataW.weightsAll P e ds
 | d0::ds,d,hd,k,hk=>by
   simp only[DataW.weightsAll,List.mem_append]
   rcases List.mem_cons.1 hd with rfl|h
   ·exact .inl hk
   ·exact .inr (weights_all h k hk)
theorem Opn.slice {α:Type} {t e:TypeId} {k:Nat} {R:Mem→α→List Value→Prop} (hm:Mono R) (ht:P.underlying t=some (.slice e)) (hk:P.cellsOf e=k) (hk0:0<k) (hb:0<P.bytesOf e)
 (h:Opn enc P no W e R):Opn enc P no W t (RSl k R):=by
 intro fuel cs x hx hwt β m n hV
 rcases DataW.trod_slice ht hx with⟨rfl,rfl⟩|⟨a,len,cap,elems,rest,f,rfl,rfl,rfl,_,hlc,_,hel,hat,_,_⟩
 ·exact⟨[],[.slice none 0 0],β,m,n,Grow.refl ..,hV,.one (.snil 0 0) (.word rfl),none,0,[],rfl,Nat.le_refl _,fun h=>absurd rfl h,rfl,fun i x r h=>by simp at h,by simp⟩
 ·by_cases h0:len=0
  ·subst h0
   exact⟨[],[.slice (some ⟨0,0,some 0⟩) 0 0],β,m,n,Grow.refl ..,hV,.one .empty .empty,some ⟨0,0,some 0⟩,0,[],rfl,Nat.le_refl _,fun h=>absurd rfl h,rfl,fun i x r h=>by simp at h,by simp⟩
  ·skip
   simp only[DataW.weights,ht,List.length_map,List.mem_cons,List.mem_append] at hwt
   have hlen:len≤2 ^ 47:=by
    have h1:=hwt _ (.inl rfl)
    have h2:=reachBytes_lt
    have h3:len * 1≤(elems.length+rest.length) * P.bytesOf e:=Nat.mul_le_mul (by omega) hb
    omega
   rw[hk] at hat
   have hsp:a.spot=none∧a.block<W.heap.size:=by
    have h1:=hat 0 (by omega)
    have h2:elems[0]?=some elems[0]:=List.getElem?_eq_getElem (by omega)
    rw[h2] at h1
    simp only[Option.bind_eq_some_iff] at h1
    obtain⟨cs0,h3,_⟩:=h1
    obtain⟨h4,h5⟩:=cells_at h3
    have h6:=h5 0 hk0
    rw[List.getElem?_eq_getElem (by omega)] at h6
    have h7:=cell_spot h6
    simpa[Addr.add] using h7
   obtain⟨ab,ao,asp⟩:=a
   obtain⟨hsp,hblk⟩:=hsp
   simp only at hsp hblk
   subst hsp
   have go:∀ j,j≤len→∃ (xs:List α) (rows:List (List Value)) (fl:List Value) (β1:Inj) (m1:Mem) (n1:Nat),Grow β β1 m m1 n n1∧View no W β1 m1 n1∧xs.length=j∧rows.length=j∧fl.length=j * k ∧
    (∀ (i:Nat) r,rows[i]?=some r→r.length=k∧i * k+k≤fl.length∧(fl.drop (i * k)).take k=r)∧(∀ (i:Nat) x r,xs[i]?=some x→rows[i]?=some r→R m1 x r) ∧
    (∀ v,v∈fl→VLt n1 v)∧∀ (q:Nat) v,fl[q]?=some v→∃ r,W.cell? ⟨ab,ao+q,none⟩=some r∧VRel no β1 v r:=by
    intro j
    induction j with
    | zero=>intro _;exact⟨[],[],[],β,m,n,Grow.refl ..,hV,rfl,rfl,by simp,fun i r h=>by simp at h,fun i x r h=>by simp at h,fun v h=>by simp at h,fun q v h=>by simp at h⟩
    | succ j ih =>
      intro hj
      obtain⟨xs,rows,fl,β1,m1,n1,g1,V1,l1,l2,l3,hrow,hR,hlt,hcell⟩:=ih (by omega)
      have h1:=hat j (by omega)
      have hej:elems[j]?=some elems[j]:=List.getElem?_eq_getElem (by omega)
      rw[hej] at h1
      simp only[Option.bind_eq_some_iff] at h1
      obtain⟨cj,hcj,htj⟩:=h1
      obtain⟨c1,c2⟩:=cells_at hcj
      obtain⟨y,vs,β2,m2,n2,g2,V2,w2,r2⟩:=h f cj _ htj (fun k' hk'=>hwt k' (.inr (.inl (weights_all (List.mem_map.2 ⟨_,List.getElem_mem (by omega),rfl⟩) k' hk')))) β1 m1 n1 V1
      have lvs:vs.length=k:=by rw[w2.len,c1]
      refine⟨xs++[y],rows++[vs],fl++vs,β2,m2,n2,g1.trans g2,V2,by simp [l1],by simp [l2],by simp [l3,lvs,Nat.succ_mul],fun i r hi=>?_,fun i x r hx hr=>?_,fun v hv=>?_,fun q v hq=>?_⟩
      ·by_cases hij:i<j
       ·rw[List.getElem?_append_left (by omega)] at hi
        obtain⟨e1,e2,e3⟩:=hrow i r hi
        refine⟨e1,by simp;omega,?_⟩
        rw[List.drop_append_of_le_length (by omega),List.take_append_of_le_length (by simp;omega)]
        exact e3
       ·rw[List.getElem?_append_right (by omega)] at hi
        have:i=j:=by
         have:=(List.getElem?_eq_some_iff.1 hi).1
         simp at this;omega
        subst this
        rw[l2] at hi
        simp at hi
        subst hi
        refine⟨lvs,by simp [l3,lvs],?_⟩
        rw[←l3,List.drop_left,List.take_of_length_le (by omega)]
      ·by_cases hij:i<j
       ·rw[List.getElem?_append_left (by omega)] at hx hr
        exact hm _ _ _ _ (hR i x r hx hr) g2.mem
       ·rw[List.getElem?_append_right (by omega)] at hx hr
        have:i=j:=by
         have:=(List.getElem?_eq_some_iff.1 hx).1
         simp at this;omega
        subst this
        rw[l1] at hx;rw[l2] at hr
        simp at hx hr
        subst hx;subst hr
        exact r2
      ·rcases List.mem_append.1 hv with h1|h1
       ·exact(hlt v h1).mono g2.le
       ·exact w2.lt v h1
      ·by_cases hqj:q<fl.length
       ·rw[List.getElem?_append_left hqj] at hq
        obtain⟨r,e1,e2⟩:=hcell q v hq
        exact⟨r,e1,e2.mono g2.ext⟩
       ·rw[List.getElem?_append_right (by omega)] at hq
        have hlt':q-fl.length<k:=by
         have:=(List.getElem?_eq_some_iff.1 hq).1
         omega
        have e1:=c2 (q-fl.length) hlt'
        have e2:cj[q-fl.length]?=some cj[q-fl.length]:=List.getElem?_eq_getElem (by omega)
        rw[e2,add_plain,add_plain] at e1
        refine⟨_,?_,w2.rel _ _ _ hq e2⟩
        rw[←e1]
        congr 2
        omega
   obtain⟨xs,rows,fl,β1,m1,n1,g1,V1,l1,l2,l3,hrow,hR,hlt,hcell⟩:=go len (Nat.le_refl _)
   have hnone:m1 n1=none:=by
    cases e:m1 n1 with
    | none=>rfl
    | some blk=>have:=(V1.mlt n1 blk e).1;omega
   let β2:Inj:=fun b=>if b=n1 then some ⟨ab,ao,none⟩ else β1 b
   have ex:Ext0 β1 β2:=by
    intro b L e
    simp only[β2]
    by_cases hb:b=n1
    ·subst hb;rw[V1.lt _ (Nat.le_refl _)] at e;cases e
    ·rw[if_neg hb];exact e
   have cs:∀ b L,β2 b=some L→(b=n1∧L=⟨ab,ao,none⟩)∨(b≠n1∧β1 b=some L):=by
    intro b L e
    simp only[β2] at e
    by_cases hb:b=n1
    ·rw[if_pos hb] at e;exact .inl ⟨hb,by cases e;rfl⟩
    ·rw[if_neg hb] at e;exact .inr ⟨hb,e⟩
   have hne0:fl.length≠0:=by rw[l3];exact Nat.mul_ne_zero h0 (by omega)
   refine⟨xs,[.slice (some ⟨n1,0,none⟩) len len],β2,upd m1 n1 (some ⟨fl,false,k⟩),n1+1,g1.trans ⟨ex,?_,Nat.le_succ _⟩,⟨?_,?_,?_,?_⟩,.one ?_ (.slice (Nat.lt_succ_self _)),some ⟨n1,0,none⟩,len,rows,by rw[l1],by omega,fun _=>?_,by omega,?_,by omega⟩
   ·intro b x hx
    simp only[upd]
    by_cases hb:b=n1
    ·subst hb;rw[hnone] at hx;cases hx
    ·rw[if_neg hb];exact hx
   ·intro b hb
    simp only[β2]
    rw[if_neg (by omega)]
    exact V1.lt b (by omega)
   ·refine(V1.mlt.upd (n1:=n1+1) (by omega) (fun _=>Nat.lt_succ_self _) fun blk e c hc=>?_)
    cases e
    exact(hlt c hc).mono (by omega)
   ·have mem:∀ b blk,upd m1 n1 (some ⟨fl,false,k⟩) b=some blk→(b=n1∧blk=⟨fl,false,k⟩)∨(b≠n1∧m1 b=some blk):=by
     intro b blk e
     simp only[upd] at e
     by_cases hb:b=n1
     ·rw[if_pos hb] at e;exact .inl ⟨hb,by cases e;rfl⟩
     ·rw[if_neg hb] at e;exact .inr ⟨hb,e⟩
    refine⟨fun b L e=>?_,fun b blk L hb e i v hv=>?_,fun b blk L hb e ho=>?_,fun b blk L hb e ho=>?_,fun b b' blk blk' L L' hb ho e hb' e' hne=>?_,V1.rel.kept,fun b blk L hb e ho=>?_⟩
    ·rcases cs b L e with⟨_,rfl⟩|⟨_,e1⟩
     ·exact hblk
     ·exact V1.rel.bound b L e1
    ·rcases cs b L e with⟨h1,rfl⟩|⟨h1,e1⟩
     ·rcases mem b blk hb with⟨_,rfl⟩|⟨h2,_⟩
      ·obtain⟨r,e2,e3⟩:=hcell i v hv
       exact⟨r,e2,e3.mono ex⟩
      ·exact absurd h1 h2
     ·rcases mem b blk hb with⟨h2,_⟩|⟨_,e2⟩
      ·exact absurd h2 h1
      ·obtain⟨r,e3,e4⟩:=V1.rel.cells b blk L e2 e1 i v hv
       exact⟨r,e3,e4.mono ex⟩
    ·rcases cs b L e with⟨h1,rfl⟩|⟨h1,e1⟩
     ·rcases mem b blk hb with⟨_,rfl⟩|⟨h2,_⟩
      ·cases ho
      ·exact absurd h1 h2
     ·rcases mem b blk hb with⟨h2,_⟩|⟨_,e2⟩
      ·exact absurd h2 h1
      ·exact V1.rel.own b blk L e2 e1 ho
    ·rcases cs b L e with⟨h1,rfl⟩|⟨h1,e1⟩
     ·rfl
     ·rcases mem b blk hb with⟨h2,_⟩|⟨_,e2⟩
      ·exact absurd h2 h1
      ·exact V1.rel.ro b blk L e2 e1 ho
    ·rcases mem b blk hb with⟨_,rfl⟩|⟨_,e2⟩
     ·cases ho
     ·rw[V1.ro b blk e2] at ho;cases ho
    ·rcases mem b blk hb with⟨_,rfl⟩|⟨_,e2⟩
     ·cases ho
     ·rw[V1.ro b blk e2] at ho;cases ho
   ·intro b blk hb
    simp only[upd] at hb
    by_cases h1:b=n1
    ·rw[if_pos h1] at hb;cases hb;rfl
    ·rw[if_neg h1] at hb;exact V1.ro b blk hb
   ·refine .slice (L:=⟨ab,ao,none⟩) (o:=0) (by simp [β2]) hlc fun _ _ h=>by cases h
   ·refine⟨⟨rfl,rfl⟩,⟨fl,false,k⟩,by simp [upd,adr],rfl,fun i r hi=>?_⟩
    obtain⟨e1,e2,e3⟩:=hrow i r hi
    exact⟨e1,by simpa[adr] using e2,by simpa[adr] using e3⟩
   ·intro i x r hx hr
    refine hm _ _ _ _ (hR i x r hx hr) fun b y hy=>?_
    simp only[upd]
    by_cases hb:b=n1
    ·subst hb;rw[hnone] at hy;cases hy
    ·rw[if_neg hb];exact hy
end
end Go.Proofs.YtoppcdecolponaaGreat.AL
namespace Go.Proofs.YtoppcdecolponaaGreat.AL
open Go
open Go.ChangeShapes Go.WideShapes Go.RowKit
set_option linter.unusedVariables false
set_option linter.unusedSimpArgs false
section
variable {H : Type} {enc : TypeId × Value → H} {P : Program} {no : No} {W : World}
theorem Opn.word {α:Type} {t:TypeId} {R:Mem→α→List Value→Prop} (h:Opn enc P no W t R) {v:Value} {d:DataW H} {ps:List MemPlace} (hd:DataW.Trod enc P W 0 (fun _=>true) true t v d ps)
 (hw:∀ k,k∈d.weights P t→k≤reachBytes) (hv:v.cells = #[v]) {β:Inj} {m:Mem} {n:Nat} (V:View no W β m n) :
 ∃ y v' β1 m1 n1,Grow β β1 m m1 n n1∧View no W β1 m1 n1∧Wds no β1 n1 [v'] [v]∧R m1 y [v']:=by
 obtain⟨fuel,hd⟩:=hd
 obtain⟨y,vs,β1,m1,n1,g,V1,w,r⟩:=h fuel _ _ hd hw β m n V
 rw[hv] at w
 obtain⟨v',rfl⟩:=List.length_eq_one_iff.1 (w.len.trans rfl)
 exact⟨y,v',β1,m1,n1,g,V1,w,r⟩
theorem Opn.agg {α:Type} {t:TypeId} {R:Mem→α→List Value→Prop} (h:Opn enc P no W t R) {v:Value} {d:DataW H} {ps:List MemPlace} (hd:DataW.Trod enc P W 0 (fun _=>true) true t v d ps)
 (hw:∀ k,k∈d.weights P t→k≤reachBytes) {cs:Array Value} (hv:v=.agg cs) {β:Inj} {m:Mem} {n:Nat} (V:View no W β m n) :
 ∃ y vs β1 m1 n1,Grow β β1 m m1 n n1∧View no W β1 m1 n1∧Wds no β1 n1 [.agg vs.toArray] [v]∧R m1 y vs:=by
 obtain⟨fuel,hd⟩:=hd
 obtain⟨y,vs,β1,m1,n1,g,V1,w,r⟩:=h fuel _ _ hd hw β m n V
 subst hv
 refine⟨y,vs,β1,m1,n1,g,V1,.one (.agg (by simpa[Value.cells] using w.len) fun i x y hx hy=>w.rel i x y (by simpa using hx) (by simpa[Value.cells] using hy)) (.agg fun x hx=>w.lt x (by simpa using hx)),r⟩
theorem law_run {G:Prg} (hm:P.follows .mixedOrders=true) (hL:Link P no G) {f g:Nat} (hno:no f=some g) {β:Inj} {m:Mem} {n:Nat} (V:View no W β m n) {args:Array Value} {vals:List Value}
 (hw:Wds no β n vals args.toList) (hc:CallW G g vals n m n fun v _ _=>v=.bool true):Calls P f args W fun e W'=>e=.returned (.bool true)∧Below W.heap.size W W':=by
 obtain⟨v,m1,n1,hb,rfl⟩:=hc
 have hs:CallSim P no n g vals m n (.bool true) m1 n1:=big_sim hm hL hb rfl hw.lt V.mlt
 refine Calls.mono (hs β W args f hno V.lt V.rel (by simpa using hw.len.symm) fun i x y hx hy=>hw.rel i x y hx (by simpa using hy)) ?_
 rintro e W' ⟨rv,β1,rfl,hv,he,_,hf⟩
 have:rv=.bool true:=by cases hv;rfl
 subst this
 exact⟨rfl,hf.os,hf.tape,hf.output,hf.size,fun B hB=>hf.block B hB fun b L _ h1 h2=>by omega⟩
theorem trodAll_carry {W':World} (hb:Below W.heap.size W W') (hl:laidOutB P=true) (hmr:mapsRowed P=true) (hsl:((List.range P.types.size).all fun t=>match P.underlying t with|some (.slice e)=>decide (0<P.cellsOf e)|_=>true)=true) :
 ∀ {ts:List TypeId} {vs:List Value} {ds:List (DataW H)} {ps:List MemPlace},(∀ t∈ts,t<P.types.size)→DataW.TrodAll enc P W 0 (fun _=>true) true ts vs ds ps →
   DataW.TrodAll enc P W' 0 (fun b=>decide (b<W.heap.size)) true ts vs ds ps:=by
 intro ts vs ds ps ht h
 have hlt:=h.lt
 have h1:∀ {ts:List TypeId} {vs:List Value} {ds:List (DataW H)} {ps:List MemPlace},(∀ p∈ps,p.block<W.heap.size)→DataW.TrodAll enc P W 0 (fun _=>true) true ts vs ds ps→DataW.TrodAll enc P W' 0 (fun _=>true) true ts vs ds ps:=by
  intro ts
  induction ts with
  | nil=>intro vs ds ps _ h;cases vs <;> cases ds <;> first|exact h|exact h.elim
  | cons t ts ih =>
    intro vs ds ps hp h
    cases vs with
    | nil=>exact h.elim
    | cons v vs =>
      cases ds with
      | nil=>exact h.elim
      | cons d ds =>
        obtain⟨a,b,⟨k,h1⟩,h2,e⟩:=h
        subst e
        exact⟨a,b,⟨k,DataW.trod_carry k _ _ _ h1 fun p hp'=>hb.same (hp p (List.mem_append_left _ hp'))⟩,ih (fun p hp'=>hp p (List.mem_append_right _ hp')) h2,rfl⟩
 exact DataW.TrodAll.respare (kids_rows hl hmr) (slices_full_of P hsl) ht (h1 hlt h) fun p hp=>by simpa using hlt p hp
theorem trod_bool_mk {W':World} {base:Nat} {spare:Nat→Bool} {held:Bool} {t:TypeId} {b:Bool} (ht:P.underlying t=some .bool):DataW.Trod enc P W' base spare held t (.bool b) (.lit (.bool b)) []:=
 ⟨1,by simp [DataW.trod,ht,Value.cells]⟩
theorem post_true {s:ChangeSpec} {fn:Func} {args:Array Value} {ds gs:List (DataW H)} {before:List MemPlace} {W':World} {tb:TypeId} (hvars:s.vars=[]) (hW:DataW.Whole enc P fn.params.toList s.vars false W args.toList ds gs before)
 (hs:s.fn H ds={ results:=[.lit (.bool true)],args:=ds }) (hrt:fn.resultTypes = #[tb]) (htb:P.underlying tb=some .bool) (hts:∀ t∈fn.params.toList,t<P.types.size)
 (hb:Below W.heap.size W W') (hl:laidOutB P=true) (hmr:mapsRowed P=true) (hsl:((List.range P.types.size).all fun t=>match P.underlying t with|some (.slice e)=>decide (0<P.cellsOf e)|_=>true)=true) :
 s.post enc P fn false true false false W args (.bool true) W':=by
 have hW':=hW
 obtain⟨p,q,hA,hV,rfl,hfz,hnd⟩:=hW
 rw[hvars] at hV
 obtain⟨rfl,rfl⟩:=trodVars_none hV
 refine⟨ds,[],p++[],[],p,[],hW',?_,?_,?_,hb.frame _,fun h=>by cases h⟩
 ·rw[List.append_nil,hs,hrt]
  exact trodAll_mk1 (trod_bool_mk htb)
 ·rw[List.append_nil,hs]
  exact trodAll_carry hb hl hmr hsl hts hA
 ·rw[List.append_nil,hs,hvars];rfl
end
end Go.Proofs.YtoppcdecolponaaGreat.AL
namespace Go.Proofs.YtoppcdecolponaaGreat.AL
open Go
set_option linter.unusedVariables false
set_option linter.unusedSimpArgs false
theorem fresh_upd {m:Mem} {n k:Nat} {b:Option Blk} (h:Fresh m n) (hk:k<n):Fresh (upd m k b) n:=by
 intro j hj
 simp only[upd]
 rw[if_neg (by omega)]
 exact h j hj
theorem step_fresh1 {bs n n1:Nat} {io:O} {tm:Tm} {m m1:Mem} {v:Value} (hs:stepO bs io tm m n=some (v,m1,n1)) (h:Fresh m n):n≤n1∧Fresh m1 n1:=by
 have h1:∀ x:Option Blk,n≤n+1∧Fresh (upd m n x) (n+1):=fun x=>⟨by omega,h.upd x⟩
 have h0:n≤n∧Fresh m n:=⟨Nat.le_refl _,h⟩
 have hw:∀ {a:Addr} {v:Value} {m1:Mem},wr bs m a v=some m1→n≤n∧Fresh m1 n:=by
  intro a v m1 e
  unfold wr at e
  split at e
  ·cases e
  ·split at e
   ·rename_i blk hb
    split at e
    ·cases e
     refine⟨Nat.le_refl _,fresh_upd h ?_⟩
     rcases Nat.lt_or_ge a.block n with h2|h2
     ·exact h2
     ·rw[h _ h2] at hb;cases hb
    ·cases e
   ·cases e
 have hwn:∀ {a:Addr} {v:List Value} {m1:Mem},wrn bs m a v=some m1→n≤n∧Fresh m1 n:=by
  intro a v m1 e
  unfold wrn at e
  split at e
  ·cases e
  ·split at e
   ·rename_i blk hb
    split at e
    ·cases e
     refine⟨Nat.le_refl _,fresh_upd h ?_⟩
     rcases Nat.lt_or_ge a.block n with h2|h2
     ·exact h2
     ·rw[h _ h2] at hb;cases hb
    ·cases e
   ·cases e
 have happ:∀ {b0:Nat} {x:Option Blk},m b0≠none→n≤n+1∧Fresh (upd (upd m b0 none) n x) (n+1):=by
  intro b0 x hb
  refine⟨by omega,Fresh.upd (fresh_upd h ?_) x⟩
  rcases Nat.lt_or_ge b0 n with h2|h2
  ·exact h2
  ·exact absurd (h _ h2) hb
 cases io <;> simp only[stepO] at hs <;> (repeat' split at hs) <;>
  first
   | (cases hs;done)
   | (simp only[Option.some.injEq,Prod.mk.injEq] at hs;obtain⟨_,rfl,rfl⟩:=hs
      first
       | exact h0
       | exact h1 _
       | exact hw ‹_›
       | exact hwn ‹_›
       | (refine happ ?_;intro e;simp_all;done))
theorem mrg_fresh {h m:Mem} {n:Nat}:Fresh (mrg h m) n↔Fresh h n∧Fresh m n:=by
 constructor
 ·intro hf
  have:∀ b,n≤b→h b=none:=fun b hb=>by
   cases e:h b with
   | none=>rfl
   | some x=>have:=hf b hb;simp only[mrg,e] at this;cases this
  exact⟨this,fun b hb=>by have h1:=hf b hb;simp only[mrg,this b hb] at h1;exact h1⟩
 ·intro hf b hb
  simp only[mrg,hf.1 b hb];exact hf.2 b hb
def Task.fr (T:Task) (m:Mem) (n:Nat):Prop:=match T with
 | .opsH h _ _ _=>Fresh h n∧Fresh m n
 | _=>Fresh m n
theorem stepA_fresh {bs n n1:Nat} {io:O} {tm:Tm} {m m1:Mem} {v:Value} (hs:stepA bs io tm m n=some (v,m1,n1)) (h:Fresh m n):n≤n1∧Fresh m1 n1:=by
 obtain⟨sz,x,lo,hi,a,len,cap,h',l,b,_,_,_,_,_,_,_,_,hb,hbs,_,_,_,rfl,rfl,rfl⟩:=stepA_inv hs
 refine⟨by omega,Fresh.upd (fresh_upd h ?_) _⟩
 rcases Nat.lt_or_ge a.block n with h2|h2
 ·exact h2
 ·rw[h _ h2] at hb;cases hb
theorem HvR.fr {o:O} {tm:Tm} {n:Nat} {h m mh mh' h2 m2:Mem} {X:Xs} {T:List Nat} (hv:HvR o tm n h X T m mh mh' h2 m2) (hh:Fresh h n) (hm:Fresh m n):Fresh mh n:=fun b hb=>by
 cases e:mh b with
 | none=>rfl
 | some x =>
   rcases hv.sub b x e with⟨_,e1⟩|e1
   ·rw[hh b hb] at e1;cases e1
   ·rw[hm b hb] at e1;cases e1
theorem HvR.fr2 {o:O} {tm:Tm} {n n1:Nat} {h m mh mh' h2 m2:Mem} {X:Xs} {T:List Nat} (hv:HvR o tm n h X T m mh mh' h2 m2) (hn:n≤n1) (hh:Fresh h n) (hm:Fresh m n) (hx:Fresh mh' n1):Fresh h2 n1∧Fresh m2 n1:=by
 refine⟨fun b hb=>?_,fun b hb=>?_⟩
 ·cases e:h2 b with
  | none=>rfl
  | some x =>
    rcases hv.outH b x e with⟨h1,_⟩|⟨_,e1⟩
    ·omega
    ·rw[hx b hb] at e1;cases e1
 ·cases e:m2 b with
  | none=>rfl
  | some x =>
    rcases hv.outM b x e with⟨h1,_⟩|⟨_,e1⟩
    ·omega
    ·rw[hx b hb] at e1;cases e1
theorem Big.fresh' {G bs T m n r m1 n1} (h:Big G bs T m n r m1 n1):T.fr m n→n≤n1∧Fresh m1 n1:=by
 have up:∀ {h:Mem} {n n1:Nat},n≤n1→Fresh h n→Fresh h n1:=fun hn hf b hb=>hf b (by omega)
 induction h with
 | rgH hd _ ih=>intro h;exact ih (mrg_fresh.1 h)
 | opsPureH _ _ hs hd _ ih =>
   intro h
   obtain⟨h1,h2⟩:=step_fresh1 hs h
   obtain⟨h3,h4⟩:=ih (mrg_fresh.1 h2)
   exact⟨by omega,h4⟩
 | @opsNewH bs o l tm m n v blk r m2 n2 _ _ _ _ ih =>
   intro hf
   obtain⟨h3,h4⟩:=ih ⟨Fresh.upd (fun b hb=>rfl) _,up (Nat.le_succ _) hf⟩
   exact⟨by omega,h4⟩
 | hNil=>intro h;exact⟨Nat.le_refl _,mrg_fresh.2 h⟩
 | hBar _ _ ih=>intro h;exact ih (mrg_fresh.2 h)
 | hSkip _ _ _ ih=>intro h;exact ih h
 | hPure _ _ hs _ ih=>intro h;obtain⟨h1,h2⟩:=step_fresh1 hs h.2;obtain⟨h3,h4⟩:=ih ⟨up h1 h.1,h2⟩;exact⟨by omega,h4⟩
 | hCall _ _ _ _ _ ih1 ih2=>intro h;obtain⟨h1,h2⟩:=ih1 h.2;obtain⟨h3,h4⟩:=ih2 ⟨up h1 h.1,h2⟩;exact⟨by omega,h4⟩
 | @hNew bs h X o l tm m n v blk r m2 n2 _ _ _ _ ih =>
   intro hf
   obtain⟨h3,h4⟩:=ih ⟨Fresh.upd hf.1 _,up (Nat.le_succ _) hf.2⟩
   exact⟨by omega,h4⟩
 | hHvO _ _ hs hv _ ih =>
   intro hf
   obtain⟨h1,h2⟩:=step_fresh1 hs (hv.fr hf.1 hf.2)
   obtain⟨h3,h4⟩:=ih (hv.fr2 h1 hf.1 hf.2 h2)
   exact⟨by omega,h4⟩
 | hHvC _ _ _ _ hv _ ih1 ih =>
   intro hf
   obtain⟨h1,h2⟩:=ih1 (hv.fr hf.1 hf.2)
   obtain⟨h3,h4⟩:=ih (hv.fr2 h1 hf.1 hf.2 h2)
   exact⟨by omega,h4⟩
 | @hSide bs h X o l tm m n b0 blk blk1 s a v r m2 n2 _ _ _ hb0 _ _ _ _ _ ih =>
   intro hf
   refine ih ⟨fresh_upd hf.1 ?_,hf.2⟩
   rcases Nat.lt_or_ge b0 n with h2|h2
   ·exact h2
   ·rw[hf.1 _ h2] at hb0;cases hb0
 | seqN _ _ ih1 ih2=>intro h;obtain⟨h1,h2⟩:=ih1 h;obtain⟨h3,h4⟩:=ih2 h2;exact⟨by omega,h4⟩
 | loopN _ _ ih1 ih2=>intro h;obtain⟨h1,h2⟩:=ih1 h;obtain⟨h3,h4⟩:=ih2 h2;exact⟨by omega,h4⟩
 | opsPure _ hs _ ih=>intro h;obtain⟨h1,h2⟩:=step_fresh1 hs h;obtain⟨h3,h4⟩:=ih h2;exact⟨by omega,h4⟩
 | opsAlt _ _ hs _ ih=>intro h;obtain⟨h1,h2⟩:=stepA_fresh hs h;obtain⟨h3,h4⟩:=ih h2;exact⟨by omega,h4⟩
 | opsCall _ _ _ _ ih1 ih2=>intro h;obtain⟨h1,h2⟩:=ih1 h;obtain⟨h3,h4⟩:=ih2 h2;exact⟨by omega,h4⟩
 | drop _ hs ih =>
   intro h
   obtain⟨h1,h2⟩:=ih h
   refine⟨h1,fun b hb=>?_⟩
   cases e:(_:Mem) b with
   | none=>exact e
   | some x=>have:=hs b x e;rw[h2 b hb] at this;cases this
 | callS _ _ _ _=>intro h;exact⟨Nat.le_refl _,h⟩
 | callN _=>intro h;exact⟨Nat.le_refl _,h⟩
 | callJ _=>intro h;exact⟨Nat.le_refl _,h⟩
 | rst _ _ _ _=>intro h;exact⟨Nat.le_refl _,h⟩
 | skip=>intro h;exact⟨Nat.le_refl _,h⟩
 | ret=>intro h;exact⟨Nat.le_refl _,h⟩
 | exit=>intro h;exact⟨Nat.le_refl _,h⟩
 | opsNil=>intro h;exact⟨Nat.le_refl _,h⟩
 | _=>rename_i ih;exact ih
theorem Big.fresh {G bs T m n r m1 n1} (h:Big G bs T m n r m1 n1) (hf:Fresh m n) (hT:∀ h1 X l tm,T≠.opsH h1 X l tm:=by intros;intro e;cases e):n≤n1∧Fresh m1 n1:=by
 have:=h.fresh'
 cases T with
 | opsH h1 X l tm=>exact absurd rfl (hT h1 X l tm)
 | _=>exact this hf
theorem CallW.fresh {G f args bs m n K} (h:CallW G f args bs m n K) (hf:Fresh m n):CallW G f args bs m n fun v m1 n1=>K v m1 n1∧n≤n1∧Fresh m1 n1:=by
 obtain⟨v,m1,n1,b,k⟩:=h
 exact⟨v,m1,n1,b,k,b.fresh hf⟩
theorem flat_len {k:Nat}:∀ {rows:List (List Value)},(∀ r,r∈rows→r.length=k)→rows.flatten.length=rows.length * k
 | [],_=>by simp
 | r::rows,h=>by
   simp only[List.flatten_cons,List.length_append,List.length_cons,flat_len fun x hx=>h x (List.mem_cons_of_mem _ hx),h r (List.mem_cons_self ..),Nat.succ_mul]
   omega
theorem flat_row {k:Nat}:∀ {rows:List (List Value)} {i:Nat} {r:List Value},(∀ r,r∈rows→r.length=k)→rows[i]?=some r→i * k+k≤rows.flatten.length∧(rows.flatten.drop (i * k)).take k=r
 | [],i,r,_,h=>by simp at h
 | r0::rows,0,r,hall,h=>by
   simp at h;subst h
   have h0:=hall r0 (List.mem_cons_self ..)
   refine⟨by simp [h0],?_⟩
   rw[Nat.zero_mul,List.drop_zero,List.flatten_cons,List.take_append_of_le_length (by omega),List.take_of_length_le (by omega)]
 | r0::rows,i+1,r,hall,h=>by
   have h0:=hall r0 (List.mem_cons_self ..)
   obtain⟨h1,h2⟩:=flat_row (fun r hr=>hall r (List.mem_cons_of_mem _ hr)) (by simpa using h:rows[i]?=some r)
   refine⟨by rw[List.flatten_cons,List.length_append,Nat.succ_mul];omega,?_⟩
   rw[List.flatten_cons,Nat.succ_mul,Nat.add_comm,←List.drop_drop,←h0,List.drop_left,h0]
   exact h2
end Go.Proofs.YtoppcdecolponaaGreat.AL
namespace Go.Proofs.YtoppcdecolponaaGreat.AL
open Go
theorem Y.{u} {α:Sort u} {a:α}:a=a:=rfl
set_option linter.unusedVariables false
set_option linter.unusedSimpArgs false
inductive V where
 | w (v:Value)
 | agg (cs:List V)
 | tup (cs:List V)
 | sl (k:Nat) (rows:List (List V))
 | rp (row:List V) (off:Nat)
 | cp (b off:Nat)
 | ap (b len j off:Nat)
 | ls (b len:Nat)
 | fn (f:Nat) (caps:List V)
 | raw (x:Value)
inductive LB where
 | cell (row:List V)
 | arr (k:Nat) (rows:List (List V))
 | gone
 | dead
def LB.sz:LB→Nat
 | .cell _=>1
 | .arr k _=>k
 | .gone=>1
 | .dead=>0
def LB.cl:LB→Prop
 | .arr _ _=>False
 | .dead=>False
 | _=>True
def V.nar:V→Bool
 | .agg _|.tup _=>false
 | _=>true
inductive RF (M:Mem):V→Value→Prop
 | w {v} (h:flatW v=true):RF M (.w v) v
 | agg {cs:List V} {vs:Array Value} (hl:cs.length=vs.size) (h:∀ (i:Nat) x y,cs[i]?=some x→vs[i]?=some y→RF M x y):RF M (.agg cs) (.agg vs)
 | tup {cs:List V} {vs:Array Value} (hl:cs.length=vs.size) (h:∀ (i:Nat) x y,cs[i]?=some x→vs[i]?=some y→RF M x y):RF M (.tup cs) (.tuple vs)
 | sl {k:Nat} {rows:List (List V)} {a:Option Addr} {c:Nat} {rows':List (List Value)} (hc:rows.length≤c) (ha:RowsAt M k a rows') (hl:rows'.length=rows.length)
    (hn:∀ (i:Nat) r (j:Nat) x,rows[i]?=some r→r[j]?=some x→x.nar=true)
    (hk:∀ (i:Nat) r r',rows[i]?=some r→rows'[i]?=some r'→r.length=r'.length)
    (h:∀ (i:Nat) r r' (j:Nat) x y,rows[i]?=some r→rows'[i]?=some r'→r[j]?=some x→r'[j]?=some y→RF M x y):RF M (.sl k rows) (.slice a rows.length c)
 | rp {row:List V} {off b o:Nat} {blk:Blk} (hb:M b=some blk) (hr:o+row.length≤blk.cells.length)
    (h:∀ (j:Nat) x y,row[j]?=some x→blk.cells[o+j]?=some y→RF M x y):RF M (.rp row off) (.pointer (some ⟨b,o+off,none⟩))
 | fn {f:Nat} {caps:List V} {vs:Array Value} (hl:caps.length=vs.size) (h:∀ (i:Nat) x y,caps[i]?=some x→vs[i]?=some y→RF M x y):RF M (.fn f caps) (.func (.func f) #[] vs)
 | raw {x} (h:wideV x=false):RF M (.raw x) x
def slOf (a:Option Nat) (len:Nat):Value:=match a with
 | some ad=>.slice (some ⟨ad,0,none⟩) len len
 | none=>.slice none 0 0
abbrev Zl:=List (Option Nat×LB)
inductive RL (M:Mem) (Z:Zl):V→Value→Prop
 | fz {v x} (h:RF M v x):RL M Z v x
 | agg {cs:List V} {vs:Array Value} (hl:cs.length=vs.size) (h:∀ (i:Nat) x y,cs[i]?=some x→vs[i]?=some y→RL M Z x y):RL M Z (.agg cs) (.agg vs)
 | tup {cs:List V} {vs:Array Value} (hl:cs.length=vs.size) (h:∀ (i:Nat) x y,cs[i]?=some x→vs[i]?=some y→RL M Z x y):RL M Z (.tup cs) (.tuple vs)
 | fn {f:Nat} {caps:List V} {vs:Array Value} (hl:caps.length=vs.size) (h:∀ (i:Nat) x y,caps[i]?=some x→vs[i]?=some y→RL M Z x y):RL M Z (.fn f caps) (.func (.func f) #[] vs)
 | cp {b off a:Nat} {lb:LB} (hz:Z[b]?=some (some a,lb)) (hc:lb.cl):RL M Z (.cp b off) (.pointer (some ⟨a,off,none⟩))
 | ap {b len j off k:Nat} {a:Option Nat} {rows:List (List V)} {x:Value} (hz:Z[b]?=some (a,.arr k rows)) (hle:len≤rows.length) (hw:wideV x=false)
    (h:rows.length=len→∃ ad,a=some ad∧x=.pointer (some ⟨ad,j * k+off,none⟩)):RL M Z (.ap b len j off) x
 | ls {b len k:Nat} {a:Option Nat} {rows:List (List V)} {x:Value} (hz:Z[b]?=some (a,.arr k rows)) (hle:len≤rows.length) (hw:wideV x=false)
    (h:rows.length=len→x=slOf a len):RL M Z (.ls b len) x
 | apD {b len j off:Nat} {a:Option Nat} {x:Value} (hz:Z[b]?=some (a,.dead)) (hw:wideV x=false):RL M Z (.ap b len j off) x
 | lsD {b len:Nat} {a:Option Nat} {x:Value} (hz:Z[b]?=some (a,.dead)) (hw:wideV x=false):RL M Z (.ls b len) x
theorem RF.mono {M M1:Mem} (hs:sub M M1) {v x} (h:RF M v x):RF M1 v x:=by
 induction h with
 | w h=>exact .w h
 | agg hl _ ih=>exact .agg hl ih
 | tup hl _ ih=>exact .tup hl ih
 | sl hc ha hl hn hk _ ih=>exact .sl hc (ha.mono hs) hl hn hk ih
 | rp hb hr _ ih=>exact .rp (hs _ _ hb) hr ih
 | fn hl _ ih=>exact .fn hl ih
 | raw h=>exact .raw h
theorem RF.nar {M v x} (h:RF M v x) (hn:v.nar=true):wideV x=false:=by
 cases h with
 | raw h=>exact h
 | w h=>cases x <;> first|rfl|cases h
 | agg=>cases hn
 | tup=>cases hn
 | _=>rfl
theorem RL.nar {M Z v x} (h:RL M Z v x) (hn:v.nar=true):wideV x=false:=by
 cases h with
 | fz h=>exact h.nar hn
 | agg=>cases hn
 | tup=>cases hn
 | fn=>rfl
 | cp=>rfl
 | ap _ _ hw=>exact hw
 | ls _ _ hw=>exact hw
 | apD _ hw=>exact hw
 | lsD _ hw=>exact hw
def grow (p p1:Option Nat×LB):Prop:=match p.2 with
 | .cell _=>p1.2.cl∧p1.1=p.1
 | .gone=>p1.2.cl∧p1.1=p.1
 | .arr k rows=>(∃ rows1,p1.2=.arr k rows1∧rows.length≤rows1.length∧(rows1.length=rows.length→p1.1=p.1))∨p1.2=.dead
 | .dead=>p1.2=.dead
theorem grow.refl (p):grow p p:=by
 unfold grow
 obtain⟨a,lb⟩:=p
 cases lb with
 | cell row=>exact⟨trivial,rfl⟩
 | gone=>exact⟨trivial,rfl⟩
 | arr k rows=>exact .inl ⟨rows,rfl,Nat.le_refl _,fun _=>rfl⟩
 | dead=>exact rfl
theorem grow.cl {p p1} (h:grow p p1) (hc:p.2.cl):p1.2.cl∧p1.1=p.1:=by
 unfold grow at h
 obtain⟨a,lb⟩:=p
 cases lb with
 | cell row=>exact h
 | gone=>exact h
 | arr k rows=>exact hc.elim
 | dead=>exact hc.elim
theorem grow.ofCl {p p1:Option Nat×LB} (hc:p.2.cl) (hc1:p1.2.cl) (e:p1.1=p.1):grow p p1:=by
 unfold grow
 obtain⟨a,lb⟩:=p
 cases lb with
 | cell row=>exact⟨hc1,e⟩
 | gone=>exact⟨hc1,e⟩
 | arr k rows=>exact hc.elim
 | dead=>exact hc.elim
theorem grow.arr {a k rows p1} (h:grow (a,.arr k rows) p1):(∃ rows1,p1.2=.arr k rows1∧rows.length≤rows1.length∧(rows1.length=rows.length→p1.1=a))∨p1.2=.dead:=h
theorem grow.deadI {a p1} (h:grow (a,.dead) p1):p1.2=.dead:=h
theorem grow.trans {p q r} (h:grow p q) (k:grow q r):grow p r:=by
 by_cases hc:p.2.cl
 ·obtain⟨h1,h2⟩:=h.cl hc
  obtain⟨h3,h4⟩:=k.cl h1
  exact .ofCl hc h3 (h4.trans h2)
 ·obtain⟨a,lb⟩:=p
  obtain⟨a1,lb1⟩:=q
  obtain⟨a2,lb2⟩:=r
  cases lb with
  | cell row=>exact(hc trivial).elim
  | gone=>exact(hc trivial).elim
  | dead =>
    have:=h.deadI
    simp only at this
    subst this
    exact k.deadI
  | arr s rows =>
    rcases h.arr with⟨r1,e,h1,h2⟩|e
    ·simp only at e h2
     subst e
     rcases k.arr with⟨r2,e,h3,h4⟩|e
     ·simp only at e h4
      subst e
      exact .inl ⟨r2,rfl,by omega,fun e=>by
       have:=h4 (by omega)
       have:=h2 (by omega)
       simp only
       simp_all⟩
     ·exact .inr e
    ·simp only at e
     subst e
     exact .inr k.deadI
structure ExtV (Z:Zl) (M:Mem) (Z1:Zl) (M1:Mem):Prop where
 hM:sub M M1
 hZ:∀ (b:Nat) p,Z[b]?=some p→∃ p1,Z1[b]?=some p1∧grow p p1
theorem ExtV.refl (Z M):ExtV Z M Z M:=⟨sub_refl _,fun _ p h=>⟨p,h,grow.refl p⟩⟩
theorem ExtV.tr {Z M Z1 M1 Z2 M2} (h:ExtV Z M Z1 M1) (k:ExtV Z1 M1 Z2 M2):ExtV Z M Z2 M2:=
 ⟨sub_trans h.hM k.hM,fun b p hp=>let ⟨p1,h1,g1⟩:=h.hZ b p hp;let ⟨p2,h2,g2⟩:=k.hZ b p1 h1;⟨p2,h2,g1.trans g2⟩⟩
structure ExtN (N:Nat) (Z:Zl) (M:Mem) (Z1:Zl) (M1:Mem):Prop where
 hM:sub M M1
 hZ:∀ (b:Nat) p,b<N→Z[b]?=some p→∃ p1,Z1[b]?=some p1∧grow p p1
theorem ExtV.toN {N Z M Z1 M1} (h:ExtV Z M Z1 M1):ExtN N Z M Z1 M1:=⟨h.hM,fun b p _ hp=>h.hZ b p hp⟩
theorem ExtN.trans {N Z M Z1 M1 Z2 M2} (h:ExtN N Z M Z1 M1) (k:ExtN N Z1 M1 Z2 M2):ExtN N Z M Z2 M2:=
 ⟨sub_trans h.hM k.hM,fun b p hb hp=>let ⟨p1,h1,g1⟩:=h.hZ b p hb hp;let ⟨p2,h2,g2⟩:=k.hZ b p1 hb h1;⟨p2,h2,g1.trans g2⟩⟩
theorem ExtV.trans {N Z M Z1 M1 Z2 M2} (h:ExtV Z M Z1 M1) (k:ExtN N Z1 M1 Z2 M2):ExtN N Z M Z2 M2:=h.toN.trans k
theorem ExtN.refl (N Z M):ExtN N Z M Z M:=(ExtV.refl Z M).toN
theorem ExtN.less {N N1 Z M Z1 M1} (h:ExtN N Z M Z1 M1) (hn:N1≤N):ExtN N1 Z M Z1 M1:=⟨h.hM,fun b p hb hp=>h.hZ b p (by omega) hp⟩
theorem RL.mono {Z M Z1 M1} (he:ExtV Z M Z1 M1) {v x} (h:RL M Z v x):RL M1 Z1 v x:=by
 induction h with
 | fz h=>exact .fz (h.mono he.hM)
 | agg hl _ ih=>exact .agg hl ih
 | tup hl _ ih=>exact .tup hl ih
 | fn hl _ ih=>exact .fn hl ih
 | cp hz hc =>
   obtain⟨⟨a1,lb1⟩,h1,hg⟩:=he.hZ _ _ hz
   obtain⟨e,e1⟩:=hg.cl hc
   simp only at e e1
   subst e1
   exact .cp h1 e
 | ap hz hle hw h =>
   obtain⟨⟨a1,lb1⟩,h1,g⟩:=he.hZ _ _ hz
   rcases g.arr with⟨r1,e,g1,g2⟩|e
   ·simp only at e g2
    subst e
    refine .ap h1 (by omega) hw fun e=>?_
    obtain⟨ad,e1,e2⟩:=h (by omega)
    exact⟨ad,by rw[g2 (by omega),e1],e2⟩
   ·simp only at e
    subst e
    exact .apD h1 hw
 | ls hz hle hw h =>
   obtain⟨⟨a1,lb1⟩,h1,g⟩:=he.hZ _ _ hz
   rcases g.arr with⟨r1,e,g1,g2⟩|e
   ·simp only at e g2
    subst e
    refine .ls h1 (by omega) hw fun e=>?_
    rw[h (by omega),g2 (by omega)]
   ·simp only at e
    subst e
    exact .lsD h1 hw
 | apD hz hw =>
   obtain⟨⟨a1,lb1⟩,h1,g⟩:=he.hZ _ _ hz
   have e:=g.deadI
   simp only at e
   subst e
   exact .apD h1 hw
 | lsD hz hw =>
   obtain⟨⟨a1,lb1⟩,h1,g⟩:=he.hZ _ _ hz
   have e:=g.deadI
   simp only at e
   subst e
   exact .lsD h1 hw
theorem RL.w_inv {M Z v x} (h:RL M Z (.w v) x):x=v∧flatW v=true:=by
 cases h with
 | fz h=>cases h with|w h=>exact⟨rfl,h⟩
theorem RL.agg_inv {M Z cs x} (h:RL M Z (.agg cs) x):∃ vs:Array Value,x=.agg vs∧cs.length=vs.size∧∀ (i:Nat) u y,cs[i]?=some u→vs[i]?=some y→RL M Z u y:=by
 cases h with
 | fz h=>cases h with|agg hl h=>exact⟨_,rfl,hl,fun i u y h1 h2=>.fz (h i u y h1 h2)⟩
 | agg hl h=>exact⟨_,rfl,hl,h⟩
theorem RL.tup_inv {M Z cs x} (h:RL M Z (.tup cs) x):∃ vs:Array Value,x=.tuple vs∧cs.length=vs.size∧∀ (i:Nat) u y,cs[i]?=some u→vs[i]?=some y→RL M Z u y:=by
 cases h with
 | fz h=>cases h with|tup hl h=>exact⟨_,rfl,hl,fun i u y h1 h2=>.fz (h i u y h1 h2)⟩
 | tup hl h=>exact⟨_,rfl,hl,h⟩
theorem RL.fn_inv {M Z f cs x} (h:RL M Z (.fn f cs) x):∃ vs:Array Value,x=.func (.func f) #[] vs∧cs.length=vs.size∧∀ (i:Nat) u y,cs[i]?=some u→vs[i]?=some y→RL M Z u y:=by
 cases h with
 | fz h=>cases h with|fn hl h=>exact⟨_,rfl,hl,fun i u y h1 h2=>.fz (h i u y h1 h2)⟩
 | fn hl h=>exact⟨_,rfl,hl,h⟩
theorem RL.raw_inv {M Z v x} (h:RL M Z (.raw v) x):x=v∧wideV x=false:=by
 cases h with
 | fz h=>cases h with|raw h=>exact⟨rfl,h⟩
theorem RL.sl_inv {M Z k rows x} (h:RL M Z (.sl k rows) x):RF M (.sl k rows) x:=by
 cases h with|fz h=>exact h
theorem RL.rp_inv {M Z row off x} (h:RL M Z (.rp row off) x):RF M (.rp row off) x:=by
 cases h with|fz h=>exact h
theorem RL.cp_inv {M Z b off x} (h:RL M Z (.cp b off) x):∃ a lb,Z[b]?=some (some a,lb)∧x=.pointer (some ⟨a,off,none⟩):=by
 cases h with
 | fz h=>cases h
 | cp hz hc=>exact⟨_,_,hz,rfl⟩
theorem RL.cp_inv' {M Z b off x} (h:RL M Z (.cp b off) x):∃ a lb,Z[b]?=some (some a,lb)∧x=.pointer (some ⟨a,off,none⟩)∧lb.cl:=by
 cases h with
 | fz h=>cases h
 | cp hz hc=>exact⟨_,_,hz,rfl,hc⟩
theorem RL.ls_inv {M Z b len x} (h:RL M Z (.ls b len) x) {k rows a} (hz:Z[b]?=some (a,.arr k rows)) (hl:rows.length=len):x=slOf a len:=by
 cases h with
 | fz h=>cases h
 | ls hz' _ _ h=>rw[hz] at hz';cases hz';exact h hl
 | lsD hz' _=>rw[hz] at hz';cases hz'
theorem RL.ap_inv {M Z b len j off x} (h:RL M Z (.ap b len j off) x) {k rows a} (hz:Z[b]?=some (a,.arr k rows)) (hl:rows.length=len):∃ ad,a=some ad∧x=.pointer (some ⟨ad,j * k+off,none⟩):=by
 cases h with
 | fz h=>cases h
 | ap hz' _ _ h=>rw[hz] at hz';cases hz';exact h hl
 | apD hz' _=>rw[hz] at hz';cases hz'
def Pt (R:V→Value→Prop) (l:List V) (l':List Value):Prop:=l.length=l'.length∧∀ (i:Nat) x y,l[i]?=some x→l'[i]?=some y→R x y
theorem Pt.mono {R R':V→Value→Prop} {l l'} (h:Pt R l l') (hr:∀ x y,R x y→R' x y):Pt R' l l':=⟨h.1,fun i x y h1 h2=>hr _ _ (h.2 i x y h1 h2)⟩
theorem Pt.nil {R}:Pt R [] []:=⟨rfl,fun i x y h=>by simp at h⟩
theorem Pt.cons {R:V→Value→Prop} {v x l l'} (h:R v x) (hs:Pt R l l'):Pt R (v::l) (x::l'):=by
 refine⟨by simp [hs.1],fun i u y h1 h2=>?_⟩
 cases i with
 | zero=>simp at h1 h2;subst h1 h2;exact h
 | succ i=>exact hs.2 i u y (by simpa using h1) (by simpa using h2)
theorem Pt.uncons {R:V→Value→Prop} {v l l'} (h:Pt R (v::l) l'):∃ x r,l'=x::r∧R v x∧Pt R l r:=by
 cases l' with
 | nil=>have:=h.1;simp at this
 | cons x r=>exact⟨x,r,rfl,h.2 0 _ _ rfl rfl,by have:=h.1;simp at this;exact this,fun i u y h1 h2=>h.2 (i+1) u y (by simpa using h1) (by simpa using h2)⟩
theorem Pt.unnil {R:V→Value→Prop} {l'} (h:Pt R [] l'):l'=[]:=by
 have:=h.1;exact List.eq_nil_of_length_eq_zero (by simpa using this.symm)
theorem Pt.get {R:V→Value→Prop} {l l'} (h:Pt R l l') {i:Nat} {x:V} (hx:l[i]?=some x):∃ y,l'[i]?=some y∧R x y:=by
 have hi:=(List.getElem?_eq_some_iff.1 hx).1
 have hi':i<l'.length:=by rw[←h.1];exact hi
 exact⟨l'[i],List.getElem?_eq_getElem hi',h.2 i x _ hx (List.getElem?_eq_getElem hi')⟩
theorem Pt.append {R:V→Value→Prop} {a b a' b'} (h:Pt R a a') (k:Pt R b b'):Pt R (a++b) (a'++b'):=by
 refine⟨by simp [h.1,k.1],fun i x y h1 h2=>?_⟩
 rw[List.getElem?_append] at h1 h2
 rw[h.1] at h1
 split at h1
 ·rename_i hi;rw[if_pos hi] at h2;exact h.2 i x y h1 h2
 ·rename_i hi;rw[if_neg hi] at h2;exact k.2 _ x y h1 h2
theorem Pt.take {R:V→Value→Prop} {a a'} (h:Pt R a a') (c:Nat):Pt R (a.take c) (a'.take c):=by
 refine⟨by simp [h.1],fun i x y h1 h2=>?_⟩
 rw[List.getElem?_take] at h1 h2
 split at h1
 ·rename_i hi;rw[if_pos hi] at h2;exact h.2 i x y h1 h2
 ·cases h1
theorem Pt.drop {R:V→Value→Prop} {a a'} (h:Pt R a a') (c:Nat):Pt R (a.drop c) (a'.drop c):=by
 refine⟨by simp [h.1],fun i x y h1 h2=>?_⟩
 rw[List.getElem?_drop] at h1 h2
 exact h.2 _ x y h1 h2
theorem Pt.set {R:V→Value→Prop} {a a'} (h:Pt R a a') (c:Nat) {v x} (hv:R v x):Pt R (a.set c v) (a'.set c x):=by
 refine⟨by simp [h.1],fun i u y h1 h2=>?_⟩
 rw[List.getElem?_set] at h1 h2
 rw[h.1] at h1
 by_cases hc:c=i
 ·rw[if_pos hc] at h1 h2
  split at h1
  ·rename_i hi;rw[if_pos hi] at h2;cases h1;cases h2;exact hv
  ·cases h1
 ·rw[if_neg hc] at h1 h2;exact h.2 i u y h1 h2
def LB.rel (M:Mem) (Z:Zl):LB→List Value→Prop
 | .cell row,cells=>Pt (RL M Z) row cells
 | .gone,_=>False
 | .dead,_=>False
 | .arr k rows,cells=>∃ rows':List (List Value),cells=rows'.flatten∧rows'.length=rows.length∧(∀ r',r'∈rows'→r'.length=k) ∧
    (∀ (i:Nat) r r',rows[i]?=some r→rows'[i]?=some r'→Pt (RF M) r r')∧∀ (i:Nat) r (j:Nat) x,rows[i]?=some r→r[j]?=some x→x.nar=true
theorem LB.rel.mono {M Z M1 Z1 lb cells} (he:ExtV Z M Z1 M1) (h:LB.rel M Z lb cells):LB.rel M1 Z1 lb cells:=by
 cases lb with
 | cell row=>exact Pt.mono h fun x y=>RL.mono he
 | gone=>exact h.elim
 | dead=>exact h.elim
 | arr k rows =>
   obtain⟨rows',h1,h2,h3,h4,h5⟩:=h
   exact⟨rows',h1,h2,h3,fun i r r' hr hr'=>(h4 i r r' hr hr').mono fun x y=>RF.mono he.hM,h5⟩
def LB.at (M:Mem) (Z:Zl) (m:Mem) (a:Nat):LB→Prop
 | .gone=>m a=none
 | .dead=>False
 | .cell row=>∃ cells,m a=some ⟨cells,true,LB.sz (.cell row)⟩∧LB.rel M Z (.cell row) cells
 | .arr k rows=>∃ cells,m a=some ⟨cells,true,LB.sz (.arr k rows)⟩∧LB.rel M Z (.arr k rows) cells
theorem LB.at.mono {M Z m a lb M1 Z1 m1} (h:LB.at M Z m a lb) (he:ExtV Z M Z1 M1) (hm:m1 a=m a):LB.at M1 Z1 m1 a lb:=by
 cases lb with
 | gone=>exact hm.trans h
 | dead=>exact h.elim
 | cell row=>obtain⟨cells,h1,h2⟩:=h;exact⟨cells,hm.trans h1,LB.rel.mono he h2⟩
 | arr k rows=>obtain⟨cells,h1,h2⟩:=h;exact⟨cells,hm.trans h1,LB.rel.mono he h2⟩
theorem LB.at.of {M Z m a lb cells} (h1:m a=some ⟨cells,true,lb.sz⟩) (h2:LB.rel M Z lb cells):LB.at M Z m a lb:=by
 cases lb with
 | gone=>exact h2.elim
 | dead=>exact h2.elim
 | cell row=>exact⟨cells,h1,h2⟩
 | arr k rows=>exact⟨cells,h1,h2⟩
theorem LB.at.map {M Z m a lb M1 Z1 m1} (h:LB.at M Z m a lb) (hm:m1 a=m a) (hr:∀ cells,m a=some ⟨cells,true,lb.sz⟩→LB.rel M Z lb cells→LB.rel M1 Z1 lb cells):LB.at M1 Z1 m1 a lb:=by
 cases lb with
 | gone=>exact hm.trans h
 | dead=>exact h.elim
 | cell row=>obtain⟨cells,h1,h2⟩:=h;exact⟨cells,hm.trans h1,hr cells h1 h2⟩
 | arr k rows=>obtain⟨cells,h1,h2⟩:=h;exact⟨cells,hm.trans h1,hr cells h1 h2⟩
structure Cx (N:Nat) where
 m0:Mem
 ma:Mem
 n0:Nat
 bs:Nat
 br:List Nat
 ad:List (Option Nat)
 hN:ad.length≤N
def Cx.okA {N:Nat} (c:Cx N) (a:Nat):Prop:=c.n0≤a∨a∈c.br
structure StM {N:Nat} (c:Cx N) (Z:Zl) (M:Mem) (L:List LB) (m:Mem) (n:Nat):Prop where
 hbs:c.bs≤c.n0
 hn:c.n0≤n
 fresh:Fresh m n
 hL:Z.map (·.2)=L
 hM:∀ b x,M b=some x→m b=some x∧(c.ma b=some x∨c.n0≤b)∧∀ (i:Nat) lb,Z[i]?≠some (some b,lb)
 h0:sub c.m0 m
 f0:Fresh c.m0 c.n0
 hma:sub c.ma M
 hbr:∀ a,a∈c.br→c.bs≤a∧c.m0 a=none∧a<c.n0
 cell:∀ (i:Nat) a lb,Z[i]?=some (some a,lb)→c.okA a∧a<n∧lb.at M Z m a
 nl:∀ (i:Nat) lb,Z[i]?=some (none,lb)→lb=.dead∨∃ k,lb=.arr k []
 inj:∀ (i j:Nat) a lb lb',Z[i]?=some (some a,lb)→Z[j]?=some (some a,lb')→i=j
 lo:∀ (i:Nat) a lb,Z[i]?=some (some a,lb)→c.n0≤a∨c.ad[i]?=some (some a)
def Cx.up {N N1:Nat} (c:Cx N) (h:N≤N1):Cx N1:=⟨c.m0,c.ma,c.n0,c.bs,c.br,c.ad,Nat.le_trans c.hN h⟩
theorem StM.up {N N1:Nat} {c:Cx N} {h:N≤N1} {Z M L m n} (k:StM c Z M L m n):StM (c.up h) Z M L m n:=⟨k.hbs,k.hn,k.fresh,k.hL,k.hM,k.h0,k.f0,k.hma,k.hbr,k.cell,k.nl,k.inj,k.lo⟩
theorem StM.down {N N1:Nat} {c:Cx N} {h:N≤N1} {Z M L m n} (k:StM (c.up h) Z M L m n):StM c Z M L m n:=⟨k.hbs,k.hn,k.fresh,k.hL,k.hM,k.h0,k.f0,k.hma,k.hbr,k.cell,k.nl,k.inj,k.lo⟩
theorem StM.nil {N:Nat} {c:Cx N} {Z M L m n} (h:StM c Z M L m n) (i:Nat) (lb:LB) (hz:Z[i]?=some (none,lb)) (hd:lb≠.dead:=by intro e;cases e):∃ k,lb=.arr k []:=by
 rcases h.nl i lb hz with e|e
 ·exact absurd e hd
 ·exact e
def look:List (Nat×V)→Nat→Option V
 | [],_=>none
 | (j,v)::l,i=>bif Nat.beq i j then some v else look l i
def Slots (M:Mem) (Z:Zl) (tl:List (Nat×V)) (tm:Tm):Prop:=∀ t v,look tl t=some v→RL M Z v (tm t)
theorem Slots.mono {M Z M1 Z1 tl tm} (he:ExtV Z M Z1 M1) (h:Slots M Z tl tm):Slots M1 Z1 tl tm:=fun t v hv=>(h t v hv).mono he
theorem Slots.put {M Z tl tm} (h:Slots M Z tl tm) {d:Nat} {v x} (hv:RL M Z v x):Slots M Z ((d,v)::tl) (upd tm d x):=by
 intro t u hu
 simp only[look] at hu
 simp only[upd]
 cases e:Nat.beq t d with
 | true =>
   rw[e] at hu
   have:=Nat.eq_of_beq_eq_true e
   simp only[cond_true,Option.some.injEq] at hu
   subst hu
   rw[if_pos this];exact hv
 | false =>
   rw[e] at hu
   have:=Nat.ne_of_beq_eq_false e
   rw[if_neg this];exact h t u hu
theorem StM.getZ {N:Nat} {c:Cx N} {Z M L m n} (h:StM c Z M L m n) {b:Nat} {lb} (hb:L[b]?=some lb):∃ a,Z[b]?=some (a,lb):=by
 rw[←h.hL,List.getElem?_map] at hb
 cases e:Z[b]? with
 | none=>rw[e] at hb;cases hb
 | some p=>rw[e] at hb;simp at hb;subst hb;exact⟨p.1,rfl⟩
theorem StM.lenZ {N:Nat} {c:Cx N} {Z M L m n} (h:StM c Z M L m n):Z.length=L.length:=by rw[←h.hL];simp
theorem StM.bsA {N:Nat} {c:Cx N} {Z M L m n} (h:StM c Z M L m n) {a:Nat} (ha:c.okA a):c.bs≤a:=by
 rcases ha with ha|ha
 ·have:=h.hbs;omega
 ·exact(h.hbr a ha).1
theorem StM.m0A {N:Nat} {c:Cx N} {Z M L m n} (h:StM c Z M L m n) {a:Nat} (ha:c.okA a):c.m0 a=none:=by
 rcases ha with ha|ha
 ·exact h.f0 a ha
 ·exact(h.hbr a ha).2.1
theorem sub_fr' {m0 m:Mem} {n0 a:Nat} {b:Option Blk} (h:sub m0 m) (hf:Fresh m0 n0) (ha:n0≤a):sub m0 (upd m a b):=sub_upd h (hf a ha)
theorem StM.push {N:Nat} {c:Cx N} {Z M L m n} (h:StM c Z M L m n) (lb:LB) (cells:List Value) (hr:lb.rel M Z cells) :
 ExtV Z M (Z++[(some n,lb)]) M∧StM c (Z++[(some n,lb)]) M (L++[lb]) (upd m n (some ⟨cells,true,lb.sz⟩)) (n+1)∧(Z++[(some n,lb)])[L.length]?=some (some n,lb):=by
 have hlt:∀ (i:Nat) p,Z[i]?=some p→i<Z.length:=fun i p hp=>(List.getElem?_eq_some_iff.1 hp).1
 have hget:∀ (i:Nat) p,(Z++[(some n,lb)])[i]?=some p→Z[i]?=some p∨(i=Z.length∧p=(some n,lb)):=by
  intro i p hp
  rw[List.getElem?_append] at hp
  split at hp
  ·exact .inl hp
  ·rename_i hi
   rw[List.getElem?_singleton] at hp
   split at hp
   ·cases hp;exact .inr ⟨by omega,rfl⟩
   ·cases hp
 have hext:ExtV Z M (Z++[(some n,lb)]) M:=⟨sub_refl _,fun b p hp=>⟨p,by rw[List.getElem?_append_left (hlt b p hp)];exact hp,grow.refl p⟩⟩
 have hMn:∀ b x,M b=some x→b≠n:=by
  intro b x hb e
  subst e
  have:=(h.hM _ _ hb).1
  rw[h.fresh _ (Nat.le_refl _)] at this;cases this
 refine⟨hext,⟨h.hbs,by have:=h.hn;omega,h.fresh.upd _,by simp [h.hL],fun b x hb=>?_,sub_fr' h.h0 h.f0 h.hn,h.f0,h.hma,h.hbr,fun i a lb' hi=>?_,fun i lb' hi=>?_,fun i j a l1 l2 hi hj=>?_,fun i a lb' hi=>?_⟩,?_⟩
 ·obtain⟨h1,h2,h3⟩:=h.hM b x hb
  refine⟨by simp only[upd,if_neg (hMn b x hb)];exact h1,h2,fun i lb' e=>?_⟩
  rcases hget i _ e with e1|⟨_,e1⟩
  ·exact h3 i lb' e1
  ·cases e1;exact hMn _ x hb rfl
 ·rcases hget i _ hi with e1|⟨_,e1⟩
  ·obtain⟨h1,h2,h3⟩:=h.cell i a lb' e1
   exact⟨h1,by omega,h3.mono hext (by simp only[upd,if_neg (by omega:a≠n)])⟩
  ·cases e1
   exact⟨.inl h.hn,by omega,.of (cells:=cells) (by simp [upd]) (hr.mono hext)⟩
 ·rcases hget i _ hi with e1|⟨_,e1⟩
  ·exact h.nl i lb' e1
  ·cases e1
 ·rcases hget i _ hi with e1|⟨e0,e1⟩ <;> rcases hget j _ hj with e2|⟨e3,e2⟩
  ·exact h.inj i j a l1 l2 e1 e2
  ·cases e2;have:=(h.cell i _ _ e1).2.1;omega
  ·cases e1;have:=(h.cell j _ _ e2).2.1;omega
  ·omega
 ·rcases hget i _ hi with e1|⟨_,e1⟩
  ·exact h.lo i a lb' e1
  ·cases e1;exact .inl h.hn
 ·rw[←h.lenZ,List.getElem?_append_right (Nat.le_refl _)];simp
theorem StM.write {N:Nat} {c:Cx N} {Z M L m n} (h:StM c Z M L m n) {b a:Nat} {lb lb':LB} (hb:Z[b]?=some (some a,lb)) (cells:List Value) (hg:grow (some a,lb) (some a,lb')) (hsz:lb'.sz=lb.sz)
 (hr:LB.rel M (Z.set b (some a,lb')) lb' cells) :
 ExtV Z M (Z.set b (some a,lb')) M∧StM c (Z.set b (some a,lb')) M (L.set b lb') (upd m a (some ⟨cells,true,lb.sz⟩)) n:=by
 have hlt:b<Z.length:=(List.getElem?_eq_some_iff.1 hb).1
 have hget:∀ (i:Nat) p,(Z.set b (some a,lb'))[i]?=some p→(i≠b∧Z[i]?=some p)∨(i=b∧p=(some a,lb')):=by
  intro i p hp
  rw[List.getElem?_set] at hp
  by_cases e:b=i
  ·subst e;rw[if_pos rfl,if_pos hlt] at hp;cases hp;exact .inr ⟨rfl,rfl⟩
  ·rw[if_neg e] at hp;exact .inl ⟨fun e'=>e e'.symm,hp⟩
 have hext:ExtV Z M (Z.set b (some a,lb')) M:=by
  refine⟨sub_refl _,fun i p hp=>?_⟩
  by_cases e:b=i
  ·subst e;rw[hb] at hp;cases hp
   exact⟨_,by rw[List.getElem?_set,if_pos rfl,if_pos hlt],hg⟩
  ·exact⟨p,by rw[List.getElem?_set,if_neg e];exact hp,grow.refl p⟩
 obtain⟨ha0,han,_⟩:=h.cell b a lb hb
 refine⟨hext,⟨h.hbs,h.hn,fresh_upd h.fresh han,by simp [List.map_set,h.hL],fun b' x hb'=>?_,sub_upd h.h0 (h.m0A ha0),h.f0,h.hma,h.hbr,fun i a' l hi=>?_,fun i l hi=>?_,fun i j a' l1 l2 hi hj=>?_,fun i a' l hi=>?_⟩⟩
 ·obtain⟨h1,h2,h3⟩:=h.hM b' x hb'
  have hne:b'≠a:=fun e=>h3 b lb (by rw[e];exact hb)
  refine⟨by simp only[upd,if_neg hne];exact h1,h2,fun i l e=>?_⟩
  rcases hget i _ e with⟨_,e1⟩|⟨_,e1⟩
  ·exact h3 i l e1
  ·cases e1;exact hne rfl
 ·rcases hget i _ hi with⟨hne,e1⟩|⟨_,e1⟩
  ·obtain⟨h1,h2,h3⟩:=h.cell i a' l e1
   have:a'≠a:=fun e=>hne (h.inj i b a l lb (by rw[←e];exact e1) hb)
   exact⟨h1,h2,h3.mono hext (by simp only[upd,if_neg this])⟩
  ·cases e1
   exact⟨ha0,han,.of (cells:=cells) (by simp [upd,hsz]) hr⟩
 ·rcases hget i _ hi with⟨_,e1⟩|⟨_,e1⟩
  ·exact h.nl i l e1
  ·cases e1
 ·rcases hget i _ hi with⟨hne,e1⟩|⟨e0,e1⟩ <;> rcases hget j _ hj with⟨hne',e2⟩|⟨e3,e2⟩
  ·exact h.inj i j a' l1 l2 e1 e2
  ·cases e2;exact absurd (h.inj i b _ _ _ e1 hb) hne
  ·cases e1;exact absurd (h.inj j b _ _ _ e2 hb) hne'
  ·omega
 ·rcases hget i _ hi with⟨_,e1⟩|⟨e0,e1⟩
  ·exact h.lo i a' l e1
  ·cases e1;subst e0;exact h.lo i a lb hb
end Go.Proofs.YtoppcdecolponaaGreat.AL
